/- Plain: the reference's flood over the frame around a part, by numbers. No conditions. -/
import Derived.Test.YtmgofdgbenfjmaaDoorUf
import Derived.Test.YtmgofdgbenfjmaaDoorPtP
namespace Go.Proofs.YtmgofdgbenfjmaaDoor

theorem scan_cells {fw : Nat} (hf : 0 < fw) (x y : Int) (h : Nat) : ((List.range h).flatMap fun (j : Nat) => rowL x fw (y + (j : Int))) = (List.range (fw * h)).map fun i => (x + ((i % fw : Nat) : Int), y + ((i / fw : Nat) : Int)) := by
  induction h with
  | zero => simp
  | succ h ih =>
    rw [List.range_succ, List.flatMap_append, ih, Nat.mul_succ, List.range_add, List.map_append]
    congr 1
    rw [List.flatMap_cons, List.flatMap_nil, List.append_nil, List.map_map]
    unfold rowL
    refine List.map_congr_left fun i hi => ?_
    have hi := List.mem_range.1 hi
    show (x + (i : Int), y + (h : Int)) = (x + (((fw * h + i) % fw : Nat) : Int), y + (((fw * h + i) / fw : Nat) : Int))
    rw [Nat.mul_add_mod, Nat.mod_eq_of_lt hi, Nat.mul_add_div hf, Nat.div_eq_of_lt hi, Nat.add_zero]
/-- the i-th cell of the frame -/
def celF (b : Bx) (fw i : Nat) : Cel := (b.x0 - 1 + ((i % fw : Nat) : Int), b.y0 - 1 + ((i / fw : Nat) : Int))
theorem frame_cells {b : Bx} {W H : Nat} (hW : b.x1 + 1 - b.x0 = W) (hH : b.y1 + 1 - b.y0 = H) : boxCells b.fr = (List.range ((W + 2) * (H + 2))).map (celF b (W + 2)) := by
  unfold boxCells Bx.fr
  dsimp only
  rw [show (b.y1 + 1 + 1 - (b.y0 - 1)).toNat = H + 2 by omega, show (b.x1 + 1 + 1 - (b.x0 - 1)).toNat = W + 2 by omega]
  exact scan_cells (by omega) _ _ _
theorem frame_at {b : Bx} {fw u v : Nat} (hu : u < fw) : celF b fw (v * fw + u) = (b.x0 - 1 + (u : Int), b.y0 - 1 + (v : Int)) := by
  unfold celF
  rw [Nat.mul_comm v fw, Nat.mul_add_mod, Nat.mod_eq_of_lt hu, Nat.mul_add_div (by omega), Nat.div_eq_of_lt hu, Nat.add_zero]
/-- side by side in the frame, or the same -/
def AdjF (fw j k : Nat) : Prop := k / fw ≤ j / fw + 1 ∧ j / fw ≤ k / fw + 1 ∧ k % fw ≤ j % fw + 1 ∧ j % fw ≤ k % fw + 1
theorem near_adj {b : Bx} {fw j k : Nat} (h : celF b fw k ∈ nearL (celF b fw j)) : AdjF fw j k := by
  unfold celF at h
  simp only [nearL, List.mem_cons, List.not_mem_nil, or_false, Prod.mk.injEq] at h
  unfold AdjF
  omega
theorem adj_near {b : Bx} {fw j k : Nat} (h : AdjF fw j k) (hne : k ≠ j) : celF b fw k ∈ nearL (celF b fw j) := by
  unfold AdjF at h
  have hd : ¬ (k % fw = j % fw ∧ k / fw = j / fw) := fun ⟨h1, h2⟩ => hne (by rw [← Nat.div_add_mod k fw, ← Nat.div_add_mod j fw, h1, h2])
  unfold celF
  simp only [nearL, List.mem_cons, List.not_mem_nil, or_false, Prod.mk.injEq]
  omega
/-- what is free lies in the frame -/
theorem free_at {l : List Cel} {b : Bx} {W H : Nat} (hW : b.x1 + 1 - b.x0 = W) (hH : b.y1 + 1 - b.y0 = H) {c : Cel} (h : freeL l b c = true) : ∃ i, i < (W + 2) * (H + 2) ∧ celF b (W + 2) i = c := by
  have hm : c ∈ boxCells b.fr := by
    rw [mem_box]
    unfold freeL at h
    simp only [Bool.and_eq_true, decide_eq_true_eq] at h
    unfold Bx.fr
    dsimp only
    omega
  rw [frame_cells hW hH] at hm
  obtain ⟨i, hi, e⟩ := List.mem_map.1 hm
  exact ⟨i, List.mem_range.1 hi, e⟩

/-- a flood with a stack: x tells the cell in hand -/
structure DfI (N : Nat) (F0 : Nat → Bool) (Adj : Nat → Nat → Prop) (Rs O : Nat → Prop) (f : Nat → Bool) (T : List Nat) (x : Nat → Prop) : Prop where
  sub : ∀ j, j < N → f j = true → F0 j = true
  top : ∀ c ∈ T, c < N ∧ F0 c = true ∧ Rs c ∧ f c = false
  mark : ∀ j, j < N → F0 j = true → f j = false → O j ∨ Rs j
  old : ∀ j, j < N → F0 j = true → O j → f j = false
  done : ∀ j, j < N → F0 j = true → f j = false → j ∈ T ∨ x j ∨ ∀ k, k < N → Adj j k → F0 k = true → f k = false
def updF (f : Nat → Bool) (i : Nat) : Nat → Bool := fun k => if k = i then false else f k
theorem updF_false {f : Nat → Bool} {i k : Nat} (h : f k = false) : updF f i k = false := by
  unfold updF; split
  · rfl
  · exact h
theorem updF_true {f : Nat → Bool} {i k : Nat} (h : updF f i k = true) : f k = true := by
  unfold updF at h; split at h
  · cases h
  · exact h
section
variable {N : Nat} {F0 : Nat → Bool} {Adj : Nat → Nat → Prop} {Rs O : Nat → Prop} {f : Nat → Bool} {T : List Nat} {x : Nat → Prop}
theorem DfI.pop {c : Nat} (h : DfI N F0 Adj Rs O f (T ++ [c]) (fun _ => False)) : DfI N F0 Adj Rs O f T (fun j => j = c) ∧ c < N ∧ F0 c = true ∧ Rs c ∧ f c = false := by
  refine ⟨⟨h.sub, fun d hd => h.top d (by simp [hd]), h.mark, h.old, fun j hj h0 hf => ?_⟩, h.top c (by simp)⟩
  rcases h.done j hj h0 hf with h1 | h1 | h1
  · rcases List.mem_append.1 h1 with h1 | h1
    · exact .inl h1
    · exact .inr (.inl (by simpa using h1))
  · exact h1.elim
  · exact .inr (.inr h1)
theorem DfI.push {k : Nat} (h : DfI N F0 Adj Rs O f T x) (hk : k < N) (hf : f k = true) (hr : F0 k = true → Rs k) : DfI N F0 Adj Rs O (updF f k) (T ++ [k]) x := by
  have h0 := h.sub k hk hf
  refine ⟨fun j hj hj2 => h.sub j hj (updF_true hj2), fun d hd => ?_, fun j hj hj0 hj2 => ?_, fun j hj hj0 hj2 => updF_false (h.old j hj hj0 hj2), fun j hj hj0 hj2 => ?_⟩
  · rcases List.mem_append.1 hd with hd | hd
    · obtain ⟨a, b, c', d'⟩ := h.top d hd
      exact ⟨a, b, c', updF_false d'⟩
    · simp at hd; subst hd
      exact ⟨hk, h0, hr h0, by unfold updF; rw [if_pos rfl]⟩
  · by_cases e : j = k
    · subst e; exact .inr (hr h0)
    · unfold updF at hj2; rw [if_neg e] at hj2
      exact h.mark j hj hj0 hj2
  · by_cases e : j = k
    · subst e; exact .inl (by simp)
    · unfold updF at hj2; rw [if_neg e] at hj2
      rcases h.done j hj hj0 hj2 with h1 | h1 | h1
      · exact .inl (by simp [h1])
      · exact .inr (.inl h1)
      · exact .inr (.inr fun i hi ha hi0 => updF_false (h1 i hi ha hi0))
theorem DfI.fin {c : Nat} (h : DfI N F0 Adj Rs O f T (fun j => j = c)) (hc : ∀ k, k < N → Adj c k → F0 k = true → f k = false) : DfI N F0 Adj Rs O f T (fun _ => False) := by
  refine ⟨h.sub, h.top, h.mark, h.old, fun j hj h0 hf => ?_⟩
  rcases h.done j hj h0 hf with h1 | h1 | h1
  · exact .inl h1
  · subst h1; exact .inr (.inr hc)
  · exact .inr (.inr h1)
end
/-- between two floods: what is marked is what the starts reach -/
structure OuI (N : Nat) (F0 : Nat → Bool) (R : Nat → Nat → Prop) (f : Nat → Bool) (M : List Nat) : Prop where
  sub : ∀ j, j < N → f j = true → F0 j = true
  iff : ∀ j, j < N → F0 j = true → (f j = false ↔ ∃ m ∈ M, R m j)
/-- what the steps between free numbers do -/
structure RcN (N : Nat) (F0 : Nat → Bool) (Adj : Nat → Nat → Prop) (R : Nat → Nat → Prop) : Prop where
  refl : ∀ i, R i i
  step : ∀ i j k, R i j → j < N → k < N → F0 k = true → Adj j k → R i k
  ind : ∀ i (P : Nat → Prop), P i → (∀ j k, P j → j < N → F0 j = true → k < N → F0 k = true → Adj j k → P k) → i < N → F0 i = true → ∀ j, j < N → R i j → P j
section
variable {N : Nat} {F0 : Nat → Bool} {Adj R : Nat → Nat → Prop} {f : Nat → Bool} {M : List Nat}
theorem OuI.start (h : OuI N F0 R f M) (hr : RcN N F0 Adj R) {i : Nat} (hi : i < N) (hf : f i = true) : DfI N F0 Adj (R i) (fun j => ∃ m ∈ M, R m j) (updF f i) [i] (fun _ => False) ∧ F0 i = true ∧ ¬ ∃ m ∈ M, R m i := by
  have h0 := h.sub i hi hf
  refine ⟨⟨fun j hj hj2 => h.sub j hj (updF_true hj2), fun c hc => ?_, fun j hj hj0 hj2 => ?_, fun j hj hj0 hj2 => updF_false ((h.iff j hj hj0).2 hj2), fun j hj hj0 hj2 => ?_⟩, h0, fun hm => by have := (h.iff i hi h0).2 hm; rw [hf] at this; cases this⟩
  · simp at hc; subst hc
    exact ⟨hi, h0, hr.refl _, by unfold updF; rw [if_pos rfl]⟩
  · by_cases e : j = i
    · subst e; exact .inr (hr.refl _)
    · unfold updF at hj2; rw [if_neg e] at hj2
      exact .inl ((h.iff j hj hj0).1 hj2)
  · by_cases e : j = i
    · subst e; exact .inl (by simp)
    · unfold updF at hj2; rw [if_neg e] at hj2
      refine .inr (.inr fun k hk ha hk0 => updF_false ?_)
      obtain ⟨m, hm, hmj⟩ := (h.iff j hj hj0).1 hj2
      exact (h.iff k hk hk0).2 ⟨m, hm, hr.step m j k hmj hj hk hk0 ha⟩
theorem DfI.out {i : Nat} (h : DfI N F0 Adj (R i) (fun j => ∃ m ∈ M, R m j) f [] (fun _ => False)) (hr : RcN N F0 Adj R) (hi : i < N) (h0 : F0 i = true) (hfi : f i = false) : OuI N F0 R f (i :: M) := by
  refine ⟨h.sub, fun j hj hj0 => ⟨fun hj2 => ?_, fun ⟨m, hm, hmj⟩ => ?_⟩⟩
  · rcases h.mark j hj hj0 hj2 with ⟨m, hm, h1⟩ | h1
    · exact ⟨m, by simp [hm], h1⟩
    · exact ⟨i, by simp, h1⟩
  · rcases List.mem_cons.1 hm with rfl | hm
    · refine hr.ind m (fun k => f k = false) hfi (fun a b ha haN ha0 hbN hb0 hab => ?_) hi h0 j hj hmj
      rcases h.done a haN ha0 ha with h1 | h1 | h1
      · simp at h1
      · exact h1.elim
      · exact h1 b hbN hab hb0
    · exact h.old j hj hj0 ⟨m, hm, hmj⟩
end
/-- reached in the frame -/
theorem rcn_frame {l : List Cel} {b : Bx} {W H : Nat} (hW : b.x1 + 1 - b.x0 = W) (hH : b.y1 + 1 - b.y0 = H) {F0 : Nat → Bool} (hF : ∀ i, i < (W + 2) * (H + 2) → F0 i = freeL l b (celF b (W + 2) i)) :
    RcN ((W + 2) * (H + 2)) F0 (AdjF (W + 2)) (fun i j => Rch nearL (freeL l b) (celF b (W + 2) i) (celF b (W + 2) j)) := by
  have hinj : ∀ i j, celF b (W + 2) i = celF b (W + 2) j → i = j := by
    intro i j e
    unfold celF at e
    have e1 := congrArg Prod.fst e
    have e2 := congrArg Prod.snd e
    dsimp only at e1 e2
    rw [← Nat.div_add_mod i (W + 2), ← Nat.div_add_mod j (W + 2), show i % (W + 2) = j % (W + 2) by omega, show i / (W + 2) = j / (W + 2) by omega]
  refine ⟨fun i => .refl, fun i j k h _ hk hk0 ha => ?_, fun i P hP hs hi hi0 j hj h => ?_⟩
  · by_cases e : k = j
    · subst e; exact h
    · exact .step h (adj_near ha e) (by rw [← hF k hk]; exact hk0)
  · have key : ∀ d, Rch nearL (freeL l b) (celF b (W + 2) i) d → ∃ k, k < (W + 2) * (H + 2) ∧ celF b (W + 2) k = d ∧ F0 k = true ∧ P k := by
      intro d hd
      induction hd with
      | refl => exact ⟨i, hi, rfl, hi0, hP⟩
      | step h1 h2 h3 ih =>
        obtain ⟨k, hk, rfl, hk0, hPk⟩ := ih
        obtain ⟨m, hm, rfl⟩ := free_at hW hH h3
        have hm0 : F0 m = true := by rw [hF m hm]; exact h3
        exact ⟨m, hm, rfl, hm0, hs k m hPk hk hk0 hm hm0 (near_adj h2)⟩
    obtain ⟨k, _, e, _, hPk⟩ := key _ h
    rw [← hinj _ _ e]; exact hPk
/-- how many are free -/
def cntF (f : Nat → Bool) : Nat → Nat
  | 0 => 0
  | n + 1 => cntF f n + (if f n then 1 else 0)
theorem cntF_le (f : Nat → Bool) : ∀ n, cntF f n ≤ n
  | 0 => Nat.le_refl _
  | n + 1 => by have := cntF_le f n; unfold cntF; split <;> omega
theorem cntF_past {f : Nat → Bool} {i : Nat} : ∀ n, n ≤ i → cntF (updF f i) n = cntF f n
  | 0, _ => rfl
  | n + 1, h => by
    unfold cntF
    rw [cntF_past n (by omega)]
    have : updF f i n = f n := by unfold updF; rw [if_neg (by omega)]
    rw [this]
theorem cntF_upd {f : Nat → Bool} {i : Nat} (hf : f i = true) : ∀ n, i < n → cntF (updF f i) n + 1 = cntF f n
  | 0, h => by omega
  | n + 1, h => by
    unfold cntF
    by_cases e : n = i
    · subst e
      rw [cntF_past n (Nat.le_refl _), hf]
      have : updF f n n = false := by unfold updF; rw [if_pos rfl]
      rw [this]; simp
    · have := cntF_upd hf n (by omega)
      have e2 : updF f i n = f n := by unfold updF; rw [if_neg e]
      rw [e2]; omega
/-- the neighbours looked at are marked -/
def Nbr (fw vlo ulo uhi : Nat) (f : Nat → Bool) (vv uu : Nat) : Prop := ∀ a b, vlo ≤ a → ulo ≤ b → b ≤ uhi → (a < vv ∨ (a = vv ∧ b < uu)) → f (a * fw + b) = false
section
variable {fw vlo ulo uhi vv uu : Nat} {f : Nat → Bool}
theorem Nbr.start : Nbr fw vlo ulo uhi f vlo ulo := fun a b h1 h2 _ h => by omega
theorem Nbr.skip (h : Nbr fw vlo ulo uhi f vv uu) (hf : f (vv * fw + uu) = false) : Nbr fw vlo ulo uhi f vv (uu + 1) := fun a b h1 h2 h3 h4 => by
  by_cases e : a = vv ∧ b = uu
  · obtain ⟨rfl, rfl⟩ := e; exact hf
  · exact h a b h1 h2 h3 (by omega)
theorem Nbr.mark (h : Nbr fw vlo ulo uhi f vv uu) : Nbr fw vlo ulo uhi (updF f (vv * fw + uu)) vv (uu + 1) := fun a b h1 h2 h3 h4 => by
  by_cases e : a = vv ∧ b = uu
  · obtain ⟨rfl, rfl⟩ := e; unfold updF; rw [if_pos rfl]
  · exact updF_false (h a b h1 h2 h3 (by omega))
theorem Nbr.row (h : Nbr fw vlo ulo uhi f vv (uhi + 1)) : Nbr fw vlo ulo uhi f (vv + 1) ulo := fun a b h1 h2 h3 h4 => h a b h1 h2 h3 (by omega)
theorem Nbr.done {fh c : Nat} (hf : 0 < fw) (h : Nbr fw (c / fw - 1) (c % fw - 1) (min (fw - 1) (c % fw + 1)) f (min (fh - 1) (c / fw + 1) + 1) (c % fw - 1)) : ∀ k, k < fw * fh → AdjF fw c k → f k = false := fun k hk ha => by
  unfold AdjF at ha
  have h1 : k / fw < fh := Nat.div_lt_of_lt_mul hk
  have h2 : k % fw < fw := Nat.mod_lt _ hf
  have e : k / fw * fw + k % fw = k := by rw [Nat.mul_comm, Nat.div_add_mod]
  generalize k / fw = kq at *
  generalize k % fw = kr at *
  generalize c / fw = cq at *
  generalize c % fw = cr at *
  have := h kq kr (by omega) (by omega) (by omega) (by omega)
  rw [e] at this
  exact this
theorem adj_at {c vv uu : Nat} (h1 : c / fw - 1 ≤ vv) (h2 : vv ≤ c / fw + 1) (h3 : c % fw - 1 ≤ uu) (h4 : uu ≤ c % fw + 1) (hu : uu < fw) : AdjF fw c (vv * fw + uu) := by
  unfold AdjF
  rw [Nat.mul_comm vv fw, Nat.mul_add_mod, Nat.mod_eq_of_lt hu, Nat.mul_add_div (by omega), Nat.div_eq_of_lt hu, Nat.add_zero]
  generalize c / fw = cq at *
  generalize c % fw = cr at *
  omega
end
/-- what is in the frame is free where it is out of the box or not in the class -/
theorem free_out {l : List Cel} {b : Bx} {c : Cel} (hl : ∀ c ∈ l, b.inB c = true) (hf : b.x0 - 1 ≤ c.1 ∧ c.1 ≤ b.x1 + 1 ∧ b.y0 - 1 ≤ c.2 ∧ c.2 ≤ b.y1 + 1) : freeL l b c = !decide (c ∈ l) := by
  unfold freeL
  rw [decide_eq_true hf.1, decide_eq_true hf.2.1, decide_eq_true hf.2.2.1, decide_eq_true hf.2.2.2]
  simp
end Go.Proofs.YtmgofdgbenfjmaaDoor
