/- Texts joined: HoP, Ho, RpP, Rp. Conditions: see each. -/
import Derived.Test.YtmgofdgbenfjmaaDoorFl1
import Derived.Test.YtmgofdgbenfjmaaDoorPt1
import Derived.Test.YtmgofdgbenfjmaaDoorRu
import Derived.Test.YtmgofdgbenfjmaaDoorGok
import Derived.Test.YtmgofdgbenfjmaaDoorRg1
import Derived.Test.YtmgofdgbenfjmaaDoorDi1
import Derived.Deep.AppendLies
namespace Go.Proofs.YtmgofdgbenfjmaaDoor
open Go.RowKit

theorem scan_cells {fw : Nat} (hf : 0 < fw) (x y : Int) (h : Nat) : ((List.range h).flatMap fun (j : Nat) => rowL x fw (y + (j : Int))) = (List.range (fw * h)).map fun i => (x + ((i % fw : Nat) : Int), y + ((i / fw : Nat) : Int)) := by
  induction h with
  | zero => simp
  | succ h ih =>
    rw [List.range_succ, List.flatMap_append, ih, Nat.mul_succ, List.range_add, List.map_append]
    congr 1
    rw [List.flatMap_cons, List.flatMap_nil, List.append_nil, List.map_map]
    unfold rowL
    refine List.map_congr_left fun i hi => ?_
    have hi := List.mem_range.1 hi
    show (x + (i : Int), y + (h : Int)) = (x + (((fw * h + i) % fw : Nat) : Int), y + (((fw * h + i) / fw : Nat) : Int))
    rw [Nat.mul_add_mod, Nat.mod_eq_of_lt hi, Nat.mul_add_div hf, Nat.div_eq_of_lt hi, Nat.add_zero]
/-- the i-th cell of the frame -/
def celF (b : Bx) (fw i : Nat) : Cel := (b.x0 - 1 + ((i % fw : Nat) : Int), b.y0 - 1 + ((i / fw : Nat) : Int))
theorem frame_cells {b : Bx} {W H : Nat} (hW : b.x1 + 1 - b.x0 = W) (hH : b.y1 + 1 - b.y0 = H) : boxCells b.fr = (List.range ((W + 2) * (H + 2))).map (celF b (W + 2)) := by
  unfold boxCells Bx.fr
  dsimp only
  rw [show (b.y1 + 1 + 1 - (b.y0 - 1)).toNat = H + 2 by omega, show (b.x1 + 1 + 1 - (b.x0 - 1)).toNat = W + 2 by omega]
  exact scan_cells (by omega) _ _ _
theorem frame_at {b : Bx} {fw u v : Nat} (hu : u < fw) : celF b fw (v * fw + u) = (b.x0 - 1 + (u : Int), b.y0 - 1 + (v : Int)) := by
  unfold celF
  rw [Nat.mul_comm v fw, Nat.mul_add_mod, Nat.mod_eq_of_lt hu, Nat.mul_add_div (by omega), Nat.div_eq_of_lt hu, Nat.add_zero]
/-- side by side in the frame, or the same -/
def AdjF (fw j k : Nat) : Prop := k / fw ≤ j / fw + 1 ∧ j / fw ≤ k / fw + 1 ∧ k % fw ≤ j % fw + 1 ∧ j % fw ≤ k % fw + 1
theorem near_adj {b : Bx} {fw j k : Nat} (h : celF b fw k ∈ nearL (celF b fw j)) : AdjF fw j k := by
  unfold celF at h
  simp only [nearL, List.mem_cons, List.not_mem_nil, or_false, Prod.mk.injEq] at h
  unfold AdjF
  omega
theorem adj_near {b : Bx} {fw j k : Nat} (h : AdjF fw j k) (hne : k ≠ j) : celF b fw k ∈ nearL (celF b fw j) := by
  unfold AdjF at h
  have hd : ¬ (k % fw = j % fw ∧ k / fw = j / fw) := fun ⟨h1, h2⟩ => hne (by rw [← Nat.div_add_mod k fw, ← Nat.div_add_mod j fw, h1, h2])
  unfold celF
  simp only [nearL, List.mem_cons, List.not_mem_nil, or_false, Prod.mk.injEq]
  omega
/-- what is free lies in the frame -/
theorem free_at {l : List Cel} {b : Bx} {W H : Nat} (hW : b.x1 + 1 - b.x0 = W) (hH : b.y1 + 1 - b.y0 = H) {c : Cel} (h : freeL l b c = true) : ∃ i, i < (W + 2) * (H + 2) ∧ celF b (W + 2) i = c := by
  have hm : c ∈ boxCells b.fr := by
    rw [mem_box]
    unfold freeL at h
    simp only [Bool.and_eq_true, decide_eq_true_eq] at h
    unfold Bx.fr
    dsimp only
    omega
  rw [frame_cells hW hH] at hm
  obtain ⟨i, hi, e⟩ := List.mem_map.1 hm
  exact ⟨i, List.mem_range.1 hi, e⟩

/-- a flood with a stack: x tells the cell in hand -/
structure DfI (N : Nat) (F0 : Nat → Bool) (Adj : Nat → Nat → Prop) (Rs O : Nat → Prop) (f : Nat → Bool) (T : List Nat) (x : Nat → Prop) : Prop where
  sub : ∀ j, j < N → f j = true → F0 j = true
  top : ∀ c ∈ T, c < N ∧ F0 c = true ∧ Rs c ∧ f c = false
  mark : ∀ j, j < N → F0 j = true → f j = false → O j ∨ Rs j
  old : ∀ j, j < N → F0 j = true → O j → f j = false
  done : ∀ j, j < N → F0 j = true → f j = false → j ∈ T ∨ x j ∨ ∀ k, k < N → Adj j k → F0 k = true → f k = false
def updF (f : Nat → Bool) (i : Nat) : Nat → Bool := fun k => if k = i then false else f k
theorem updF_false {f : Nat → Bool} {i k : Nat} (h : f k = false) : updF f i k = false := by
  unfold updF; split
  · rfl
  · exact h
theorem updF_true {f : Nat → Bool} {i k : Nat} (h : updF f i k = true) : f k = true := by
  unfold updF at h; split at h
  · cases h
  · exact h
section
variable {N : Nat} {F0 : Nat → Bool} {Adj : Nat → Nat → Prop} {Rs O : Nat → Prop} {f : Nat → Bool} {T : List Nat} {x : Nat → Prop}
theorem DfI.pop {c : Nat} (h : DfI N F0 Adj Rs O f (T ++ [c]) (fun _ => False)) : DfI N F0 Adj Rs O f T (fun j => j = c) ∧ c < N ∧ F0 c = true ∧ Rs c ∧ f c = false := by
  refine ⟨⟨h.sub, fun d hd => h.top d (by simp [hd]), h.mark, h.old, fun j hj h0 hf => ?_⟩, h.top c (by simp)⟩
  rcases h.done j hj h0 hf with h1 | h1 | h1
  · rcases List.mem_append.1 h1 with h1 | h1
    · exact .inl h1
    · exact .inr (.inl (by simpa using h1))
  · exact h1.elim
  · exact .inr (.inr h1)
theorem DfI.push {k : Nat} (h : DfI N F0 Adj Rs O f T x) (hk : k < N) (hf : f k = true) (hr : F0 k = true → Rs k) : DfI N F0 Adj Rs O (updF f k) (T ++ [k]) x := by
  have h0 := h.sub k hk hf
  refine ⟨fun j hj hj2 => h.sub j hj (updF_true hj2), fun d hd => ?_, fun j hj hj0 hj2 => ?_, fun j hj hj0 hj2 => updF_false (h.old j hj hj0 hj2), fun j hj hj0 hj2 => ?_⟩
  · rcases List.mem_append.1 hd with hd | hd
    · obtain ⟨a, b, c', d'⟩ := h.top d hd
      exact ⟨a, b, c', updF_false d'⟩
    · simp at hd; subst hd
      exact ⟨hk, h0, hr h0, by unfold updF; rw [if_pos rfl]⟩
  · by_cases e : j = k
    · subst e; exact .inr (hr h0)
    · unfold updF at hj2; rw [if_neg e] at hj2
      exact h.mark j hj hj0 hj2
  · by_cases e : j = k
    · subst e; exact .inl (by simp)
    · unfold updF at hj2; rw [if_neg e] at hj2
      rcases h.done j hj hj0 hj2 with h1 | h1 | h1
      · exact .inl (by simp [h1])
      · exact .inr (.inl h1)
      · exact .inr (.inr fun i hi ha hi0 => updF_false (h1 i hi ha hi0))
theorem DfI.fin {c : Nat} (h : DfI N F0 Adj Rs O f T (fun j => j = c)) (hc : ∀ k, k < N → Adj c k → F0 k = true → f k = false) : DfI N F0 Adj Rs O f T (fun _ => False) := by
  refine ⟨h.sub, h.top, h.mark, h.old, fun j hj h0 hf => ?_⟩
  rcases h.done j hj h0 hf with h1 | h1 | h1
  · exact .inl h1
  · subst h1; exact .inr (.inr hc)
  · exact .inr (.inr h1)
end
/-- between two floods: what is marked is what the starts reach -/
structure OuI (N : Nat) (F0 : Nat → Bool) (R : Nat → Nat → Prop) (f : Nat → Bool) (M : List Nat) : Prop where
  sub : ∀ j, j < N → f j = true → F0 j = true
  iff : ∀ j, j < N → F0 j = true → (f j = false ↔ ∃ m ∈ M, R m j)
/-- what the steps between free numbers do -/
structure RcN (N : Nat) (F0 : Nat → Bool) (Adj : Nat → Nat → Prop) (R : Nat → Nat → Prop) : Prop where
  refl : ∀ i, R i i
  step : ∀ i j k, R i j → j < N → k < N → F0 k = true → Adj j k → R i k
  ind : ∀ i (P : Nat → Prop), P i → (∀ j k, P j → j < N → F0 j = true → k < N → F0 k = true → Adj j k → P k) → i < N → F0 i = true → ∀ j, j < N → R i j → P j
section
variable {N : Nat} {F0 : Nat → Bool} {Adj R : Nat → Nat → Prop} {f : Nat → Bool} {M : List Nat}
theorem OuI.start (h : OuI N F0 R f M) (hr : RcN N F0 Adj R) {i : Nat} (hi : i < N) (hf : f i = true) : DfI N F0 Adj (R i) (fun j => ∃ m ∈ M, R m j) (updF f i) [i] (fun _ => False) ∧ F0 i = true ∧ ¬ ∃ m ∈ M, R m i := by
  have h0 := h.sub i hi hf
  refine ⟨⟨fun j hj hj2 => h.sub j hj (updF_true hj2), fun c hc => ?_, fun j hj hj0 hj2 => ?_, fun j hj hj0 hj2 => updF_false ((h.iff j hj hj0).2 hj2), fun j hj hj0 hj2 => ?_⟩, h0, fun hm => by have := (h.iff i hi h0).2 hm; rw [hf] at this; cases this⟩
  · simp at hc; subst hc
    exact ⟨hi, h0, hr.refl _, by unfold updF; rw [if_pos rfl]⟩
  · by_cases e : j = i
    · subst e; exact .inr (hr.refl _)
    · unfold updF at hj2; rw [if_neg e] at hj2
      exact .inl ((h.iff j hj hj0).1 hj2)
  · by_cases e : j = i
    · subst e; exact .inl (by simp)
    · unfold updF at hj2; rw [if_neg e] at hj2
      refine .inr (.inr fun k hk ha hk0 => updF_false ?_)
      obtain ⟨m, hm, hmj⟩ := (h.iff j hj hj0).1 hj2
      exact (h.iff k hk hk0).2 ⟨m, hm, hr.step m j k hmj hj hk hk0 ha⟩
theorem DfI.out {i : Nat} (h : DfI N F0 Adj (R i) (fun j => ∃ m ∈ M, R m j) f [] (fun _ => False)) (hr : RcN N F0 Adj R) (hi : i < N) (h0 : F0 i = true) (hfi : f i = false) : OuI N F0 R f (i :: M) := by
  refine ⟨h.sub, fun j hj hj0 => ⟨fun hj2 => ?_, fun ⟨m, hm, hmj⟩ => ?_⟩⟩
  · rcases h.mark j hj hj0 hj2 with ⟨m, hm, h1⟩ | h1
    · exact ⟨m, by simp [hm], h1⟩
    · exact ⟨i, by simp, h1⟩
  · rcases List.mem_cons.1 hm with rfl | hm
    · refine hr.ind m (fun k => f k = false) hfi (fun a b ha haN ha0 hbN hb0 hab => ?_) hi h0 j hj hmj
      rcases h.done a haN ha0 ha with h1 | h1 | h1
      · simp at h1
      · exact h1.elim
      · exact h1 b hbN hab hb0
    · exact h.old j hj hj0 ⟨m, hm, hmj⟩
end
/-- reached in the frame -/
theorem rcn_frame {l : List Cel} {b : Bx} {W H : Nat} (hW : b.x1 + 1 - b.x0 = W) (hH : b.y1 + 1 - b.y0 = H) {F0 : Nat → Bool} (hF : ∀ i, i < (W + 2) * (H + 2) → F0 i = freeL l b (celF b (W + 2) i)) :
    RcN ((W + 2) * (H + 2)) F0 (AdjF (W + 2)) (fun i j => Rch nearL (freeL l b) (celF b (W + 2) i) (celF b (W + 2) j)) := by
  have hinj : ∀ i j, celF b (W + 2) i = celF b (W + 2) j → i = j := by
    intro i j e
    unfold celF at e
    have e1 := congrArg Prod.fst e
    have e2 := congrArg Prod.snd e
    dsimp only at e1 e2
    rw [← Nat.div_add_mod i (W + 2), ← Nat.div_add_mod j (W + 2), show i % (W + 2) = j % (W + 2) by omega, show i / (W + 2) = j / (W + 2) by omega]
  refine ⟨fun i => .refl, fun i j k h _ hk hk0 ha => ?_, fun i P hP hs hi hi0 j hj h => ?_⟩
  · by_cases e : k = j
    · subst e; exact h
    · exact .step h (adj_near ha e) (by rw [← hF k hk]; exact hk0)
  · have key : ∀ d, Rch nearL (freeL l b) (celF b (W + 2) i) d → ∃ k, k < (W + 2) * (H + 2) ∧ celF b (W + 2) k = d ∧ F0 k = true ∧ P k := by
      intro d hd
      induction hd with
      | refl => exact ⟨i, hi, rfl, hi0, hP⟩
      | step h1 h2 h3 ih =>
        obtain ⟨k, hk, rfl, hk0, hPk⟩ := ih
        obtain ⟨m, hm, rfl⟩ := free_at hW hH h3
        have hm0 : F0 m = true := by rw [hF m hm]; exact h3
        exact ⟨m, hm, rfl, hm0, hs k m hPk hk hk0 hm hm0 (near_adj h2)⟩
    obtain ⟨k, _, e, _, hPk⟩ := key _ h
    rw [← hinj _ _ e]; exact hPk
/-- how many are free -/
def cntF (f : Nat → Bool) : Nat → Nat
  | 0 => 0
  | n + 1 => cntF f n + (if f n then 1 else 0)
theorem cntF_le (f : Nat → Bool) : ∀ n, cntF f n ≤ n
  | 0 => Nat.le_refl _
  | n + 1 => by have := cntF_le f n; unfold cntF; split <;> omega
theorem cntF_past {f : Nat → Bool} {i : Nat} : ∀ n, n ≤ i → cntF (updF f i) n = cntF f n
  | 0, _ => rfl
  | n + 1, h => by
    unfold cntF
    rw [cntF_past n (by omega)]
    have : updF f i n = f n := by unfold updF; rw [if_neg (by omega)]
    rw [this]
theorem cntF_upd {f : Nat → Bool} {i : Nat} (hf : f i = true) : ∀ n, i < n → cntF (updF f i) n + 1 = cntF f n
  | 0, h => by omega
  | n + 1, h => by
    unfold cntF
    by_cases e : n = i
    · subst e
      rw [cntF_past n (Nat.le_refl _), hf]
      have : updF f n n = false := by unfold updF; rw [if_pos rfl]
      rw [this]; simp
    · have := cntF_upd hf n (by omega)
      have e2 : updF f i n = f n := by unfold updF; rw [if_neg e]
      rw [e2]; omega
/-- the neighbours looked at are marked -/
def Nbr (fw vlo ulo uhi : Nat) (f : Nat → Bool) (vv uu : Nat) : Prop := ∀ a b, vlo ≤ a → ulo ≤ b → b ≤ uhi → (a < vv ∨ (a = vv ∧ b < uu)) → f (a * fw + b) = false
section
variable {fw vlo ulo uhi vv uu : Nat} {f : Nat → Bool}
theorem Nbr.start : Nbr fw vlo ulo uhi f vlo ulo := fun a b h1 h2 _ h => by omega
theorem Nbr.skip (h : Nbr fw vlo ulo uhi f vv uu) (hf : f (vv * fw + uu) = false) : Nbr fw vlo ulo uhi f vv (uu + 1) := fun a b h1 h2 h3 h4 => by
  by_cases e : a = vv ∧ b = uu
  · obtain ⟨rfl, rfl⟩ := e; exact hf
  · exact h a b h1 h2 h3 (by omega)
theorem Nbr.mark (h : Nbr fw vlo ulo uhi f vv uu) : Nbr fw vlo ulo uhi (updF f (vv * fw + uu)) vv (uu + 1) := fun a b h1 h2 h3 h4 => by
  by_cases e : a = vv ∧ b = uu
  · obtain ⟨rfl, rfl⟩ := e; unfold updF; rw [if_pos rfl]
  · exact updF_false (h a b h1 h2 h3 (by omega))
theorem Nbr.row (h : Nbr fw vlo ulo uhi f vv (uhi + 1)) : Nbr fw vlo ulo uhi f (vv + 1) ulo := fun a b h1 h2 h3 h4 => h a b h1 h2 h3 (by omega)
theorem Nbr.done {fh c : Nat} (hf : 0 < fw) (h : Nbr fw (c / fw - 1) (c % fw - 1) (min (fw - 1) (c % fw + 1)) f (min (fh - 1) (c / fw + 1) + 1) (c % fw - 1)) : ∀ k, k < fw * fh → AdjF fw c k → f k = false := fun k hk ha => by
  unfold AdjF at ha
  have h1 : k / fw < fh := Nat.div_lt_of_lt_mul hk
  have h2 : k % fw < fw := Nat.mod_lt _ hf
  have e : k / fw * fw + k % fw = k := by rw [Nat.mul_comm, Nat.div_add_mod]
  generalize k / fw = kq at *
  generalize k % fw = kr at *
  generalize c / fw = cq at *
  generalize c % fw = cr at *
  have := h kq kr (by omega) (by omega) (by omega) (by omega)
  rw [e] at this
  exact this
theorem adj_at {c vv uu : Nat} (h1 : c / fw - 1 ≤ vv) (h2 : vv ≤ c / fw + 1) (h3 : c % fw - 1 ≤ uu) (h4 : uu ≤ c % fw + 1) (hu : uu < fw) : AdjF fw c (vv * fw + uu) := by
  unfold AdjF
  rw [Nat.mul_comm vv fw, Nat.mul_add_mod, Nat.mod_eq_of_lt hu, Nat.mul_add_div (by omega), Nat.div_eq_of_lt hu, Nat.add_zero]
  generalize c / fw = cq at *
  generalize c % fw = cr at *
  omega
end
/-- what is in the frame is free where it is out of the box or not in the class -/
theorem free_out {l : List Cel} {b : Bx} {c : Cel} (_hl : ∀ c ∈ l, b.inB c = true) (hf : b.x0 - 1 ≤ c.1 ∧ c.1 ≤ b.x1 + 1 ∧ b.y0 - 1 ≤ c.2 ∧ c.2 ≤ b.y1 + 1) : freeL l b c = !decide (c ∈ l) := by
  unfold freeL
  rw [decide_eq_true hf.1, decide_eq_true hf.2.1, decide_eq_true hf.2.2.1, decide_eq_true hf.2.2.2]
  simp

/-- in a rectangle -/
def InR (X Y A B x y : Int) : Prop := X ≤ x ∧ x - X < A ∧ Y ≤ y ∧ y - Y < B
instance (X Y A B x y : Int) : Decidable (InR X Y A B x y) := by unfold InR; infer_instance
set_option maxRecDepth 100000 in
set_option maxHeartbeats 4000000 in
theorem rinI_any (X Y A B x y : Int) (W : World) (hX : -100 ≤ X ∧ X ≤ 100) (hY : -100 ≤ Y ∧ Y ≤ 100) (hx : -100 ≤ x ∧ x ≤ 100) (hy : -100 ≤ y ∧ y ≤ 100) :
    Calls Tryd.prog 89 #[.agg #[.int .i64 X, .int .i64 Y, .int .i64 A, .int .i64 B], .int .i64 x, .int .i64 y] W fun e w' => e = .returned (.bool (decide (InR X Y A B x y))) ∧ Below W.heap.size W w' := by
  by_cases h0 : X ≤ x
  · by_cases h1 : x - X < A
    · by_cases h2 : Y ≤ y
      · by_cases h3 : y - Y < B
        · rw [decide_eq_true (show InR X Y A B x y from ⟨h0, h1, h2, h3⟩)]
          go_enter Tryd.func89, Tryd.ntmps89
          go_wp2
          go_ret
          exact ⟨rfl, ext_alloc _ _⟩
        · rw [decide_eq_false (show ¬ InR X Y A B x y from fun h => h3 h.2.2.2)]
          go_enter Tryd.func89, Tryd.ntmps89
          go_wp2
          go_ret
          exact ⟨rfl, ext_alloc _ _⟩
      · rw [decide_eq_false (show ¬ InR X Y A B x y from fun h => h2 h.2.2.1)]
        go_enter Tryd.func89, Tryd.ntmps89
        go_wp2
        go_ret
        exact ⟨rfl, ext_alloc _ _⟩
    · rw [decide_eq_false (show ¬ InR X Y A B x y from fun h => h1 h.2.1)]
      go_enter Tryd.func89, Tryd.ntmps89
      go_wp2
      go_ret
      exact ⟨rfl, ext_alloc _ _⟩
  · rw [decide_eq_false (show ¬ InR X Y A B x y from fun h => h0 h.1)]
    go_enter Tryd.func89, Tryd.ntmps89
    go_wp2
    go_ret
    exact ⟨rfl, ext_alloc _ _⟩
theorem falses_cellsB (n : Nat) : madeCells #[Value.bool false] n = cellsB n fun _ => false := by
  apply Array.ext'
  rw [toList_madeCells_one]
  simp [cellsB]
  apply List.ext_getElem <;> simp
theorem run_falses (n : Nat) (h : n ≤ 1000000) (W : World) : (Instr.makeSlice 58 (.int .i64 (n : Int)) (.int .i64 (n : Int))).run Tryd.prog W = .ok (.slice (some ⟨W.heap.size, 0, none⟩) n n) (W.alloc (.cells (cellsB n fun _ => false) 4)) := by
  obtain ⟨i, hi, hz, hsz, hby⟩ := info_parts (show (Tryd.prog.info? 4).map (fun i => (i.zero, i.size, i.bytes)) = some (some (.bool false), 1, 1) from by kernel_rfl)
  have hr := run_make (P := Tryd.prog) W 58 4 i (.bool false) Tryd.underlying58 hi hz .i64 .i64 n n (by omega) (by omega) (by rw [hby]; omega) (by omega)
  rw [hr, hsz, Nat.mul_one, Int.toNat_natCast]
  rw [show (Value.bool false).cells = #[Value.bool false] from rfl, falses_cellsB]
theorem own_cut {w : World} {base : Nat} {e : TypeId} {sz : Nat} {A : Option Addr} {n cap : Nat} {xs : List Value} (h : w.ownsRow base e sz (.slice A n cap) n xs) {m : Nat} (hm : m ≤ n) (hA : 0 < n) : w.ownsRow base e sz (.slice A m cap) m (xs.take (m * sz)) := by
  obtain ⟨hl, h⟩ := h
  rcases h with ⟨hv, h0⟩ | ⟨g, c, cur, hv, hg, hh, hn, hmx, hcur, hx⟩
  · omega
  · injection hv with e1 _ e3
    subst e1
    have e3' : cap = c := e3
    subst e3'
    have hms : m * sz ≤ n * sz := Nat.mul_le_mul_right _ hm
    refine ⟨by rw [List.length_take, hl]; omega, .inr ⟨g, cap, cur, rfl, hg, hh, by omega, hmx, hcur, ?_⟩⟩
    rw [← hx, List.take_take]
    congr 1
    omega
/-- the stack of numbers -/
def Vn (base : Nat) (w : World) (v : Value) (T : List Nat) : Prop := Vi base w v (T.map fun (k : Nat) => (k : Int))
theorem Vn.top {base : Nat} {w : World} {v : Value} {T : List Nat} {c : Nat} (h : Vn base w v (T ++ [c])) : ∃ g cap, v = .slice (some ⟨g, 0, none⟩) (T.length + 1) cap ∧ T.length + 1 ≤ cap ∧ cap ≤ maxLen ∧ base ≤ g ∧ g < w.heap.size ∧ w.cell? ⟨g, T.length, none⟩ = some (.int .i64 (c : Int)) ∧ Vn base w (.slice (some ⟨g, 0, none⟩) T.length cap) T := by
  unfold Vn Vi at h
  obtain ⟨A, cap, hv, h1, h2, h3⟩ := own_cells h
  rw [hv] at h
  have e : ((T ++ [c]).map fun (k : Nat) => (k : Int)).length = T.length + 1 := by simp
  rw [e] at h h1 h3
  rcases h3 with h3 | ⟨g, rfl, hb, hg, hc⟩
  · omega
  · refine ⟨g, cap, by rw [hv, e], h1, h2, hb, hg, hc T.length _ (by simp [ints]), ?_⟩
    have h4 := own_cut h (m := T.length) (by omega) (by omega)
    have e2 : (ints ((T ++ [c]).map fun (k : Nat) => (k : Int))).take (T.length * 1) = ints (T.map fun (k : Nat) => (k : Int)) := by
      rw [Nat.mul_one, List.map_append, ints_append, List.take_left' (by simp [ints])]
    rw [e2] at h4
    unfold Vn Vi
    rw [List.length_map]
    exact h4
theorem Vn.empty {base : Nat} {w : World} {v : Value} (h : Vn base w v []) : ∃ A cap, v = .slice A 0 cap := by
  obtain ⟨A, cap, hv, _⟩ := own_cells h
  exact ⟨A, cap, hv⟩
theorem updB_false (f : Nat → Bool) (i : Nat) : updB f i false = updF f i := rfl
/-- the frame's marks set so far -/
def cutB (f : Nat → Bool) (k : Nat) : Nat → Bool := fun j => if j < k then f j else false
theorem cutB_set (f : Nat → Bool) (k : Nat) : updB (cutB f k) k (f k) = cutB f (k + 1) := by
  funext j
  unfold updB cutB
  by_cases e : j = k
  · subst e; rw [if_pos rfl, if_pos (by omega)]
  · rw [if_neg e]
    by_cases h : j < k
    · rw [if_pos h, if_pos (by omega)]
    · rw [if_neg h, if_neg (by omega)]
theorem OwB.congr {b n : Nat} {d e : Nat → Bool} {w : World} (h : OwB b n d w) (hd : ∀ i, i < n → d i = e i) : OwB b n e w := by
  have : cellsB n d = cellsB n e := by
    unfold cellsB
    congr 1
    apply List.map_congr_left
    intro a ha
    rw [hd a (List.mem_range.1 ha)]
  unfold OwB
  rw [← this]
  exact h
theorem nil_snoc {α : Type} (l : List α) : l = [] ∨ ∃ l' x, l = l' ++ [x] := by
  rcases List.eq_nil_or_concat l with h | ⟨l', x, h⟩
  · exact .inl h
  · exact .inr ⟨l', x, by simpa using h⟩
set_option maxRecDepth 100000 in
set_option maxHeartbeats 8000000 in
theorem rholes_any (v n hh N : Nat) (cl : Nat → Int) (p : Nat) (L : List Cel) (b : Bx) (w : World) (hn : n ≤ 48) (hhh : hh ≤ 48) (hN : N = n * hh) (ho : Ow 3 v N cl w) (hb1 : 0 ≤ b.x0 ∧ b.x0 ≤ b.x1 ∧ b.x1 < n) (hb2 : 0 ≤ b.y0 ∧ b.y0 ≤ b.y1 ∧ b.y1 < hh)
    (hL : ∀ c ∈ L, b.inB c = true) (hcl : ∀ x y : Nat, b.inB ((x : Int), (y : Int)) = true → (((x : Int), (y : Int)) ∈ L ↔ cl (n * y + x) = (p : Int))) :
    Calls Tryd.prog 51 #[.slice (some ⟨v, 0, none⟩) N N, .int .i64 (n : Int), .int .i64 (p : Int), .agg #[.int .i64 b.x0, .int .i64 b.y0, .int .i64 (b.x1 - b.x0 + 1), .int .i64 (b.y1 - b.y0 + 1)]] w fun e w' => e = .returned (.int .i64 (holesL L b 3000 : Int)) ∧ Below w.heap.size w w' := by
  obtain ⟨Wn, hW⟩ := Int.eq_ofNat_of_zero_le (show 0 ≤ b.x1 + 1 - b.x0 by omega)
  obtain ⟨Hn, hH⟩ := Int.eq_ofNat_of_zero_le (show 0 ≤ b.y1 + 1 - b.y0 by omega)
  have hW : b.x1 + 1 - b.x0 = (Wn : Nat) := hW
  have hH : b.y1 + 1 - b.y0 = (Hn : Nat) := hH
  have hWe : b.x1 - b.x0 + 1 = (Wn : Int) := by omega
  have hHe : b.y1 - b.y0 + 1 = (Hn : Int) := by omega
  have hW48 : Wn ≤ 48 := by omega
  have hH48 : Hn ≤ 48 := by omega
  rw [hWe, hHe]
  obtain ⟨fw, hfw⟩ : ∃ fw, fw = Wn + 2 := ⟨_, rfl⟩
  obtain ⟨fh, hfh⟩ : ∃ fh, fh = Hn + 2 := ⟨_, rfl⟩
  obtain ⟨M, hM⟩ : ∃ M, M = fw * fh := ⟨_, rfl⟩
  obtain ⟨F0, hF0⟩ : ∃ F0 : Nat → Bool, F0 = fun i => freeL L b (celF b fw i) := ⟨_, rfl⟩
  have HRC := Lib.hid (show RcN M F0 (AdjF fw) (fun i j => Rch nearL (freeL L b) (celF b fw i) (celF b fw j)) from by
    have h := rcn_frame (l := L) hW hH (F0 := F0) (fun i _ => by rw [hF0, hfw])
    rw [← hfw, ← hfh, ← hM] at h
    exact h)
  have HFR := Lib.hid (show ∀ i, F0 i = true → freeL L b (celF b fw i) = true from fun i h => by rw [hF0] at h; exact h)
  have HFF := Lib.hid (show ∀ i, F0 i = false → freeL L b (celF b fw i) = false from fun i h => by rw [hF0] at h; exact h)
  have HFC := Lib.hid (show boxCells b.fr = (List.range M).map (celF b fw) from by rw [hM, hfw, hfh]; exact frame_cells hW hH)
  have HEND := Lib.hid (show ∀ K, Fc (Rch nearL (freeL L b)) (freeL L b) [] (boxCells b.fr) K → K = holesL L b 3000 + 1 from fun K hK => by
    refine holes_frame (U := boxCells b.fr) (by omega) (by omega) hL (fun c hc => ?_) ?_ hK
    · unfold freeL at hc
      simp only [Bool.and_eq_true, decide_eq_true_eq] at hc
      rw [mem_box]; unfold Bx.fr; dsimp only; omega
    · rw [frame_cells hW hH, List.length_map, List.length_range]
      exact Nat.le_trans (Nat.mul_le_mul (show Wn + 2 ≤ 50 by omega) (show Hn + 2 ≤ 50 by omega)) (by decide))
  have HF1 := Lib.hid (show ∀ i, i < M → ∀ px py : Nat, px = i % fw → py = i / fw → ¬ InR b.x0 b.y0 (Wn : Int) (Hn : Int) (b.x0 - 1 + (px : Int)) (b.y0 - 1 + (py : Int)) → F0 i = true from fun i hi px py h1 h2 h3 => by
    have hpx : px < fw := by rw [h1]; exact Nat.mod_lt _ (by omega)
    have hpy : py < fh := by rw [h2]; exact Nat.div_lt_of_lt_mul (by rw [← hM]; exact hi)
    rw [hF0]
    show freeL L b (celF b fw i) = true
    unfold celF
    rw [← h1, ← h2]
    rw [free_out hL ⟨by dsimp only; omega, by dsimp only; omega, by dsimp only; omega, by dsimp only; omega⟩]
    unfold InR at h3
    have : (b.x0 - 1 + (px : Int), b.y0 - 1 + (py : Int)) ∉ L := fun hm => by
      have := hL _ hm
      unfold Bx.inB at this
      simp only [Bool.and_eq_true, decide_eq_true_eq] at this
      omega
    rw [decide_eq_false this]; rfl)
  have HF2 := Lib.hid (show ∀ i, i < M → ∀ px py : Nat, px = i % fw → py = i / fw → InR b.x0 b.y0 (Wn : Int) (Hn : Int) (b.x0 - 1 + (px : Int)) (b.y0 - 1 + (py : Int)) → ∃ xn yn : Nat, b.x0 - 1 + (px : Int) = (xn : Int) ∧ b.y0 - 1 + (py : Int) = (yn : Int) ∧ xn < n ∧ yn < hh ∧ F0 i = !decide (cl (n * yn + xn) = (p : Int)) from fun i hi px py h1 h2 h3 => by
    unfold InR at h3
    obtain ⟨xn, hxn⟩ := Int.eq_ofNat_of_zero_le (show 0 ≤ b.x0 - 1 + (px : Int) by omega)
    obtain ⟨yn, hyn⟩ := Int.eq_ofNat_of_zero_le (show 0 ≤ b.y0 - 1 + (py : Int) by omega)
    refine ⟨xn, yn, hxn, hyn, by omega, by omega, ?_⟩
    rw [hF0]
    show freeL L b (celF b fw i) = _
    unfold celF
    rw [← h1, ← h2]
    rw [free_out hL ⟨by dsimp only; omega, by dsimp only; omega, by dsimp only; omega, by dsimp only; omega⟩]
    have hin : b.inB ((xn : Int), (yn : Int)) = true := by
      unfold Bx.inB
      simp only [Bool.and_eq_true, decide_eq_true_eq]
      omega
    have := hcl xn yn hin
    rw [show (b.x0 - 1 + (px : Int), b.y0 - 1 + (py : Int)) = ((xn : Int), (yn : Int)) from by rw [hxn, hyn]]
    congr 1
    rw [decide_eq_decide]; exact this)
  have HO := Lib.hid ho
  have hvb := ho.lt
  have hX0 := hb1.1
  have hX1 : b.x0 ≤ 48 := by omega
  have hY0 := hb2.1
  have hY1 : b.y0 ≤ 48 := by omega
  have hfwb : fw ≤ 50 ∧ 3 ≤ fw := by omega
  have hfhb : fh ≤ 50 ∧ 3 ≤ fh := by omega
  have hMb : M ≤ 2500 := by rw [hM]; exact Nat.mul_le_mul hfwb.1 hfhb.1
  have hMi : (fw : Int) * (fh : Int) = (M : Int) := by rw [hM]; push_cast; rfl
  have hfwi : (Wn : Int) + 2 = (fw : Int) := by omega
  have hfhi : (Hn : Int) + 2 = (fh : Int) := by omega
  have hNi : N = n * hh := hN
  have HM := Lib.hid hM
  have hNb : N ≤ 48 * 48 := by rw [hN]; exact Nat.mul_le_mul hn hhh
  have HN := Lib.hid hN
  have HIN := Lib.hid (fun x y W h1 h2 => rinI_any b.x0 b.y0 (Wn : Int) (Hn : Int) x y W ⟨by omega, by omega⟩ ⟨by omega, by omega⟩ h1 h2)
  have hmk : ∀ W, (Instr.makeSlice 58 (.int .i64 (M : Int)) (.int .i64 (M : Int))).run Tryd.prog W = .ok (.slice (some ⟨W.heap.size, 0, none⟩) M M) (W.alloc (.cells (cellsB M fun _ => false) 4)) := fun W => run_falses M (by omega) W
  obtain ⟨R, hR⟩ : ∃ R : Cel → Cel → Prop, R = Rch nearL (freeL L b) := ⟨_, rfl⟩
  obtain ⟨is, his⟩ : ∃ is, is = freeL L b := ⟨_, rfl⟩
  obtain ⟨ce, hce⟩ : ∃ ce, ce = celF b fw := ⟨_, rfl⟩
  obtain ⟨fc, hfc⟩ : ∃ fc, fc = boxCells b.fr := ⟨_, rfl⟩
  obtain ⟨res, hres⟩ : ∃ res, res = holesL L b 3000 := ⟨_, rfl⟩
  rw [← hR, ← his, ← hfc, ← hres] at HEND
  rw [← hfc, ← hce] at HFC
  rw [← his, ← hce] at HFR HFF
  have HRC := Lib.hid (show RcN M F0 (AdjF fw) (fun i j => R (ce i) (ce j)) from by rw [hR, hce]; exact HRC.out)
  rw [← hres]
  obtain ⟨X, hX⟩ : ∃ X, X = b.x0 := ⟨_, rfl⟩
  obtain ⟨Y, hY⟩ : ∃ Y, Y = b.y0 := ⟨_, rfl⟩
  rw [← hX, ← hY]
  rw [← hX] at hX0 hX1 HF1 HF2 HIN
  rw [← hY] at hY0 hY1 HF1 HF2 HIN
  clear hX hY hR his hce hfc hres hF0 hcl hL hb1 hb2 ho hW hH hWe hHe hM hN hfw hfh hNi
  have HR0 := Lib.hid (Bk.new 31 w #[.int .i64 X, .int .i64 Y, .int .i64 (Wn : Int), .int .i64 (Hn : Int)])
  have HX0 := Lib.hid (ext_alloc w (.cells #[.int .i64 X, .int .i64 Y, .int .i64 (Wn : Int), .int .i64 (Hn : Int)] 31))
  obtain ⟨f1, f2, f3⟩ := HR0.out.facts
  go_enter Tryd.func51, Tryd.ntmps51
  obtain ⟨rb, hrb⟩ : ∃ rb, rb = w.heap.size := ⟨_, rfl⟩
  obtain ⟨w1, hw1⟩ : ∃ w1, w1 = w.alloc (.cells #[.int .i64 X, .int .i64 Y, .int .i64 (Wn : Int), .int .i64 (Hn : Int)] 31) := ⟨_, rfl⟩
  go_upto_region 1 with (fail)
  rw [← hw1, ← hrb]
  rw [← hw1, ← hrb] at HR0 f1 f2 f3
  rw [← hw1] at HX0
  have HW1 := Lib.hid (show w1.heap.size = rb + 1 from by rw [hw1, hrb]; simp)
  have hrbw : w.heap.size ≤ rb := by omega
  clear hw1 hrb
  go_quiet (fail)
  have HRQ := Lib.hid (HR0.out.ext (ext_drewN w1 nq))
  have HXQ := Lib.hid (bdrewN HX0.out nq)
  obtain ⟨w2, hw2⟩ : ∃ w2, w2 = w1.drewN nq := ⟨_, rfl⟩
  rw [← hw2] at HRQ HXQ ⊢
  have HW2 := Lib.hid (show w2.heap.size = rb + 1 from by rw [hw2]; exact HW1.out)
  clear hw2 HW1 f1 f2 f3 HR0 HX0
  have HFN := Lib.hid (OwB.new w2 M (fun _ => false))
  have HRN := Lib.hid (HRQ.out.ext (ext_alloc w2 (.cells (cellsB M fun _ => false) 4)))
  have HXN := Lib.hid (bext HXQ.out (ext_alloc w2 (.cells (cellsB M fun _ => false) 4)) HXQ.out.size)
  go_upto_region 3 with (fail)
  obtain ⟨fb, hfb⟩ : ∃ fb, fb = w2.heap.size := ⟨_, rfl⟩
  obtain ⟨w3, hw3⟩ : ∃ w3, w3 = w2.alloc (.cells (cellsB M fun _ => false) 4) := ⟨_, rfl⟩
  rw [← hfb, ← hw3]
  rw [← hfb, ← hw3] at HFN
  rw [← hw3] at HRN HXN
  have hfw' : w.heap.size ≤ fb := by rw [hfb, HW2.out]; omega
  have hrf : rb ≠ fb := by rw [hfb, HW2.out]; omega
  have hvf : v ≠ fb := by rw [hfb, HW2.out]; omega
  clear hw3 hfb HW2 HRQ HXQ hmk
  go_wp2_with (fail)
  go_loopg [33] M (fun gg z wr => ∃ k : Nat, z = .int .i64 k ∧ k ≤ M ∧ gg = M - k ∧ OwB fb M (cutB F0 k) wr ∧ Bk 31 wr rb #[.int .i64 X, .int .i64 Y, .int .i64 (Wn : Int), .int .i64 (Hn : Int)] ∧ Below w.heap.size w wr)
  case atStart => exact ⟨0, rfl, by omega, by omega, HFN.out.congr (fun i _ => by unfold cutB; rw [if_neg (by omega)]), HRN.out, HXN.out⟩
  case round =>
    obtain ⟨k, rfl, hk, hg, hf, hr, hb⟩ := hrel
    have HG := Lib.hid hg
    have HF := Lib.hid hf
    have HR := Lib.hid hr
    have HB := Lib.hid hb
    obtain ⟨f1, f2, f3⟩ := hr.facts
    clear hg hf hr hb HFN HRN HXN
    by_cases hlt : k < M
    · obtain ⟨px, hpx⟩ : ∃ px, px = k % fw := ⟨_, rfl⟩
      obtain ⟨py, hpy⟩ : ∃ py, py = k / fw := ⟨_, rfl⟩
      have hpn : px < fw := by rw [hpx]; exact Nat.mod_lt _ (by omega)
      have hpk : py < fh := by rw [hpy]; exact Nat.div_lt_of_lt_mul (by rw [← HM.out]; exact hlt)
      have htm : (k : Int).tmod (fw : Int) = (px : Int) := by rw [Int.tmod_eq_emod_of_nonneg (by omega), hpx]; push_cast; rfl
      have htd : (k : Int).tdiv (fw : Int) = (py : Int) := by rw [Int.tdiv_eq_ediv_of_nonneg (by omega), hpy]; push_cast; rfl
      have hn0 : ¬ (fw : Int) = 0 := by omega
      have H1 := Lib.hid (HF1.out k hlt px py hpx hpy)
      have H2 := Lib.hid (HF2.out k hlt px py hpx hpy)
      clear hpx hpy
      go_upto_region 6 with (fail)
      go_quiet (fail)
      have HF4 := Lib.hid (HF.out.ext (ext_drewN wr nq))
      have HR4 := Lib.hid (HR.out.ext (ext_drewN wr nq))
      have HB4 := Lib.hid (bdrewN HB.out nq)
      obtain ⟨w5, hw5⟩ : ∃ w5, w5 = wr.drewN nq := ⟨_, rfl⟩
      rw [← hw5] at HF4 HR4 HB4 ⊢
      clear hw5 f1 f2 f3 HF HR HB htm htd hn0
      obtain ⟨f1, f2, f3⟩ := HR4.out.facts
      have HIK := Lib.hid (HIN.out (X - 1 + (px : Int)) (Y - 1 + (py : Int)) w5 ⟨by omega, by omega⟩ ⟨by omega, by omega⟩)
      by_cases hin : InR X Y (Wn : Int) (Hn : Int) (X - 1 + (px : Int)) (Y - 1 + (py : Int))
      · rw [decide_eq_true hin] at HIK
        obtain ⟨xn, yn, hxe, hye, hxb, hyb, hF⟩ := H2.out hin
        rw [hxe, hye] at HIK
        obtain ⟨yw, hyw⟩ : ∃ yw, yw = n * yn := ⟨_, rfl⟩
        have hyi : (yn : Int) * (n : Int) = (yw : Int) := by rw [hyw, Int.mul_comm]; push_cast; rfl
        have hyN : yw + n ≤ N := by rw [hyw, HN.out, ← Nat.mul_succ]; exact Nat.mul_le_mul_left n hyb
        obtain ⟨ix, hix⟩ : ∃ ix, ix = yw + xn := ⟨_, rfl⟩
        have hixi : (yw : Int) + (xn : Int) = (ix : Int) := by omega
        have hixN : ix < N := by omega
        rw [← hyw, ← hix] at hF
        have c1 := (HB4.out.cell (p := ⟨v, ix, none⟩) hvb).trans (HO.out.cell hixN)
        obtain ⟨cv, hcv⟩ : ∃ cv, cv = cl ix := ⟨_, rfl⟩
        rw [← hcv] at c1 hF
        have hixN2 : (ix : Int) < (N : Int) := by omega
        have hv5 : v < w5.heap.size := Nat.lt_of_lt_of_le hvb HB4.out.size
        clear hyw hix hcv H1 H2 hin hyN hixN
        by_cases hcp : cv = (p : Int)
        · rw [decide_eq_true hcp] at hF
          have HST := Lib.hid (fun W (hW : OwB fb M (cutB F0 k) W) => show OwB fb M (cutB F0 (k + 1)) (W.setCell ⟨fb, k, none⟩ (.bool false)) from by
            have h := hW.set k (F0 k)
            rw [cutB_set, hF] at h; exact h)
          have hne : (cv != (p : Int)) = false := by rw [hcp]; simp
          clear hcp hF
          go_wp2_with (go_at_call 89; refine (HIK.out).mono ?_; rintro r6 w6 ⟨rfl, hx6⟩; have HF6 := Lib.hid (HF4.out.ext hx6); have HR6 := Lib.hid (HR4.out.ext hx6); have HB6 := Lib.hid (bext HB4.out hx6 HB4.out.size); have c2 := (hx6.cell (p := ⟨v, ix, none⟩) hv5).trans c1; have v6 := Nat.lt_of_lt_of_le hv5 hx6.size; clear hx6; have q1 := HF6.out.cell hlt; have q2 := HF6.out.frozen k; have q3 := HF6.out.lt)
          all_goals go_roundg (M - (k + 1))
          all_goals first | (have := HG.out; omega) | exact ⟨k + 1, by go_num, by omega, rfl, HST.out _ HF6.out, HR6.out.set_ne hrf _, HB6.out.setCell hfw' _⟩
        · rw [decide_eq_false hcp] at hF
          have HST := Lib.hid (fun W (hW : OwB fb M (cutB F0 k) W) => show OwB fb M (cutB F0 (k + 1)) (W.setCell ⟨fb, k, none⟩ (.bool true)) from by
            have h := hW.set k (F0 k)
            rw [cutB_set, hF] at h; exact h)
          have hne : (cv != (p : Int)) = true := by simpa using hcp
          clear hcp hF
          go_wp2_with (go_at_call 89; refine (HIK.out).mono ?_; rintro r6 w6 ⟨rfl, hx6⟩; have HF6 := Lib.hid (HF4.out.ext hx6); have HR6 := Lib.hid (HR4.out.ext hx6); have HB6 := Lib.hid (bext HB4.out hx6 HB4.out.size); have c2 := (hx6.cell (p := ⟨v, ix, none⟩) hv5).trans c1; have v6 := Nat.lt_of_lt_of_le hv5 hx6.size; clear hx6; have q1 := HF6.out.cell hlt; have q2 := HF6.out.frozen k; have q3 := HF6.out.lt)
          all_goals go_roundg (M - (k + 1))
          all_goals first | (have := HG.out; omega) | exact ⟨k + 1, by go_num, by omega, rfl, HST.out _ HF6.out, HR6.out.set_ne hrf _, HB6.out.setCell hfw' _⟩
      · rw [decide_eq_false hin] at HIK
        have hF := H1.out hin
        have HST := Lib.hid (fun W (hW : OwB fb M (cutB F0 k) W) => show OwB fb M (cutB F0 (k + 1)) (W.setCell ⟨fb, k, none⟩ (.bool true)) from by
          have h := hW.set k (F0 k)
          rw [cutB_set, hF] at h; exact h)
        clear hF hin H1 H2
        go_wp2_with (go_at_call 89; refine (HIK.out).mono ?_; rintro r6 w6 ⟨rfl, hx6⟩; have HF6 := Lib.hid (HF4.out.ext hx6); have HR6 := Lib.hid (HR4.out.ext hx6); have HB6 := Lib.hid (bext HB4.out hx6 HB4.out.size); clear hx6; have q1 := HF6.out.cell hlt; have q2 := HF6.out.frozen k; have q3 := HF6.out.lt)
        all_goals go_roundg (M - (k + 1))
        all_goals first | (have := HG.out; omega) | exact ⟨k + 1, by go_num, by omega, rfl, HST.out _ HF6.out, HR6.out.set_ne hrf _, HB6.out.setCell hfw' _⟩
    · obtain rfl : k = M := by omega
      have HF5 := Lib.hid (show OwB fb k F0 wr from HF.out.congr (fun i hi => by unfold cutB; rw [if_pos hi]))
      clear HF HR f1 f2 f3 HF1 HF2 HIN HO hlt HN
      obtain ⟨M, rfl⟩ : ∃ M, M = k := ⟨_, rfl⟩
      clear HG hk
      go_wp2_with (fail)
      go_loopg [73, 15] M (fun gg z zn wr => ∃ (k n1 : Nat) (q : Int) (f : Nat → Bool) (Ms : List Nat), z = .int .i64 k ∧ k ≤ M ∧ gg = M - k ∧ zn = .int .i64 q ∧ q = (n1 : Int) - 1 ∧ n1 ≤ k ∧ OwB fb M f wr ∧ Below w.heap.size w wr ∧ OuI M F0 (fun i j => R (ce i) (ce j)) f Ms ∧ (∀ K, Fc R is (Ms.map ce) (((List.range M).drop k).map ce) K → Fc R is [] fc (n1 + K)))
      case atStart => exact ⟨0, 0, -1, F0, [], rfl, by omega, by omega, rfl, by omega, by omega, HF5.out, HB.out, ⟨fun _ _ h => h, fun j _ h0 => by rw [h0]; simp⟩, fun K hK => by rw [HFC.out, Nat.zero_add]; exact hK⟩
      case round =>
        obtain ⟨k, n1, q, f, Ms, rfl, hk, hg, rfl, hq, hn1, hf, hb, hou, hfc⟩ := hrel
        have HG := Lib.hid hg
        have HF := Lib.hid hf
        have HB2 := Lib.hid hb
        have HOU := Lib.hid hou
        have HFK := Lib.hid hfc
        have HQ := Lib.hid hq
        have hqb : -1 ≤ q ∧ q ≤ 3000 := by omega
        clear hg hf hb hou hfc hq HF5 HB
        by_cases hlt : k < M
        · have HDR := Lib.hid (show (List.range M).drop k = k :: (List.range M).drop (k + 1) from by
            rw [List.drop_eq_getElem_cons (by simpa using hlt)]; simp)
          have q1 := HF.out.cell hlt
          have q2 := HF.out.frozen k
          have q3 := HF.out.lt
          cases hfk : f k
          · rw [hfk] at q1
            have HFN := Lib.hid (show ∀ K, Fc R is (Ms.map ce) (((List.range M).drop (k + 1)).map ce) K → Fc R is [] fc (n1 + K) from fun K hK => by
              refine HFK.out K ?_
              rw [HDR.out, List.map_cons]
              refine .skip ?_ hK
              cases h0 : F0 k
              · exact .inl (HFF.out k h0)
              · obtain ⟨m, hm, hr⟩ := (HOU.out.iff k hlt h0).1 hfk
                exact .inr ⟨ce m, List.mem_map_of_mem hm, hr⟩)
            clear hfk
            go_wp2
            go_roundg (M - (k + 1))
            case measure => have := HG.out; omega
            case rel => exact ⟨k + 1, n1, q, f, Ms, by go_num, by omega, rfl, rfl, HQ.out, by omega, HF.out, HB2.out, HOU.out, HFN.out⟩
          · rw [hfk] at q1
            obtain ⟨hd, h0, hnm⟩ := HOU.out.start HRC.out hlt hfk
            have HFN := Lib.hid (show ∀ K, Fc R is ((k :: Ms).map ce) (((List.range M).drop (k + 1)).map ce) K → Fc R is [] fc (n1 + 1 + K) from fun K hK => by
              have h := HFK.out (K + 1) (by
                rw [HDR.out, List.map_cons]
                refine .new (HFR.out k h0) (fun ⟨m, hm, hr⟩ => ?_) hK
                obtain ⟨m', hm', rfl⟩ := List.mem_map.1 hm
                exact hnm ⟨m', hm', hr⟩)
              rw [show n1 + 1 + K = n1 + (K + 1) by omega]; exact h)
            have HD := Lib.hid hd
            have HF0K := Lib.hid h0
            have HCU := Lib.hid (cntF_upd hfk M hlt)
            have HCL := Lib.hid (cntF_le f M)
            have HFS := Lib.hid (show OwB fb M (updF f k) (wr.setCell ⟨fb, k, none⟩ (.bool false)) from HF.out.set k false)
            have HBS := Lib.hid (HB2.out.setCell (p := ⟨fb, k, none⟩) hfw' (.bool false))
            have hfs : fb < wr.heap.size := HF.out.lt
            clear hd h0 hnm hfk HFK
            go_upto_region 16 with (fail)
            obtain ⟨w6, hw6⟩ : ∃ w6, w6 = wr.setCell ⟨fb, k, none⟩ (.bool false) := ⟨_, rfl⟩
            rw [← hw6]
            rw [← hw6] at HFS HBS
            have hfs6 : fb < w6.heap.size := HFS.out.lt
            clear hw6 q1 q2 q3 hfs
            have HVN := Lib.hid (show Vn (fb + 1) (w6.alloc (.cells #[.int .i64 (k : Int)] 3)) (.slice (some ⟨w6.heap.size, 0, none⟩) 1 1) [k] from own_new (w := w6) (base := fb + 1) (n := 1) (m := 1) (e := 3) (sz := 1) (news := [.int .i64 (k : Int)]) rfl (by decide) (by omega) rfl)
            have HFA := Lib.hid (HFS.out.ext (ext_alloc w6 (.cells #[.int .i64 (k : Int)] 3)))
            have HBA := Lib.hid (bext HBS.out (ext_alloc w6 (.cells #[.int .i64 (k : Int)] 3)) HBS.out.size)
            obtain ⟨gm, hgm⟩ : ∃ gm, gm = 2 * cntF (updF f k) M + 1 := ⟨_, rfl⟩
            have HGM := Lib.hid hgm
            have hgmb : gm ≤ 6000 := by have := HCU.out; have := HCL.out; omega
            clear hgm
            go_wp2_with (fail)
            obtain ⟨g0, hg0⟩ : ∃ g0, g0 = w6.heap.size := ⟨_, rfl⟩
            obtain ⟨w7, hw7⟩ : ∃ w7, w7 = w6.alloc (.cells #[.int .i64 (k : Int)] 3) := ⟨_, rfl⟩
            rw [← hg0, ← hw7]
            rw [← hg0, ← hw7] at HVN
            rw [← hw7] at HFA HBA
            clear hg0 hw7 HFS HBS HF HB2 hfs6
            obtain ⟨O, hO⟩ : ∃ O : Nat → Prop, O = fun j => ∃ m ∈ Ms, R (ce m) (ce j) := ⟨_, rfl⟩
            have HOO := Lib.hid hO
            have HD := Lib.hid (show DfI M F0 (AdjF fw) (fun j => R (ce k) (ce j)) O (updF f k) [k] (fun _ => False) from by rw [hO]; exact HD.out)
            clear hO
            go_loopg [17] gm (fun gg tv wr => ∃ (f : Nat → Bool) (T : List Nat), gg = 2 * cntF f M + T.length ∧ gg ≤ 6000 ∧ OwB fb M f wr ∧ Below w.heap.size w wr ∧ Vn (fb + 1) wr tv T ∧ DfI M F0 (AdjF fw) (fun j => R (ce k) (ce j)) O f T (fun _ => False) ∧ f k = false)
            case atStart => exact ⟨updF f k, [k], HGM.out, hgmb, HFA.out, HBA.out, HVN.out, HD.out, by unfold updF; rw [if_pos rfl]⟩
            case round =>
              obtain ⟨f, T, hg, hgb, hf, hb, hv, hd, hfk⟩ := hrel
              have HG2 := Lib.hid hg
              have HGB := Lib.hid hgb
              have HF := Lib.hid hf
              have HB2 := Lib.hid hb
              have HV := Lib.hid hv
              have HD2 := Lib.hid hd
              have HFKK := Lib.hid hfk
              have HLT := Lib.hid hlt
              clear hg hgb hf hb hv hd hfk HVN HFA HBA HD hgmb HGM HCU HCL
              rcases nil_snoc T with hT | ⟨T, c, hT⟩
              · subst hT
                obtain ⟨A, cap, rfl⟩ := HV.out.empty
                have HOU2 := Lib.hid (show OuI M F0 (fun i j => R (ce i) (ce j)) f (k :: Ms) from by
                  have h := HD2.out
                  rw [HOO.out] at h
                  exact h.out HRC.out HLT.out HF0K.out HFKK.out)
                go_wp2
                go_roundg (M - (k + 1))
                case measure => have := HG.out; have := HLT.out; omega
                case rel => exact ⟨k + 1, n1 + 1, q + 1, f, k :: Ms, by go_num, by have := HLT.out; omega, rfl, rfl, by have := HQ.out; omega, by omega, HF.out, HB2.out, HOU2.out, HFN.out⟩
              · subst hT
                obtain ⟨g, cap, rfl, hcap, hcapm, hgb, hgl, ctop, hvt⟩ := HV.out.top
                obtain ⟨hdp, hcM, hc0, hcR, hcf⟩ := HD2.out.pop
                have HDP := Lib.hid hdp
                have HVT := Lib.hid hvt
                obtain ⟨tl, htl⟩ : ∃ tl, tl = T.length := ⟨_, rfl⟩
                have HG2 := Lib.hid (show gk = 2 * cntF f M + tl + 1 from by rw [HG2.out, htl]; simp; omega)
                have HTL := Lib.hid htl
                have hcap' : cap ≤ 9223372036854775807 := by unfold maxLen at hcapm; omega
                rw [← htl] at HVT hcap ctop ⊢
                obtain ⟨m1, hm1⟩ : ∃ m1, m1 = tl + 1 := ⟨_, rfl⟩
                rw [← hm1] at hcap ⊢
                have hm1i : (m1 : Int) - 1 = (tl : Int) := by omega
                have hm1p : (0 : Int) < (m1 : Int) := by omega
                have hm1n : 0 < m1 := by omega
                have hm1t : (tl : Int) < (m1 : Int) := by omega
                have hm1c : (m1 : Int) ≤ (cap : Int) := by omega
                have htlc : tl ≤ cap := by omega
                have htlb : tl ≤ 6000 := by have := HG2.out; have := HGB.out; omega
                obtain ⟨cq, hcq⟩ : ∃ cq, cq = c / fw := ⟨_, rfl⟩
                obtain ⟨cr, hcr⟩ : ∃ cr, cr = c % fw := ⟨_, rfl⟩
                have hcqb : cq < fh := by rw [hcq]; exact Nat.div_lt_of_lt_mul (by rw [← HM.out]; exact hcM)
                have hcrb : cr < fw := by rw [hcr]; exact Nat.mod_lt _ (by omega)
                have hcMb : c ≤ 2500 := by omega
                have htd : (c : Int).tdiv (fw : Int) = (cq : Int) := by rw [Int.tdiv_eq_ediv_of_nonneg (by omega), hcq]; push_cast; rfl
                have htm : (c : Int).tmod (fw : Int) = (cr : Int) := by rw [Int.tmod_eq_emod_of_nonneg (by omega), hcr]; push_cast; rfl
                have hn0 : ¬ (fw : Int) = 0 := by omega
                obtain ⟨vlo, hvlo⟩ : ∃ vlo, vlo = cq - 1 := ⟨_, rfl⟩
                obtain ⟨vhi, hvhi⟩ : ∃ vhi, vhi = min (fh - 1) (cq + 1) := ⟨_, rfl⟩
                obtain ⟨ulo, hulo⟩ : ∃ ulo, ulo = cr - 1 := ⟨_, rfl⟩
                obtain ⟨uhi, huhi⟩ : ∃ uhi, uhi = min (fw - 1) (cr + 1) := ⟨_, rfl⟩
                have hvloi : max 0 ((cq : Int) - 1) = (vlo : Int) := by omega
                have hvhii : min ((fh : Int) - 1) ((cq : Int) + 1) = (vhi : Int) := by omega
                have huloi : max 0 ((cr : Int) - 1) = (ulo : Int) := by omega
                have huhii : min ((fw : Int) - 1) ((cr : Int) + 1) = (uhi : Int) := by omega
                have hvb1 : vlo ≤ vhi + 1 ∧ vhi < fh ∧ vhi ≤ cq + 1 ∧ cq - 1 ≤ vlo := by omega
                have hub1 : ulo ≤ uhi + 1 ∧ uhi < fw ∧ uhi ≤ cr + 1 ∧ cr - 1 ≤ ulo := by omega
                have HADJ := Lib.hid (show ∀ vv uu, vlo ≤ vv → vv ≤ vhi → ulo ≤ uu → uu ≤ uhi → AdjF fw c (vv * fw + uu) from fun vv uu h1 h2 h3 h4 => adj_at (by rw [← hcq]; omega) (by rw [← hcq]; omega) (by rw [← hcr]; omega) (by rw [← hcr]; omega) (by omega))
                have HDN := Lib.hid (show ∀ f, Nbr fw vlo ulo uhi f (vhi + 1) ulo → ∀ k, k < M → AdjF fw c k → f k = false from fun f h => by
                  rw [hvlo, hulo, huhi, hvhi, hcq, hcr] at h
                  have h2 := Nbr.done (fh := fh) (by omega) h
                  rw [← HM.out] at h2; exact h2)
                have HN0 := Lib.hid (show Nbr fw vlo ulo uhi f vlo ulo from Nbr.start)
                have HCC := Lib.hid (And.intro hcM (And.intro hc0 hcR))
                have HF2 := Lib.hid (show 2 * cntF f M + T.length + 1 ≤ gk from by rw [HG2.out, ← HTL.out]; omega)
                obtain ⟨G, hG⟩ : ∃ G, G = gk := ⟨_, rfl⟩
                rw [← hG] at HF2 HGB
                have HGK := Lib.hid hG
                clear hG hdp hcM hc0 hcR hcf hvt htl hm1 hcq hcr hvlo hvhi hulo huhi HD2 HV HG2 hcapm
                go_wp2_with (fail)
                go_loopg [19, 17] (vhi + 1 - vlo) (fun gg z tv wr => ∃ (vv : Nat) (f : Nat → Bool) (T : List Nat), z = .int .i64 vv ∧ vlo ≤ vv ∧ vv ≤ vhi + 1 ∧ gg = vhi + 1 - vv ∧ OwB fb M f wr ∧ Below w.heap.size w wr ∧ Vn (fb + 1) wr tv T ∧ DfI M F0 (AdjF fw) (fun j => R (ce k) (ce j)) O f T (fun j => j = c) ∧ f k = false ∧ 2 * cntF f M + T.length + 1 ≤ G ∧ Nbr fw vlo ulo uhi f vv ulo)
                case atStart => exact ⟨vlo, f, T, rfl, Nat.le_refl _, hvb1.1, rfl, HF.out, HB2.out, HVT.out, HDP.out, HFKK.out, HF2.out, HN0.out⟩
                case round =>
                  obtain ⟨vv, f, T, rfl, hv1, hv2, hg, hf, hb, hvn, hd, hfk, hm, hnb⟩ := hrel
                  have HGV := Lib.hid hg
                  have HF3 := Lib.hid hf
                  have HB3 := Lib.hid hb
                  have HV3 := Lib.hid hvn
                  have HD3 := Lib.hid hd
                  have HFK3 := Lib.hid hfk
                  have HM3 := Lib.hid hm
                  have HN3 := Lib.hid hnb
                  clear hg hf hb hvn hd hfk hm hnb HF HB2 HVT HDP HFKK HF2 HN0 ctop hgl hgb
                  by_cases hvh : vv ≤ vhi
                  · have hvhI : (vv : Int) ≤ (vhi : Int) := by omega
                    obtain ⟨vw, hvw⟩ : ∃ vw, vw = vv * fw := ⟨_, rfl⟩
                    have hvwi : (vv : Int) * (fw : Int) = (vw : Int) := by rw [hvw]; push_cast; rfl
                    have hvwM : vw + fw ≤ M := by rw [hvw, HM.out, ← Nat.succ_mul, Nat.mul_comm]; exact Nat.mul_le_mul_left fw (by omega)
                    have HVW := Lib.hid hvw
                    have HADV := Lib.hid (show ∀ uu, ulo ≤ uu → uu ≤ uhi → AdjF fw c (vw + uu) from fun uu h1 h2 => by rw [hvw]; exact HADJ.out vv uu hv1 hvh h1 h2)
                    clear hvw
                    go_wp2_with (fail)
                    go_loopg [20, 17] (uhi + 1 - ulo) (fun gg z tv wr => ∃ (uu : Nat) (f : Nat → Bool) (T : List Nat), z = .int .i64 uu ∧ ulo ≤ uu ∧ uu ≤ uhi + 1 ∧ gg = uhi + 1 - uu ∧ OwB fb M f wr ∧ Below w.heap.size w wr ∧ Vn (fb + 1) wr tv T ∧ DfI M F0 (AdjF fw) (fun j => R (ce k) (ce j)) O f T (fun j => j = c) ∧ f k = false ∧ 2 * cntF f M + T.length + 1 ≤ G ∧ Nbr fw vlo ulo uhi f vv uu)
                    case atStart => exact ⟨ulo, f, T, rfl, Nat.le_refl _, hub1.1, rfl, HF3.out, HB3.out, HV3.out, HD3.out, HFK3.out, HM3.out, HN3.out⟩
                    case round =>
                      obtain ⟨uu, f, T, rfl, hu1, hu2, hg, hf, hb, hvn, hd, hfk, hm, hnb⟩ := hrel
                      have HGU := Lib.hid hg
                      have HF4 := Lib.hid hf
                      have HB4 := Lib.hid hb
                      have HV4 := Lib.hid hvn
                      have HD4 := Lib.hid hd
                      have HFK4 := Lib.hid hfk
                      have HM4 := Lib.hid hm
                      have HN4 := Lib.hid hnb
                      clear hg hf hb hvn hd hfk hm hnb HF3 HB3 HV3 HD3 HFK3 HM3 HN3
                      by_cases huh : uu ≤ uhi
                      · have huhI : (uu : Int) ≤ (uhi : Int) := by omega
                        obtain ⟨ix, hix⟩ : ∃ ix, ix = vw + uu := ⟨_, rfl⟩
                        have hixi : (vw : Int) + (uu : Int) = (ix : Int) := by omega
                        have hixM : ix < M := by omega
                        have hixI : (ix : Int) < (M : Int) := by omega
                        have HIX := Lib.hid (show ix = vv * fw + uu from by rw [← HVW.out]; exact hix)
                        have HAD := Lib.hid (show AdjF fw c ix from by rw [hix]; exact HADV.out uu hu1 huh)
                        have q1 := HF4.out.cell hixM
                        have q2 := HF4.out.frozen ix
                        have q3 := HF4.out.lt
                        clear hix
                        cases hfx : f ix
                        · rw [hfx] at q1
                          have HN5 := Lib.hid (HN4.out.skip (by rw [← HIX.out]; exact hfx))
                          clear hfx
                          go_wp2
                          go_roundg (uhi + 1 - (uu + 1))
                          case measure => have := HGU.out; omega
                          case rel => exact ⟨uu + 1, f, T, by go_num, by omega, by omega, rfl, HF4.out, HB4.out, HV4.out, HD4.out, HFK4.out, HM4.out, HN5.out⟩
                        · rw [hfx] at q1
                          have HN5 := Lib.hid (show Nbr fw vlo ulo uhi (updF f ix) vv (uu + 1) from by rw [HIX.out]; exact HN4.out.mark)
                          have HD5 := Lib.hid (HD4.out.push hixM hfx (fun h0 => HRC.out.step k c ix HCC.out.2.2 HCC.out.1 hixM h0 HAD.out))
                          have HFK5 := Lib.hid (updF_false (i := ix) HFK4.out)
                          have HM5 := Lib.hid (show 2 * cntF (updF f ix) M + (T ++ [ix]).length + 1 ≤ G from by
                            have := HM4.out; have := cntF_upd hfx M hixM
                            rw [List.length_append, List.length_singleton]; omega)
                          have HF5 := Lib.hid (show OwB fb M (updF f ix) (wr.setCell ⟨fb, ix, none⟩ (.bool false)) from HF4.out.set ix false)
                          have HB5 := Lib.hid (HB4.out.setCell (p := ⟨fb, ix, none⟩) hfw' (.bool false))
                          have HV5 := Lib.hid (show Vn (fb + 1) (wr.setCell ⟨fb, ix, none⟩ (.bool false)) u17 T from Vi.set HV4.out (Vi.ne HV4.out HF4.out (by decide)))
                          have hTl : (T.map fun (k : Nat) => (k : Int)).length ≤ 1000000 := by rw [List.length_map]; have := HM4.out; have := HGB.out; omega
                          clear hfx
                          go_upto_region 28 with (fail)
                          obtain ⟨w8, hw8⟩ : ∃ w8, w8 = wr.setCell ⟨fb, ix, none⟩ (.bool false) := ⟨_, rfl⟩
                          rw [← hw8]
                          rw [← hw8] at HF5 HB5 HV5
                          have hbs : fb + 1 ≤ w8.heap.size := HF5.out.lt
                          clear hw8 q1 q2 q3 HF4 HB4 HV4
                          go_wp2_with (at_builtin; refine wpList_pushI _ rfl _ _ rfl (fb + 1) HV5.out (by rfl) (by rfl) rfl hTl hbs ?_; intro v5 w5 hv5 hb5 hk5 _; have HV6 := Lib.hid hv5; have HB6 := Lib.hid hb5; have HF6 := Lib.hid (show OwB fb M (updF f ix) w5 from (hk5 fb HF5.out.lt (Vi.ne HV5.out HF5.out (by decide))).trans HF5.out); clear hv5 hb5 hk5)
                          go_roundg (uhi + 1 - (uu + 1))
                          case measure => have := HGU.out; omega
                          case rel => exact ⟨uu + 1, updF f ix, T ++ [ix], by go_num, by omega, by omega, rfl, HF6.out, HB5.out.trans (HB6.out.mono (by omega)), by unfold Vn; rw [List.map_append]; exact HV6.out, HD5.out, HFK5.out, HM5.out, HN5.out⟩
                      · have huhI : ¬ (uu : Int) ≤ (uhi : Int) := by omega
                        have HN5 := Lib.hid (show Nbr fw vlo ulo uhi f (vv + 1) ulo from by
                          have h := HN4.out
                          rw [show uu = uhi + 1 by omega] at h
                          exact h.row)
                        go_wp2
                        go_roundg (vhi + 1 - (vv + 1))
                        case measure => have := HGV.out; omega
                        case rel => exact ⟨vv + 1, f, T, by go_num, by omega, by omega, rfl, HF4.out, HB4.out, HV4.out, HD4.out, HFK4.out, HM4.out, HN5.out⟩
                  · have hvhI : ¬ (vv : Int) ≤ (vhi : Int) := by omega
                    have HD5 := Lib.hid (show DfI M F0 (AdjF fw) (fun j => R (ce k) (ce j)) O f T (fun _ => False) from HD3.out.fin (fun i hi ha _ => by
                      have h := HN3.out
                      rw [show vv = vhi + 1 by omega] at h
                      exact HDN.out f h i hi ha))
                    go_wp2
                    go_roundg (2 * cntF f M + T.length)
                    case measure => have := HM3.out; have := HGK.out; omega
                    case rel => exact ⟨f, T, rfl, by have := HM3.out; have := HGB.out; omega, HF3.out, HB3.out, HV3.out, HD5.out, HFK3.out⟩
        · have hkM : k = M := by omega
          have HR1 := Lib.hid (show n1 = res + 1 from HEND.out n1 (by
            have h := HFK.out 0 (by rw [hkM, show (List.range M).drop M = [] from List.drop_eq_nil_of_le (by simp)]; exact .nil _)
            exact h))
          obtain rfl := hkM
          have HQR := Lib.hid (show q = (res : Int) from by have := HQ.out; have := HR1.out; omega)
          go_wp2
          go_ret
          exact ⟨by first | rfl | (rw [HQR.out]; rfl), HB2.out⟩

/-- the cells of class c among the first k -/
def cellsK (n : Nat) (cl : Nat → Int) (c k : Nat) : List Cel := ((List.range k).filter fun i => decide (cl i = (c : Int))).map (celK n)
/-- the classes that begin among the first i -/
def partsK (n N : Nat) (cl : Nat → Int) (i : Nat) : List Prt := ((List.range i).filter fun c => decide (cl c = (c : Int))).map fun c => partL (cellsK n cl c N) 3000
theorem cellsK_yes {n : Nat} {cl : Nat → Int} {c k : Nat} (h : cl k = (c : Int)) : cellsK n cl c (k + 1) = cellsK n cl c k ++ [celK n k] := by
  unfold cellsK
  rw [List.range_succ, List.filter_append, List.map_append, List.filter_cons_of_pos (by simpa using h)]; rfl
theorem cellsK_no {n : Nat} {cl : Nat → Int} {c k : Nat} (h : ¬ cl k = (c : Int)) : cellsK n cl c (k + 1) = cellsK n cl c k := by
  unfold cellsK
  rw [List.range_succ, List.filter_append, List.map_append, List.filter_cons_of_neg (by simpa using h)]; simp
theorem cellsK_len (n : Nat) (cl : Nat → Int) (c k : Nat) : (cellsK n cl c k).length ≤ k := by
  unfold cellsK
  rw [List.length_map]
  exact Nat.le_trans (List.length_filter_le _ _) (by simp)
theorem partsK_yes {n N : Nat} {cl : Nat → Int} {c : Nat} (h : cl c = (c : Int)) : partsK n N cl (c + 1) = partsK n N cl c ++ [partL (cellsK n cl c N) 3000] := by
  unfold partsK
  rw [List.range_succ, List.filter_append, List.map_append, List.filter_cons_of_pos (by simpa using h)]; rfl
theorem partsK_no {n N : Nat} {cl : Nat → Int} {c : Nat} (h : ¬ cl c = (c : Int)) : partsK n N cl (c + 1) = partsK n N cl c := by
  unfold partsK
  rw [List.range_succ, List.filter_append, List.map_append, List.filter_cons_of_neg (by simpa using h)]; simp
theorem partsK_len (n N : Nat) (cl : Nat → Int) (c : Nat) : (partsK n N cl c).length ≤ c := by
  unfold partsK
  rw [List.length_map]
  exact Nat.le_trans (List.length_filter_le _ _) (by simp)
/-- the four neighbours, in the reference's order -/
def rsides (c : Cel) : List Cel := [(c.1 - 1, c.2), (c.1 + 1, c.2), (c.1, c.2 - 1), (c.1, c.2 + 1)]
/-- how many of the first d are not usable -/
def outD (us : Cel → Bool) (c : Cel) (d : Nat) : Nat := (((rsides c).take d).filter fun e => !us e).length
theorem outD_le (us : Cel → Bool) (c : Cel) (d : Nat) : outD us c d ≤ d := Nat.le_trans (List.length_filter_le _ _) (by rw [List.length_take]; omega)
theorem outD_step {us : Cel → Bool} {c : Cel} {d : Nat} {e : Cel} (h : (rsides c)[d]? = some e) : outD us c (d + 1) = outD us c d + if us e then 0 else 1 := by
  unfold outD
  rw [List.take_add_one, h, List.filter_append, List.length_append]
  cases hu : us e <;> simp [hu]
theorem outD_all (us : Cel → Bool) (c : Cel) : outD us c 4 = ((sidesL c).filter fun d => !us d).length := by
  unfold outD rsides sidesL
  simp only [List.take_succ_cons, List.take_zero, List.filter_cons, List.filter_nil]
  cases us (c.1 - 1, c.2) <;> cases us (c.1 + 1, c.2) <;> cases us (c.1, c.2 - 1) <;> cases us (c.1, c.2 + 1) <;> rfl
/-- the edge of some cells -/
def edgU (us : Cel → Bool) (l : List Cel) : Nat := (l.map fun x => ((sidesL x).filter fun d => !us d).length).sum
theorem edgU_snoc (us : Cel → Bool) (l : List Cel) (c : Cel) : edgU us (l ++ [c]) = edgU us l + outD us c 4 := by
  unfold edgU
  rw [List.map_append, List.sum_append, outD_all]; simp
theorem edgU_le (us : Cel → Bool) : ∀ l : List Cel, edgU us l ≤ 4 * l.length
  | [] => by simp [edgU]
  | c :: l => by
    have h := edgU_le us l
    have h2 : ((sidesL c).filter fun d => !us d).length ≤ 4 := Nat.le_trans (List.length_filter_le _ _) (by simp [sidesL])
    unfold edgU at h ⊢
    rw [List.map_cons, List.sum_cons, List.length_cons]; omega
section
variable {us : Cel → Bool} {n h : Nat} {up : Nat → Nat}
theorem cls_iff {k c : Nat} : clsK us n up k = (c : Int) ↔ us (celK n k) = true ∧ rtU up k = c := by
  unfold clsK
  cases hu : us (celK n k) <;> simp <;> omega
variable (hr : RtOk us (boxCells ⟨0, 0, (n : Int) - 1, (h : Int) - 1⟩) (fun c => celK n (rtU up (idxC n c))))
theorem idx_cel (k : Nat) : idxC n (celK n k) = k := by
  unfold idxC celK
  dsimp only
  rw [Int.toNat_natCast, Int.toNat_natCast, Nat.div_add_mod]
theorem cells_cls (c : Nat) : ((boxCells ⟨0, 0, (n : Int) - 1, (h : Int) - 1⟩).filter fun d => us d && decide (celK n (rtU up (idxC n d)) = celK n c)) = cellsK n (clsK us n up) c (n * h) := by
  rw [box_cells, List.filter_map]
  unfold cellsK
  congr 1
  refine List.filter_congr fun k _ => ?_
  show (us (celK n k) && decide (celK n (rtU up (idxC n (celK n k))) = celK n c)) = decide (clsK us n up k = (c : Int))
  rw [idx_cel]
  have : (us (celK n k) = true ∧ celK n (rtU up k) = celK n c) ↔ clsK us n up k = (c : Int) := by
    rw [cls_iff]
    exact ⟨fun h => ⟨h.1, celK_inj h.2⟩, fun h => ⟨h.1, by rw [h.2]⟩⟩
  rw [Bool.eq_iff_iff, Bool.and_eq_true, decide_eq_true_iff, decide_eq_true_iff]; exact this
include hr
theorem parts_cls (hb : n * h ≤ 3000) : partsL us n h 3000 = partsK n (n * h) (clsK us n up) (n * h) := by
  have hlen : (boxCells ⟨0, 0, (n : Int) - 1, (h : Int) - 1⟩).length ≤ 3000 := by rw [box_cells]; simpa using hb
  rw [parts_rt hr hlen]
  unfold rtParts partsK
  have e1 : ((boxCells ⟨0, 0, (n : Int) - 1, (h : Int) - 1⟩).filter fun c => us c && decide (celK n (rtU up (idxC n c)) = c)) = ((List.range (n * h)).filter fun c => decide (clsK us n up c = (c : Int))).map (celK n) := by
    rw [box_cells, List.filter_map]
    congr 1
    refine List.filter_congr fun k _ => ?_
    show (us (celK n k) && decide (celK n (rtU up (idxC n (celK n k))) = celK n k)) = decide (clsK us n up k = (k : Int))
    rw [idx_cel]
    have : (us (celK n k) = true ∧ celK n (rtU up k) = celK n k) ↔ clsK us n up k = (k : Int) := by
      rw [cls_iff]
      exact ⟨fun h => ⟨h.1, celK_inj h.2⟩, fun h => ⟨h.1, by rw [h.2]⟩⟩
    rw [Bool.eq_iff_iff, Bool.and_eq_true, decide_eq_true_iff, decide_eq_true_iff]; exact this
  rw [e1, List.map_map]
  refine List.map_congr_left fun c _ => ?_
  exact congrArg (fun l => partL l 3000) (cells_cls c)
theorem edge_cls (c : Nat) : edgeL (cellsK n (clsK us n up) c (n * h)) = edgU us (cellsK n (clsK us n up) c (n * h)) := by
  have e := edge_us hr (celK n c)
  rw [cells_cls] at e
  exact e
end
/-- a cell of a class, found by its number -/
theorem mem_cellsK {n N : Nat} {cl : Nat → Int} {c x y : Nat} (hx : x < n) (hi : n * y + x < N) : (((x : Int), (y : Int)) ∈ cellsK n cl c N ↔ cl (n * y + x) = (c : Int)) := by
  have e := celK_at (y := y) hx
  unfold cellsK
  rw [List.mem_map]
  constructor
  · rintro ⟨k, hk, he⟩
    rw [← e] at he
    have := celK_inj he
    subst this
    simpa using (List.mem_filter.1 hk).2
  · intro h
    exact ⟨n * y + x, List.mem_filter.2 ⟨List.mem_range.2 hi, by simpa using h⟩, e⟩
theorem cellsK_grid {n h N : Nat} {cl : Nat → Int} {c : Nat} (hn : 0 < n) (hN : N = n * h) {d : Cel} (hd : d ∈ cellsK n cl c N) : 0 ≤ d.1 ∧ d.1 < n ∧ 0 ≤ d.2 ∧ d.2 < h := by
  unfold cellsK at hd
  obtain ⟨k, hk, rfl⟩ := List.mem_map.1 hd
  have hk := List.mem_range.1 (List.mem_filter.1 hk).1
  have h1 : k % n < n := Nat.mod_lt _ hn
  have h2 : k / n < h := Nat.div_lt_of_lt_mul (by rw [← hN]; exact hk)
  unfold celK
  dsimp only
  refine ⟨by omega, by omega, ?_, by omega⟩
  exact Int.natCast_nonneg _
/-- the box of a class -/
theorem cells_box {n h N : Nat} {cl : Nat → Int} {c : Nat} (hn : 0 < n) (hN : N = n * h) (hc : c < N) (hcl : cl c = (c : Int)) : (0 ≤ (boxL (cellsK n cl c N)).x0 ∧ (boxL (cellsK n cl c N)).x0 ≤ (boxL (cellsK n cl c N)).x1 ∧ (boxL (cellsK n cl c N)).x1 < n) ∧
    (0 ≤ (boxL (cellsK n cl c N)).y0 ∧ (boxL (cellsK n cl c N)).y0 ≤ (boxL (cellsK n cl c N)).y1 ∧ (boxL (cellsK n cl c N)).y1 < h) ∧ ∀ d ∈ cellsK n cl c N, (boxL (cellsK n cl c N)).inB d = true := by
  have hm : celK n c ∈ cellsK n cl c N := List.mem_map.2 ⟨c, List.mem_filter.2 ⟨List.mem_range.2 hc, by simpa using hcl⟩, rfl⟩
  have hin : ∀ d ∈ cellsK n cl c N, (boxL (cellsK n cl c N)).inB d = true := fun d hd => by
    have := box_has hd
    rw [mem_box] at this
    unfold Bx.inB
    simp only [Bool.and_eq_true, decide_eq_true_eq]
    omega
  have h1 := box_has hm
  rw [mem_box] at h1
  have h2 : ∀ (l : List Cel) (b : Bx), (∀ d ∈ l, 0 ≤ d.1 ∧ d.1 < n ∧ 0 ≤ d.2 ∧ d.2 < h) → (0 ≤ b.x0 ∧ 0 ≤ b.y0 ∧ b.x1 ≤ (n : Int) - 1 ∧ b.y1 ≤ (h : Int) - 1) → (0 ≤ (l.foldl Bx.with_ b).x0 ∧ 0 ≤ (l.foldl Bx.with_ b).y0 ∧ (l.foldl Bx.with_ b).x1 ≤ (n : Int) - 1 ∧ (l.foldl Bx.with_ b).y1 ≤ (h : Int) - 1) := fun l b hl hb =>
    fold_in l b hb fun d hd => by have := hl d hd; omega
  have hg := cellsK_grid hn hN hm
  have h3 := h2 (cellsK n cl c N) Bx.no (fun d hd => cellsK_grid hn hN hd) (by unfold Bx.no; dsimp only; omega)
  have h4 : boxL (cellsK n cl c N) = (cellsK n cl c N).foldl Bx.with_ Bx.no := rfl
  rw [← h4] at h3
  refine ⟨⟨by omega, by omega, by omega⟩, ⟨by omega, by omega, by omega⟩, hin⟩

/-- a row of the reference's parts -/
def Vq (base : Nat) (w : World) (v : Value) (l : List Prt) : Prop := w.ownsRow base 34 7 v l.length (l.flatMap pvs)
theorem Vq.nil (base : Nat) (w : World) : Vq base w (.slice none 0 0) [] := own_nil w base 34 7
theorem Vq.psl {base : Nat} {w : World} {v : Value} {l : List Prt} (h : Vq base w v l) : ∃ A cap, v = .slice A l.length cap ∧ l.length ≤ cap ∧ cap ≤ maxLen ∧ PSl w A l := by
  obtain ⟨A, cap, hv, h1, h2, h3⟩ := own_cells h
  refine ⟨A, cap, hv, h1, h2, ?_⟩
  rcases h3 with h3 | ⟨g, rfl, hb, hg, hc⟩
  · exact .inl (List.eq_nil_of_length_eq_zero h3)
  · refine .inr ⟨g, 0, rfl, hg, fun j hj i hi => ?_⟩
    have hf : ∀ a : Prt, (pvs a).length = 7 := fun _ => rfl
    rw [Nat.zero_add]
    exact hc (j * 7 + i) _ (by rw [flat_get hf l j i hj hi]; exact List.getElem?_eq_getElem hi)
theorem info_rpart : (Tryd.prog.info? 34).map (fun i => (i.zero, i.size, i.bytes)) = some (some (.agg #[.int .i64 0, .int .i64 0, .int .i64 0, .int .i64 0, .int .i64 0, .int .i64 0, .int .i64 0]), 7, 56) := by kernel_rfl
theorem own_ne2 {w : World} {base base' n n' sz sz' : Nat} {e e' : TypeId} {v v' : Value} {xs xs' : List Value} (h : w.ownsRow base e sz v n xs) (h' : w.ownsRow base' e' sz' v' n' xs') (hT : e ≠ e') : ∀ k, v'.ownBlock = some k → some k ≠ v.ownBlock := by
  intro k hk
  obtain ⟨_, h'⟩ := h'
  rcases h' with ⟨rfl, _⟩ | ⟨g, cap, cur, rfl, hg, hh, hr⟩
  · cases hk
  · have : g = k := by simpa [Value.ownBlock] using hk
    subst this
    exact own_ne h (show Bk e' w g cur from hh) hT
/-- what the reference's Parts knows of a world: the classes, the parts, the cells -/
def RpS (w : World) (v N : Nat) (cl : Nat → Int) (B : Nat) (o : Value) (ps : List Prt) (wr : World) : Prop :=
  Ow 3 v N cl wr ∧ Vq B wr o ps ∧ Below w.heap.size w wr ∧ w.heap.size ≤ B ∧ B ≤ wr.heap.size
section
variable {w : World} {v N : Nat} {cl : Nat → Int} {B : Nat} {o : Value} {ps : List Prt} {wr w' : World}
theorem RpS.ext (h : RpS w v N cl B o ps wr) (hb : Below wr.heap.size wr w') : RpS w v N cl B o ps w' :=
  ⟨h.1.ext hb, own_ext h.2.1 hb, bext h.2.2.1 hb h.2.2.1.size, h.2.2.2.1, Nat.le_trans h.2.2.2.2 hb.size⟩
/-- a row of cells has grown -/
theorem RpS.cells (h : RpS w v N cl B o ps wr) {c : Value} {l : List Cel} (hc : Vd B wr c l) (hb : Below B wr w') (hk : ∀ k, k < wr.heap.size → some k ≠ c.ownBlock → w'.heap[k]? = wr.heap[k]?) : RpS w v N cl B o ps w' :=
  ⟨(hk _ h.1.lt (own_ne hc h.1 (by decide))).trans h.1, own_keep h.2.1 fun k e => hk k (own_lt h.2.1 k e).2 (own_ne2 hc h.2.1 (by decide) k e), h.2.2.1.trans (hb.mono h.2.2.2.1), h.2.2.2.1, Nat.le_trans h.2.2.2.2 hb.size⟩
/-- a part more -/
theorem RpS.push (h : RpS w v N cl B o ps wr) (pr : Prt) {cs : Array Value} {v' : Value} (hg : (wr.alloc (.cells cs 34)).grownBy w' o.ownBlock) (hown : w'.ownsRow B 34 7 v' (ps.length + 1) (ps.flatMap pvs ++ pvs pr)) : RpS w v N cl B v' (ps ++ [pr]) w' := by
  have h2 := h.ext (ext_alloc wr (.cells cs 34))
  have hb := h2.2.2.1.grown hg (by simp; have := h.2.2.1.size; omega) (fun k hk => Nat.le_trans h.2.2.2.1 (own_lt h.2.1 k hk).1)
  refine ⟨(hg.block v h2.1.lt (own_ne h2.2.1 h2.1 (by decide))).trans h2.1, ?_, hb, h.2.2.2.1, ?_⟩
  · have e : ps.flatMap pvs ++ pvs pr = (ps ++ [pr]).flatMap pvs := by rw [List.flatMap_append]; simp
    have e2 : (ps ++ [pr]).length = ps.length + 1 := by simp
    unfold Vq
    rw [← e, e2]
    exact hown
  · have := ((Below.refl B (wr.alloc (.cells cs 34))).grown hg (by simp; have := h.2.2.2.2; omega) (fun k hk => (own_lt h.2.1 k hk).1)).size
    simp at this
    have := h.2.2.2.2
    omega
end
/-- what the reference's Parts answers -/
def RetRp (w : World) (l : List ByteArray) (g : Int) (e : Ending) (w' : World) : Prop :=
  Below w.heap.size w w' ∧ ((¬ PsOk l g ∧ e = .returned (.tuple #[.slice none 0 0, .int .i64 2])) ∨
    (PsOk l g ∧ ∃ A cap, e = .returned (.tuple #[.slice A (partsL (usb l g) (wid l) l.length 3000).length cap, .int .i64 0]) ∧ (partsL (usb l g) (wid l) l.length 3000).length ≤ cap ∧ cap ≤ 9223372036854775807 ∧ PSl w' A (partsL (usb l g) (wid l) l.length 3000)))
/-- the four neighbours in their block -/
theorem four_at (x y : Int) : ∀ d, d < 4 → ∃ ex ey, (rsides (x, y))[d]? = some (ex, ey) ∧ #[Value.int .i64 (x - 1), .int .i64 y, .int .i64 (x + 1), .int .i64 y, .int .i64 x, .int .i64 (y - 1), .int .i64 x, .int .i64 (y + 1)][d * 2]? = some (.int .i64 ex) ∧
    #[Value.int .i64 (x - 1), .int .i64 y, .int .i64 (x + 1), .int .i64 y, .int .i64 x, .int .i64 (y - 1), .int .i64 x, .int .i64 (y + 1)][d * 2 + 1]? = some (.int .i64 ey) := by
  intro d hd
  rcases (by omega : d = 0 ∨ d = 1 ∨ d = 2 ∨ d = 3) with rfl | rfl | rfl | rfl
  · exact ⟨_, _, rfl, rfl, rfl⟩
  · exact ⟨_, _, rfl, rfl, rfl⟩
  · exact ⟨_, _, rfl, rfl, rfl⟩
  · exact ⟨_, _, rfl, rfl, rfl⟩
set_option maxRecDepth 100000 in
set_option maxHeartbeats 8000000 in
theorem rparts_any (A : Option Addr) (cap : Nat) (l : List ByteArray) (g : Int) (w : World) (hc : l.length ≤ cap) (hcm : cap ≤ 9223372036854775807) (h : TSl w A l) (hz : TSz l) :
    Calls Tryd.prog 13 #[.slice A l.length cap, .int .i64 g] w (RetRp w l g) := by
  have HGD := Lib.hid (good_any A cap l g w hc hcm h hz)
  by_cases hps : PsOk l g
  · rw [decide_eq_true hps] at HGD
    have HPS := Lib.hid hps
    have hok := hps.1
    have HCLS := Lib.hid (fun W (hW : Below w.heap.size w W) => rclasses_any A cap l g W hok hps.2.1 (h.ext hW))
    have HGR := Lib.hid (fun x y W (hW : Below w.heap.size w W) => rgrade_any A cap l x y W hok (h.ext hW))
    rcases h with h0 | ⟨b, off, rfl, hblt, hcl⟩
    · have h1 := hok.1; rw [h0] at h1; simp at h1
    have HC := Lib.hid (show ∀ W, Below w.heap.size w W → b < W.heap.size ∧ ∃ r0 : ByteArray, W.cell? ⟨b, off, none⟩ = some (.string r0) ∧ r0.size = wid l from fun W hW => ⟨Nat.lt_of_lt_of_le hblt hW.size, first_row hok (fun j hj => (hW.cell (p := ⟨b, off + j, none⟩) hblt).trans (hcl j hj))⟩)
    have hl1 := hok.1
    have hl48 := hok.2.1
    have hw48 := hok.2.2.2.1
    have hw1 := hok.2.2.1
    obtain ⟨us, hus⟩ : ∃ us, us = usb l g := ⟨_, rfl⟩
    have HUS := Lib.hid (show ∀ x y, (us (x, y) = true ↔ g ≤ gr l x y) from fun x y => by rw [hus]; unfold usb; simp)
    have HU := Lib.hid hus
    obtain ⟨n, hn⟩ : ∃ n, n = wid l := ⟨_, rfl⟩
    have HN := Lib.hid hn
    rw [← hn] at HC hw48 hw1
    obtain ⟨N, hN⟩ : ∃ N, N = n * l.length := ⟨_, rfl⟩
    have HNN := Lib.hid hN
    have hNb : N ≤ 48 * 48 := by rw [hN]; exact Nat.mul_le_mul hw48 hl48
    have HCLS := Lib.hid (show ∀ W, Below w.heap.size w W → Calls Tryd.prog 49 #[.slice (some ⟨b, off, none⟩) l.length cap, .int .i64 g] W fun e w' => ∃ (v : Nat) (cl : Nat → Int), e = .returned (.slice (some ⟨v, 0, none⟩) N N) ∧ W.heap.size ≤ v ∧ Ow 3 v N cl w' ∧ Below W.heap.size W w' ∧ partsL us n l.length 3000 = partsK n N cl N ∧ (∀ c, edgeL (cellsK n cl c N) = edgU us (cellsK n cl c N)) from fun W hW => by
      refine (HCLS.out W hW).mono ?_
      rintro e w' ⟨v, up, rfl, hle, hrt, hv, ho, hb⟩
      rw [← hus, ← hn] at hrt ho
      have hg : grid l = ⟨0, 0, (n : Int) - 1, (l.length : Int) - 1⟩ := by unfold grid; rw [hn]
      rw [hg] at hrt
      rw [← hN] at ho
      refine ⟨v, clsK us n up, by rw [← hn, ← hN], hv, ho, hb, ?_, fun c => ?_⟩
      · rw [hN]; exact parts_cls hrt (by omega)
      · rw [hN]; exact edge_cls hrt c)
    clear hus hn hN hok hps hcl hblt hz
    go_enter Tryd.func13, Tryd.ntmps13
    go_upto_region 3 with (go_at_call 21; refine (HGD.out).mono ?_; rintro e w1 ⟨rfl, hx1⟩)
    obtain ⟨hb1, r0, c0, hr0⟩ := HC.out w1 hx1
    go_upto_region 4 with (fail)
    go_upto_region 6 with (go_at_call 49; refine (HCLS.out w1 hx1).mono ?_; rintro e w2 ⟨v, cl, rfl, hv1, ho, hx2, hpk, hek⟩)
    have HPK := Lib.hid hpk
    have HEK := Lib.hid hek
    have HS0 := Lib.hid (show RpS w v N cl w2.heap.size (.slice none 0 0) (partsK n N cl 0) w2 from ⟨ho, Vq.nil _ _, bext hx1 hx2 hx1.size, by have := hx1.size; have := hx2.size; omega, Nat.le_refl _⟩)
    obtain ⟨B, hB⟩ : ∃ B, B = w2.heap.size := ⟨_, rfl⟩
    rw [← hB] at HS0
    clear hpk hek ho hx2 hv1 hB c0 hb1 hr0 hx1
    go_wp2_with (fail)
    go_loopg [34, 8] N (fun gg z o wr => ∃ i : Nat, z = .int .i64 i ∧ i ≤ N ∧ gg = N - i ∧ RpS w v N cl B o (partsK n N cl i) wr)
    case atStart => exact ⟨0, rfl, by omega, by omega, HS0.out⟩
    case round =>
      obtain ⟨i, rfl, hi, hg, hs⟩ := hrel
      have HG := Lib.hid hg
      have HS := Lib.hid hs
      clear hg hs HS0
      by_cases hlt : i < N
      · have c1 := HS.out.1.cell hlt
        have c3 := HS.out.1.lt
        by_cases hci : cl i = (i : Int)
        · have HCI := Lib.hid hci
          rw [hci] at c1
          clear hci
          have HS0 := Lib.hid (show Vd B wr (.slice none 0 0) (cellsK n cl i 0) from Vd.nil _ _)
          go_wp2_with (fail)
          obtain ⟨wo, hwo⟩ : ∃ wo, wo = wr := ⟨_, rfl⟩
          subst hwo
          go_loopg [44, 11, 12] N (fun gg z c y wr => ∃ (k : Nat) (e : Int), z = .int .i64 k ∧ k ≤ N ∧ gg = N - k ∧ RpS w v N cl B u8 (partsK n N cl i) wr ∧ Vd B wr c (cellsK n cl i k) ∧ y = .int .i64 e ∧ e = (edgU us (cellsK n cl i k) : Int))
          case atStart => exact ⟨0, 0, rfl, by omega, by omega, HS.out, HS0.out, rfl, rfl⟩
          case round =>
            obtain ⟨k, e, rfl, hk, hg2, hs2, hv, rfl, he⟩ := hrel
            have HG2 := Lib.hid hg2
            have HS2 := Lib.hid hs2
            have HV := Lib.hid hv
            have HE := Lib.hid he
            have HLT := Lib.hid hlt
            have heb : 0 ≤ e ∧ e ≤ 20000 := by have := edgU_le us (cellsK n cl i k); have := cellsK_len n cl i k; omega
            have hcb : (cellsK n cl i k).length ≤ 2304 := by have := cellsK_len n cl i k; omega
            clear hg2 hs2 hv he HS HS0 c1 c3
            by_cases hltk : k < N
            · have c1 := HS2.out.1.cell hltk
              have c3 := HS2.out.1.lt
              obtain ⟨ck, hck⟩ : ∃ ck, ck = cl k := ⟨_, rfl⟩
              rw [← hck] at c1
              by_cases hci : ck = (i : Int)
              · have HY := Lib.hid (show cellsK n cl i (k + 1) = cellsK n cl i k ++ [celK n k] from cellsK_yes (by rw [← hck]; exact hci))
                rw [hci] at c1
                clear hci hck
                obtain ⟨px, hpx⟩ : ∃ px, px = k % n := ⟨_, rfl⟩
                obtain ⟨py, hpy⟩ : ∃ py, py = k / n := ⟨_, rfl⟩
                have hpn : px < n := by rw [hpx]; exact Nat.mod_lt _ (by omega)
                have hpk : py < l.length := by rw [hpy]; exact Nat.div_lt_of_lt_mul (by rw [← HNN.out]; exact hltk)
                have htm : (k : Int).tmod (n : Int) = (px : Int) := by rw [Int.tmod_eq_emod_of_nonneg (by omega), hpx]; push_cast; rfl
                have htd : (k : Int).tdiv (n : Int) = (py : Int) := by rw [Int.tdiv_eq_ediv_of_nonneg (by omega), hpy]; push_cast; rfl
                have hn0 : ¬ (n : Int) = 0 := by omega
                have HY := Lib.hid (show cellsK n cl i (k + 1) = cellsK n cl i k ++ [((px : Int), (py : Int))] from by rw [HY.out]; unfold celK; rw [← hpx, ← hpy])
                clear hpx hpy
                go_upto_region 16 with (fail)
                go_quiet (fail)
                have HS3 := Lib.hid (HS2.out.ext (ext_drewN wr nq))
                have HV3 := Lib.hid (own_ext HV.out (ext_drewN wr nq))
                obtain ⟨X, hX⟩ : ∃ X, X = wr.drewN nq := ⟨_, rfl⟩
                rw [← hX] at HS3 HV3 ⊢
                have hBX : B ≤ X.heap.size := HS3.out.2.2.2.2
                have hvl : (cellsK n cl i k).length ≤ 1000000 := by omega
                clear hX HS2 HV htm htd hn0 c1 c3
                go_upto_region 18 with (at_builtin; refine wpList_pushD _ rfl _ _ rfl B HV3.out (by rfl) (by rfl) rfl hvl hBX ?_; intro v5 w5 hv5 hb5 hk5 _; have HV5 := Lib.hid hv5; have HS5 := Lib.hid (HS3.out.cells HV3.out hb5 hk5); clear hv5 hb5 hk5)
                clear HS3 HV3 hBX
                have HXQ := Lib.hid (ext_alloc w5 (.cells #[.int .i64 ((px : Int) - 1), .int .i64 (py : Int), .int .i64 ((px : Int) + 1), .int .i64 (py : Int), .int .i64 (px : Int), .int .i64 ((py : Int) - 1), .int .i64 (px : Int), .int .i64 ((py : Int) + 1)] 80))
                have HQ := Lib.hid (Bk.new 80 w5 #[.int .i64 ((px : Int) - 1), .int .i64 (py : Int), .int .i64 ((px : Int) + 1), .int .i64 (py : Int), .int .i64 (px : Int), .int .i64 ((py : Int) - 1), .int .i64 (px : Int), .int .i64 ((py : Int) + 1)])
                have HS6 := Lib.hid (HS5.out.ext HXQ.out)
                have HV6 := Lib.hid (own_ext HV5.out HXQ.out)
                have H4 := Lib.hid (four_at (px : Int) (py : Int))
                go_wp2_with (fail)
                obtain ⟨q, hq⟩ : ∃ q, q = w5.heap.size := ⟨_, rfl⟩
                obtain ⟨V, hV⟩ : ∃ V, V = w5.alloc (.cells #[.int .i64 ((px : Int) - 1), .int .i64 (py : Int), .int .i64 ((px : Int) + 1), .int .i64 (py : Int), .int .i64 (px : Int), .int .i64 ((py : Int) - 1), .int .i64 (px : Int), .int .i64 ((py : Int) + 1)] 80) := ⟨_, rfl⟩
                rw [← hq, ← hV]
                rw [← hq, ← hV] at HQ
                rw [← hV] at HS6 HV6
                clear hq hV HXQ HS5 HV5
                obtain ⟨cs, hcs⟩ : ∃ cs, cs = #[Value.int .i64 ((px : Int) - 1), .int .i64 (py : Int), .int .i64 ((px : Int) + 1), .int .i64 (py : Int), .int .i64 (px : Int), .int .i64 ((py : Int) - 1), .int .i64 (px : Int), .int .i64 ((py : Int) + 1)] := ⟨_, rfl⟩
                rw [← hcs] at HQ H4
                clear hcs
                go_loopg [82, 12] 4 (fun gg z y wr => ∃ (d : Nat) (e' : Int), z = .int .i64 d ∧ d ≤ 4 ∧ gg = 4 - d ∧ RpS w v N cl B u8 (partsK n N cl i) wr ∧ Vd B wr v5 (cellsK n cl i k ++ [((px : Int), (py : Int))]) ∧ y = .int .i64 e' ∧ e' = e + (outD us ((px : Int), (py : Int)) d : Int) ∧ Bk 80 wr q cs)
                case atStart => exact ⟨0, e, rfl, by omega, by omega, HS6.out, HV6.out, rfl, by unfold outD; simp, HQ.out⟩
                case round =>
                  obtain ⟨d, e', rfl, hd, hg3, hs3, hv3, rfl, he3, hq3⟩ := hrel
                  have HG3 := Lib.hid hg3
                  have HS7 := Lib.hid hs3
                  have HV7 := Lib.hid hv3
                  have HE7 := Lib.hid he3
                  have HQ7 := Lib.hid hq3
                  have heb3 : 0 ≤ e' ∧ e' ≤ 30000 := by have := outD_le us ((px : Int), (py : Int)) d; omega
                  clear hg3 hs3 hv3 he3 hq3 HS6 HV6 HQ
                  by_cases hltd : d < 4
                  · obtain ⟨ex, ey, hes, he1, he2⟩ := H4.out d hltd
                    have HOS := Lib.hid (outD_step (us := us) hes)
                    have c1 := (HQ7.out.cell (d * 2)).trans he1
                    have c2 := (HQ7.out.cell (d * 2 + 1)).trans he2
                    have c3 := HQ7.out.lt
                    have HXD := Lib.hid (ext_alloc wr (.cells #[.int .i64 ex, .int .i64 ey] 80))
                    have HD := Lib.hid (Bk.new 80 wr #[.int .i64 ex, .int .i64 ey])
                    have HS8 := Lib.hid (HS7.out.ext HXD.out)
                    have HV8 := Lib.hid (own_ext HV7.out HXD.out)
                    have HQ8 := Lib.hid (HQ7.out.ext HXD.out)
                    have hdi : (d : Int) < 4 := by omega
                    clear hes he1 he2
                    go_upto_region 21 with (fail)
                    obtain ⟨dq, hdq⟩ : ∃ dq, dq = wr.heap.size := ⟨_, rfl⟩
                    obtain ⟨Y, hY⟩ : ∃ Y, Y = wr.alloc (.cells #[.int .i64 ex, .int .i64 ey] 80) := ⟨_, rfl⟩
                    rw [← hdq, ← hY]
                    rw [← hdq, ← hY] at HD
                    rw [← hY] at HS8 HV8 HQ8
                    clear hdq hY HXD HS7 HV7 HQ7 c1 c2 c3
                    obtain ⟨d1, d2, d3⟩ := HD.out.facts
                    have e1 := d1 0
                    have e2 := d1 1
                    simp only [List.getElem?_toArray, List.getElem?_cons_zero, List.getElem?_cons_succ] at e1 e2
                    clear d1
                    have HG1 := Lib.hid (HGR.out ex ey Y HS8.out.2.2.1)
                    have HU1 := Lib.hid (HUS.out ex ey)
                    obtain ⟨z1, hz1⟩ : ∃ z1, z1 = gr l ex ey := ⟨_, rfl⟩
                    rw [← hz1] at HG1 HU1
                    clear hz1
                    by_cases hgz : g ≤ z1
                    · have HO1 := Lib.hid (show outD us ((px : Int), (py : Int)) (d + 1) = outD us ((px : Int), (py : Int)) d from by rw [HOS.out, HU1.out.2 hgz, if_pos rfl]; rfl)
                      have hgz2 : ¬ z1 < g := by omega
                      clear hgz HOS
                      go_wp2_with (go_at_call 34; refine (HG1.out).mono ?_; rintro r9 w9 ⟨rfl, rfl⟩)
                      go_roundg (4 - (d + 1))
                      case measure => have := HG3.out; omega
                      case rel => exact ⟨d + 1, e', by go_num, by omega, rfl, HS8.out, HV8.out, rfl, by rw [HO1.out]; exact HE7.out, HQ8.out⟩
                    · have HO1 := Lib.hid (show outD us ((px : Int), (py : Int)) (d + 1) = outD us ((px : Int), (py : Int)) d + 1 from by rw [HOS.out, if_neg (fun h => hgz (HU1.out.1 h))])
                      have hgz2 : z1 < g := by omega
                      clear hgz HOS
                      go_wp2_with (go_at_call 34; refine (HG1.out).mono ?_; rintro r9 w9 ⟨rfl, rfl⟩)
                      go_roundg (4 - (d + 1))
                      case measure => have := HG3.out; omega
                      case rel => exact ⟨d + 1, e' + 1, by go_num, by omega, rfl, HS8.out, HV8.out, rfl, by rw [HO1.out]; have := HE7.out; omega, HQ8.out⟩
                  · obtain rfl : d = 4 := by omega
                    have HED := Lib.hid (show e' = (edgU us (cellsK n cl i (k + 1)) : Int) from by rw [HY.out, edgU_snoc]; have := HE7.out; have := HE.out; omega)
                    go_wp2
                    go_roundg (N - (k + 1))
                    case measure => have := HG2.out; omega
                    case rel => exact ⟨k + 1, e', by go_num, by omega, rfl, HS7.out, by rw [HY.out]; exact HV7.out, rfl, HED.out⟩
              · have HY := Lib.hid (show cellsK n cl i (k + 1) = cellsK n cl i k from cellsK_no (by rw [← hck]; exact hci))
                have hne : (ck != (i : Int)) = true := by simpa using hci
                clear hci hck
                go_wp2
                go_roundg (N - (k + 1))
                case measure => have := HG2.out; omega
                case rel => exact ⟨k + 1, e, by go_num, by omega, rfl, HS2.out, by rw [HY.out]; exact HV.out, rfl, by rw [HY.out]; exact HE.out⟩
            · have hkN : k = N := by omega
              subst hkN
              have HIN := Lib.hid (show ∀ d ∈ cellsK n cl i k, InG d from fun d hd => by
                have := cellsK_grid (by omega) HNN.out hd
                unfold InG; omega)
              have hne : cellsK n cl i k ≠ [] := fun e => by
                have hm : celK n i ∈ cellsK n cl i k := List.mem_map.2 ⟨i, List.mem_filter.2 ⟨List.mem_range.2 HLT.out, by simpa using HCI.out⟩, rfl⟩
                rw [e] at hm; simp at hm
              obtain ⟨hbx1, hbx2, hbx3⟩ := cells_box (by omega) HNN.out HLT.out HCI.out
              have HMC := Lib.hid (fun (x y : Nat) (hx : x < n) (hi : n * y + x < k) => mem_cellsK (cl := cl) (c := i) hx hi)
              have HPY := Lib.hid (show partsK n k cl (i + 1) = partsK n k cl i ++ [partL (cellsK n cl i k) 3000] from partsK_yes HCI.out)
              have HED := Lib.hid (show (edgeL (cellsK n cl i k) : Int) = e from by rw [HEK.out, HE.out])
              have hpl := partsK_len n k cl i
              obtain ⟨C, cc, hvc, k1, k2, k3⟩ := HV.out.csl
              subst hvc
              obtain ⟨L, hL⟩ : ∃ L, L = cellsK n cl i k := ⟨_, rfl⟩
              rw [← hL] at HIN hne hbx1 hbx2 hbx3 HMC HPY HED k1 k3 hcb ⊢
              obtain ⟨ps, hpss⟩ : ∃ ps, ps = partsK n k cl i := ⟨_, rfl⟩
              rw [← hpss] at hpl HS2 HPY
              have HBX := Lib.hid ((rbox_any C cc L wr HIN.out (by omega) (k3.le (Nat.zero_le _))).mono (R' := fun e w' => Below wr.heap.size wr w' ∧ e = .returned (.tuple #[.agg #[.int .i64 (boxL L).x0, .int .i64 (boxL L).y0, .int .i64 ((boxL L).x1 - (boxL L).x0 + 1), .int .i64 ((boxL L).y1 - (boxL L).y0 + 1)], .bool true])) (fun e w' h => ⟨h.1, h.2.elim (fun h => absurd h.1 hne) (fun h => h.2)⟩))
              obtain ⟨bx, hbx⟩ : ∃ bx, bx = boxL L := ⟨_, rfl⟩
              rw [← hbx] at HBX hbx1 hbx2 hbx3
              have HBE := Lib.hid hbx
              have HMB := Lib.hid (show ∀ x y : Nat, bx.inB ((x : Int), (y : Int)) = true → (((x : Int), (y : Int)) ∈ L ↔ cl (n * y + x) = (i : Int)) from fun x y hin => by
                unfold Bx.inB at hin
                simp only [Bool.and_eq_true, decide_eq_true_eq] at hin
                have hy : y + 1 ≤ l.length := by omega
                have hm := Nat.mul_le_mul_left n hy
                rw [Nat.mul_succ] at hm
                refine HMC.out x y (by omega) ?_
                rw [HNN.out]; omega)
              have HB12 := Lib.hid (And.intro hbx1 (And.intro hbx2 hbx3))
              have HHO := Lib.hid (fun W (hO : Ow 3 v k cl W) => rholes_any v n l.length k cl i L bx W hw48 hl48 HNN.out hO HB12.out.1 HB12.out.2.1 HB12.out.2.2 HMB.out)
              have HPR := Lib.hid (show partL L 3000 = ⟨L.length, edgeL L, holesL L bx 3000, bx⟩ from by unfold partL; rw [HBE.out])
              obtain ⟨ho, hho⟩ : ∃ ho, ho = holesL L bx 3000 := ⟨_, rfl⟩
              rw [← hho] at HHO HPR
              clear hho hbx hL hpss hne hbx1 hbx2 hbx3 HMC HMB HB12 HBE
              obtain ⟨x0, y0, x1, y1⟩ := bx
              dsimp only at HBX HHO
              clear k3 HV HE
              go_upto_region 26 with (go_at_call 50; refine (HBX.out).mono ?_; rintro e5 w5 ⟨hx5, rfl⟩; have HX5 := Lib.hid hx5; clear hx5)
              have HS6 := Lib.hid ((HS2.out.ext HX5.out).ext (ext_alloc w5 (.cells #[.int .i64 x0, .int .i64 y0, .int .i64 (x1 - x0 + 1), .int .i64 (y1 - y0 + 1)] 31)))
              have HR6 := Lib.hid (Bk.new 31 w5 #[.int .i64 x0, .int .i64 y0, .int .i64 (x1 - x0 + 1), .int .i64 (y1 - y0 + 1)])
              obtain ⟨rq, hrq⟩ : ∃ rq, rq = w5.heap.size := ⟨_, rfl⟩
              obtain ⟨V, hV⟩ : ∃ V, V = w5.alloc (.cells #[.int .i64 x0, .int .i64 y0, .int .i64 (x1 - x0 + 1), .int .i64 (y1 - y0 + 1)] 31) := ⟨_, rfl⟩
              rw [← hrq, ← hV]
              rw [← hrq, ← hV] at HR6
              rw [← hV] at HS6
              obtain ⟨i0, hi0, hz0, hz1, hz2⟩ := info_parts info_rpart
              have HSF := Lib.hid (fun W (hW : Bk 31 W rq #[.int .i64 x0, .int .i64 y0, .int .i64 (x1 - x0 + 1), .int .i64 (y1 - y0 + 1)]) => show W.cell? ⟨rq, 0, none⟩ = some (.int .i64 x0) ∧ W.cell? ⟨rq, 1, none⟩ = some (.int .i64 y0) ∧ W.cell? ⟨rq, 2, none⟩ = some (.int .i64 (x1 - x0 + 1)) ∧ W.cell? ⟨rq, 3, none⟩ = some (.int .i64 (y1 - y0 + 1)) from ⟨hW.cell 0, hW.cell 1, hW.cell 2, hW.cell 3⟩)
              have HLT2 := Lib.hid HLT.out
              clear hrq hV HX5 HS2 HBX
              refine wp_region_T (S := fun W => Bk 31 W rq #[.int .i64 x0, .int .i64 y0, .int .i64 (x1 - x0 + 1), .int .i64 (y1 - y0 + 1)]) 13 (by kernel_rfl) (HR6.out.ext (ext_drew V)) (fun hHeld => ?_)
              refine wpAnyT_take (i := 0) (v := ?v1) [] rfl (by kernel_rfl) (fun _ _ _ h => h) (Or.inl ⟨by rfl, ?hy1⟩) hHeld ?rst1
              case hy1 => (intro wx hSw; have hQ26 := HSF.out wx hSw; obtain ⟨q1, q2, q3, q4⟩ := hQ26; go_simp; try (with_reducible rfl))
              try simp only [List.getElem_toArray, List.getElem_cons_zero, Act.put, List.setIfInBounds_toArray, List.set_cons_zero, List.set_cons_succ]
              refine wpAnyT_take (i := 1) (v := ?v2) [] rfl (by kernel_rfl) (fun _ _ _ h => h) (Or.inl ⟨by rfl, ?hy2⟩) hHeld ?rst2
              case hy2 => (intro wx hSw; have hQ26 := HSF.out wx hSw; obtain ⟨q1, q2, q3, q4⟩ := hQ26; go_simp; try (with_reducible rfl))
              try simp only [List.getElem_toArray, List.getElem_cons_zero, List.getElem_cons_succ, Act.put, List.setIfInBounds_toArray, List.set_cons_zero, List.set_cons_succ]
              refine wpAnyT_take (i := 2) (v := ?v3) [] rfl (by kernel_rfl) (fun _ _ _ h => h) (Or.inl ⟨by rfl, ?hy3⟩) hHeld ?rst3
              case hy3 => (intro wx hSw; have hQ26 := HSF.out wx hSw; obtain ⟨q1, q2, q3, q4⟩ := hQ26; go_simp; try (with_reducible rfl))
              try simp only [List.getElem_toArray, List.getElem_cons_zero, List.getElem_cons_succ, Act.put, List.setIfInBounds_toArray, List.set_cons_zero, List.set_cons_succ]
              refine wpAnyT_take (i := 3) (v := ?v4) [] rfl (by kernel_rfl) (fun _ _ _ h => h) (Or.inl ⟨by rfl, ?hy4⟩) hHeld ?rst4
              case hy4 => (intro wx hSw; have hQ26 := HSF.out wx hSw; obtain ⟨q1, q2, q3, q4⟩ := hQ26; go_simp; try (with_reducible rfl))
              try simp only [List.getElem_toArray, List.getElem_cons_zero, List.getElem_cons_succ, Act.put, List.setIfInBounds_toArray, List.set_cons_zero, List.set_cons_succ]
              refine wpAnyT_take (i := 4) (v := ?v5) [] rfl (by kernel_rfl) (fun _ _ _ h => h) (Or.inl ⟨by rfl, ?hy5⟩) hHeld ?rst5
              case hy5 => (intro wx hSw; have hQ26 := HSF.out wx hSw; obtain ⟨q1, q2, q3, q4⟩ := hQ26; go_simp; try (with_reducible rfl))
              try simp only [List.getElem_toArray, List.getElem_cons_zero, List.getElem_cons_succ, Act.put, List.setIfInBounds_toArray, List.set_cons_zero, List.set_cons_succ]
              refine wpAnyT_take (i := 5) (v := ?v6) [] rfl (by kernel_rfl) (fun _ _ _ h => h) (Or.inl ⟨by rfl, ?hy6⟩) hHeld ?rst6
              case hy6 => (intro wx hSw; have hQ26 := HSF.out wx hSw; obtain ⟨q1, q2, q3, q4⟩ := hQ26; go_simp; try (with_reducible rfl))
              try simp only [List.getElem_toArray, List.getElem_cons_zero, List.getElem_cons_succ, Act.put, List.setIfInBounds_toArray, List.set_cons_zero, List.set_cons_succ]
              refine wpAnyT_take (i := 6) (v := ?v7) [] rfl (by kernel_rfl) (fun _ _ _ h => h) (Or.inl ⟨by rfl, ?hy7⟩) hHeld ?rst7
              case hy7 => (intro wx hSw; have hQ26 := HSF.out wx hSw; obtain ⟨q1, q2, q3, q4⟩ := hQ26; go_simp; try (with_reducible rfl))
              try simp only [List.getElem_toArray, List.getElem_cons_zero, List.getElem_cons_succ, Act.put, List.setIfInBounds_toArray, List.set_cons_zero, List.set_cons_succ]
              refine wpAnyT_take (i := 7) (v := ?v8) [] rfl (by kernel_rfl) (fun _ _ _ h => h) (Or.inl ⟨by rfl, ?hy8⟩) hHeld ?rst8
              case hy8 => (intro wx hSw; have hQ26 := HSF.out wx hSw; obtain ⟨q1, q2, q3, q4⟩ := hQ26; go_simp; try (with_reducible rfl))
              try simp only [List.getElem_toArray, List.getElem_cons_zero, List.getElem_cons_succ, Act.put, List.setIfInBounds_toArray, List.set_cons_zero, List.set_cons_succ]
              refine wpAnyT_take (i := 9) (v := ?v9) [] rfl (by kernel_rfl) (fun _ _ _ h => h) (Or.inl ⟨by rfl, ?hy9⟩) hHeld ?rst9
              case hy9 => (intro wx hSw; have hQ26 := HSF.out wx hSw; obtain ⟨q1, q2, q3, q4⟩ := hQ26; go_simp; try (with_reducible rfl))
              try simp only [List.getElem_toArray, List.getElem_cons_zero, List.getElem_cons_succ, Act.put, List.setIfInBounds_toArray, List.set_cons_zero, List.set_cons_succ]
              refine wpAnyT_one (i := 8) (by kernel_rfl) rfl (fun K hK => ?_)
              go_simp
              go_at_call 51
              refine (HHO.out _ (HS6.out.1.ext (ext_drew V))).mono ?_
              rintro e9 w9 ⟨rfl, hx9⟩
              have HS9 := Lib.hid (HS6.out.ext (ext_trans (ext_drew V) hx9))
              have HR9 := Lib.hid (HR6.out.ext (ext_trans (ext_drew V) hx9))
              clear hx9
              refine hK.out _ _ (HR9.out) (fun hHeld => ?_)
              clear hK K
              try simp only [List.getElem_toArray, List.getElem_cons_zero, List.getElem_cons_succ, Act.put, List.setIfInBounds_toArray, List.set_cons_zero, List.set_cons_succ]
              refine wpAnyT_take (i := 10) (v := ?v10) [] rfl (by kernel_rfl) (fun _ _ _ h => h) (Or.inl ⟨by rfl, ?hy10⟩) hHeld ?rst10
              case hy10 => (intro wx hSw; have hQ26 := HSF.out wx hSw; obtain ⟨q1, q2, q3, q4⟩ := hQ26; go_simp; try (with_reducible rfl))
              try simp only [List.getElem_toArray, List.getElem_cons_zero, List.getElem_cons_succ, Act.put, List.setIfInBounds_toArray, List.set_cons_zero, List.set_cons_succ]
              refine wpAnyT_one (i := 11) (by kernel_rfl) rfl (fun K hK => ?_)
              go_simp
              refine hK.out _ _ (HR9.out.alloc _) (fun hHeld => ?_)
              clear hK K
              try simp only [List.getElem_toArray, List.getElem_cons_zero, List.getElem_cons_succ, Act.put, List.setIfInBounds_toArray, List.set_cons_zero, List.set_cons_succ]
              refine wpAnyT_one (i := 12) (by kernel_rfl) rfl (fun K hK => ?_)
              refine step_append_lies _ (by rfl) _ _ _ (by rfl) B 34 i0 _ 7 56 Tryd.underlying27 hi0 hz0 hz1 hz2 rfl (by omega) _ _ _ (by rfl) (own_ext HS9.out.2.1 (ext_alloc w9 _)) ⟨w9.heap.size, 0, none⟩ 1 1 [.int .i64 (L.length : Int), .int .i64 e, .int .i64 (ho : Int), .int .i64 x0, .int .i64 y0, .int .i64 (x1 - x0 + 1), .int .i64 (y1 - y0 + 1)] (by rfl) (by rfl) (World.news_of_block (cs := #[.int .i64 (L.length : Int), .int .i64 e, .int .i64 (ho : Int), .int .i64 x0, .int .i64 y0, .int .i64 (x1 - x0 + 1), .int .i64 (y1 - y0 + 1)]) (t := 34) (fr := (0, 0)) (heap_alloc_new _ _)) (by simp [Value.oneCell']) (by omega) (by unfold maxLen; omega) (by omega) (by have := HS9.out.2.2.2.2; simp; omega) _ rfl ?_
              intro gg26 cap26 w26 hown26 hgrow26 hat26 hlt26
              have HS26 := Lib.hid (HS9.out.push ⟨L.length, edgeL L, ho, ⟨x0, y0, x1, y1⟩⟩ hgrow26 (by rw [← HED.out] at hown26; exact hown26))
              have HR26 := Lib.hid (show Bk 31 w26 rq #[.int .i64 x0, .int .i64 y0, .int .i64 (x1 - x0 + 1), .int .i64 (y1 - y0 + 1)] from (hgrow26.block rq (HR9.out.alloc _).lt (own_ne HS9.out.2.1 HR9.out (by decide))).trans (HR9.out.alloc _))
              clear hown26 hgrow26 hat26 hlt26
              refine hK.out _ _ (HR26.out) (fun hHeld => ?_)
              clear hK K
              try simp only [List.getElem_toArray, List.getElem_cons_zero, List.getElem_cons_succ, Act.put, List.setIfInBounds_toArray, List.set_cons_zero, List.set_cons_succ]
              refine wpAnyT_last (by kernel_rfl) (by kernel_rfl) rfl (fun K hK => ?_)
              go_simp
              refine hK.out _ _ ?_
              clear hK K
              go_wp2
              go_roundg (k - (i + 1))
              case measure => have := HG.out; have := HLT2.out; omega
              case rel => exact ⟨i + 1, by go_num, by have := HLT2.out; omega, rfl, by rw [HPY.out, HPR.out]; exact HS26.out⟩
        · have HY := Lib.hid (show partsK n N cl (i + 1) = partsK n N cl i from partsK_no hci)
          obtain ⟨ci, hci2⟩ : ∃ ci, ci = cl i := ⟨_, rfl⟩
          rw [← hci2] at c1 hci
          have hne : (ci != (i : Int)) = true := by simpa using hci
          clear hci hci2
          go_wp2
          go_roundg (N - (i + 1))
          case measure => have := HG.out; omega
          case rel => exact ⟨i + 1, by go_num, by omega, rfl, by rw [HY.out]; exact HS.out⟩
      · obtain rfl : i = N := by omega
        have HP := Lib.hid (show partsK n i cl i = partsL (usb l g) (wid l) l.length 3000 from by rw [← HPK.out, HU.out, HN.out])
        obtain ⟨A2, cap2, rfl, k1, k2, k3⟩ := HS.out.2.1.psl
        have HP3 := Lib.hid k3
        have k2' : cap2 ≤ 9223372036854775807 := by unfold maxLen at k2; omega
        clear k2 k3
        go_wp2
        refine bodyPost_ret (v := .tuple #[.slice A2 (partsK n i cl i).length cap2, .int .i64 0]) (by simp [results, Tryd.results13, go_sem]) rfl ?_
        refine ⟨HS.out.2.2.1, .inr ⟨HPS.out, A2, cap2, by rw [← HP.out], by rw [← HP.out]; exact k1, k2', by rw [← HP.out]; exact HP3.out⟩⟩
  · rw [decide_eq_false hps] at HGD
    have HPS := Lib.hid hps
    clear hps h hz
    go_enter Tryd.func13, Tryd.ntmps13
    go_wp2_with (go_at_call 21; refine (HGD.out).mono ?_; rintro e w1 ⟨rfl, hx1⟩)
    refine bodyPost_ret (v := .tuple #[.slice none 0 0, .int .i64 2]) (by simp [results, Tryd.results13, go_sem]) rfl ?_
    exact ⟨hx1, .inl ⟨HPS.out, rfl⟩⟩
end Go.Proofs.YtmgofdgbenfjmaaDoor
