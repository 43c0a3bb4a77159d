/- Plain: classes by union and find; the class function of a grid; the edge of a part. No conditions. -/
import Derived.Test.YtmgofdgbenfjmaaDoorFlR
namespace Go.Proofs.YtmgofdgbenfjmaaDoor

/-- the root: n steps at most -/
def rootP (up : Nat → Nat) : Nat → Nat → Nat
  | 0, i => i
  | n + 1, i => if up i = i then i else rootP up n (up i)
def rtU (up : Nat → Nat) (i : Nat) : Nat := rootP up i i
def updN (d : Nat → Nat) (i v : Nat) : Nat → Nat := fun k => if k = i then v else d k
section
variable {up : Nat → Nat} (hd : ∀ i, up i ≤ i)
include hd
theorem rootP_more : ∀ n m i, i ≤ n → i ≤ m → rootP up n i = rootP up m i
  | 0, m, i, h1, _ => by
    obtain rfl : i = 0 := by omega
    have h0 : up 0 = 0 := by have := hd 0; omega
    cases m with
    | zero => rfl
    | succ m => show 0 = if up 0 = 0 then 0 else _; rw [if_pos h0]
  | n + 1, m, i, h1, h2 => by
    show (if up i = i then i else rootP up n (up i)) = _
    cases m with
    | zero =>
      obtain rfl : i = 0 := by omega
      have h0 : up 0 = 0 := by have := hd 0; omega
      rw [if_pos h0]; rfl
    | succ m =>
      show _ = if up i = i then i else rootP up m (up i)
      by_cases h : up i = i
      · rw [if_pos h, if_pos h]
      · rw [if_neg h, if_neg h]
        have := hd i
        exact rootP_more n m (up i) (by omega) (by omega)
theorem rtU_step {i : Nat} (h : up i ≠ i) : rtU up i = rtU up (up i) := by
  have := hd i
  unfold rtU
  cases i with
  | zero => omega
  | succ i =>
    show (if up (i + 1) = i + 1 then i + 1 else rootP up i (up (i + 1))) = _
    rw [if_neg h]
    exact rootP_more hd i _ _ (by omega) (Nat.le_refl _)
omit hd in
theorem rtU_self {i : Nat} (h : up i = i) : rtU up i = i := by
  unfold rtU
  cases i with
  | zero => rfl
  | succ i => show (if up (i + 1) = i + 1 then i + 1 else _) = _; rw [if_pos h]
theorem rtU_le (i : Nat) : rtU up i ≤ i := by
  induction i using Nat.strongRecOn with
  | _ i ih =>
    by_cases h : up i = i
    · rw [rtU_self h]; exact Nat.le_refl _
    · rw [rtU_step hd h]
      have h1 := hd i
      have := ih (up i) (by omega)
      omega
theorem rtU_fix (i : Nat) : up (rtU up i) = rtU up i := by
  induction i using Nat.strongRecOn with
  | _ i ih =>
    by_cases h : up i = i
    · rw [rtU_self h]; exact h
    · rw [rtU_step hd h]
      have h1 := hd i
      exact ih (up i) (by omega)
theorem updN_le {M m : Nat} (hle : m ≤ M) : ∀ i, updN up M m i ≤ i := by
  intro i
  unfold updN
  split
  · omega
  · exact hd i
/-- two roots joined -/
theorem rtU_join {M m : Nat} (hM : up M = M) (hm : up m = m) (hle : m ≤ M) (x : Nat) : rtU (updN up M m) x = if rtU up x = M then m else rtU up x := by
  have hd' := updN_le hd hle
  induction x using Nat.strongRecOn with
  | _ x ih =>
    by_cases h : up x = x
    · rw [rtU_self h]
      by_cases hx : x = M
      · subst hx
        rw [if_pos rfl]
        by_cases hmx : m = x
        · subst hmx
          exact rtU_self (by unfold updN; rw [if_pos rfl])
        · have e : updN up x m x = m := by unfold updN; rw [if_pos rfl]
          rw [rtU_step hd' (by rw [e]; exact hmx), e]
          exact rtU_self (by unfold updN; rw [if_neg hmx]; exact hm)
      · rw [if_neg hx]
        exact rtU_self (by unfold updN; rw [if_neg hx]; exact h)
    · have hx : x ≠ M := fun e => h (by rw [e]; exact hM)
      have e : updN up M m x = up x := by unfold updN; rw [if_neg hx]
      rw [rtU_step hd' (by rw [e]; exact h), e, rtU_step hd h]
      have h1 := hd x
      exact ih (up x) (by omega)
end
/-- classes under way: J the pairs joined so far; R what may be joined -/
structure UfI (R : Nat → Nat → Prop) (ok : Nat → Prop) (J : Nat → Nat → Prop) (up : Nat → Nat) : Prop where
  le : ∀ i, up i ≤ i
  rel : ∀ i, ok i → R i (rtU up i) ∧ ok (rtU up i)
  join : ∀ a b, J a b → rtU up a = rtU up b
theorem UfI.start {R : Nat → Nat → Prop} {ok : Nat → Prop} (hr : ∀ i, ok i → R i i) : UfI R ok (fun _ _ => False) (fun i => i) :=
  ⟨fun _ => Nat.le_refl _, fun i h => by rw [rtU_self rfl]; exact ⟨hr i h, h⟩, fun _ _ h => h.elim⟩
theorem UfI.add {R : Nat → Nat → Prop} {ok : Nat → Prop} {J : Nat → Nat → Prop} {up : Nat → Nat} (h : UfI R ok J up) (hs : ∀ a b, ok a → R a b → R b a) (ht : ∀ a b c, R a b → R b c → R a c) {a b : Nat} (ha : ok a) (hb : ok b) (hab : R a b) :
    UfI R ok (fun x y => J x y ∨ (x = a ∧ y = b)) (updN up (max (rtU up a) (rtU up b)) (min (rtU up a) (rtU up b))) := by
  have fa := rtU_fix h.le a
  have fb := rtU_fix h.le b
  obtain ⟨ra, oa⟩ := h.rel a ha
  obtain ⟨rb, ob⟩ := h.rel b hb
  have hM : up (max (rtU up a) (rtU up b)) = max (rtU up a) (rtU up b) := by
    rcases Nat.le_total (rtU up a) (rtU up b) with hh | hh
    · rw [Nat.max_eq_right hh]; exact fb
    · rw [Nat.max_eq_left hh]; exact fa
  have hm : up (min (rtU up a) (rtU up b)) = min (rtU up a) (rtU up b) := by
    rcases Nat.le_total (rtU up a) (rtU up b) with hh | hh
    · rw [Nat.min_eq_left hh]; exact fa
    · rw [Nat.min_eq_right hh]; exact fb
  have hle : min (rtU up a) (rtU up b) ≤ max (rtU up a) (rtU up b) := by omega
  have hj := rtU_join h.le hM hm hle
  have rab : R (rtU up a) (rtU up b) := ht _ _ _ (hs _ _ ha ra) (ht _ _ _ hab rb)
  have rba : R (rtU up b) (rtU up a) := hs _ _ oa rab
  refine ⟨updN_le h.le hle, fun i hi => ?_, fun x y hxy => ?_⟩
  · obtain ⟨ri, oi⟩ := h.rel i hi
    rw [hj i]
    split
    · rename_i he
      rw [he] at ri oi
      rcases Nat.le_total (rtU up a) (rtU up b) with hh | hh
      · rw [Nat.max_eq_right hh] at ri
        rw [Nat.min_eq_left hh]
        exact ⟨ht _ _ _ ri rba, oa⟩
      · rw [Nat.max_eq_left hh] at ri
        rw [Nat.min_eq_right hh]
        exact ⟨ht _ _ _ ri rab, ob⟩
    · exact ⟨ri, oi⟩
  · rw [hj x, hj y]
    rcases hxy with hxy | ⟨rfl, rfl⟩
    · rw [h.join x y hxy]
    · rcases Nat.le_total (rtU up x) (rtU up y) with hh | hh
      · rw [Nat.max_eq_right hh, Nat.min_eq_left hh]
        by_cases he : rtU up x = rtU up y
        · rw [he]
        · rw [if_neg he, if_pos rfl]
      · rw [Nat.max_eq_left hh, Nat.min_eq_right hh]
        by_cases he : rtU up y = rtU up x
        · rw [he]
        · rw [if_pos rfl, if_neg he]

/-- the k-th cell of a grid of width w -/
def celK (w k : Nat) : Cel := (((k % w : Nat) : Int), ((k / w : Nat) : Int))
theorem celK_at {w x y : Nat} (hx : x < w) : celK w (w * y + x) = ((x : Int), (y : Int)) := by
  unfold celK
  rw [Nat.mul_add_mod, Nat.mod_eq_of_lt hx, Nat.mul_add_div (by omega), Nat.div_eq_of_lt hx, Nat.add_zero]
theorem box_cells (w h : Nat) : boxCells ⟨0, 0, (w : Int) - 1, (h : Int) - 1⟩ = (List.range (w * h)).map (celK w) := by
  unfold boxCells
  dsimp only
  rw [show ((h : Int) - 1 + 1 - 0).toNat = h by omega, show ((w : Int) - 1 + 1 - 0).toNat = w by omega]
  induction h with
  | zero => simp
  | succ h ih =>
    rw [List.range_succ, List.flatMap_append, ih, Nat.mul_succ, List.range_add, List.map_append]
    congr 1
    rw [List.flatMap_cons, List.flatMap_nil, List.append_nil, List.map_map]
    unfold rowL
    refine List.map_congr_left fun i hi => ?_
    have hi := List.mem_range.1 hi
    show ((0 : Int) + (i : Int), (0 : Int) + (h : Int)) = celK w (w * h + i)
    rw [celK_at hi, Int.zero_add, Int.zero_add]
theorem celK_inj {w a b : Nat} (h : celK w a = celK w b) : a = b := by
  unfold celK at h
  have h1 : a % w = b % w := by have := congrArg Prod.fst h; dsimp only at this; omega
  have h2 : a / w = b / w := by have := congrArg Prod.snd h; dsimp only at this; omega
  rw [← Nat.div_add_mod a w, ← Nat.div_add_mod b w, h1, h2]
/-- a cell's number -/
def idxC (w : Nat) (c : Cel) : Nat := w * c.2.toNat + c.1.toNat
theorem celK_idx {w h : Nat} {c : Cel} (hc : 0 ≤ c.1 ∧ c.1 < w ∧ 0 ≤ c.2 ∧ c.2 < h) : celK w (idxC w c) = c ∧ idxC w c < w * h := by
  obtain ⟨x, y⟩ := c
  obtain ⟨h1, h2, h3, h4⟩ := hc
  obtain ⟨p, rfl⟩ := Int.eq_ofNat_of_zero_le h1
  obtain ⟨q, rfl⟩ := Int.eq_ofNat_of_zero_le h3
  unfold idxC
  dsimp only at h2 h4 ⊢
  rw [Int.toNat_natCast, Int.toNat_natCast]
  refine ⟨celK_at (by omega), ?_⟩
  have hq : q + 1 ≤ h := by omega
  have := Nat.mul_le_mul_left w hq
  rw [Nat.mul_succ] at this
  omega
/-- the classes at the end make a class function -/
theorem rt_ok {us : Cel → Bool} {w h : Nat} {J : Nat → Nat → Prop} {up : Nat → Nat} (hg : ∀ c, us c = true → 0 ≤ c.1 ∧ c.1 < w ∧ 0 ≤ c.2 ∧ c.2 < h)
    (hu : UfI (fun a b => Rch sidesL us (celK w a) (celK w b)) (fun a => us (celK w a) = true) J up)
    (hJ : ∀ x y : Nat, us ((x : Int), (y : Int)) = true → (us ((x : Int) + 1, (y : Int)) = true → J (w * y + x) (w * y + x + 1)) ∧ (us ((x : Int), (y : Int) + 1) = true → J (w * y + x) (w * (y + 1) + x))) :
    RtOk us (boxCells ⟨0, 0, (w : Int) - 1, (h : Int) - 1⟩) (fun c => celK w (rtU up (idxC w c))) := by
  rw [box_cells]
  have hidx : ∀ c, us c = true → celK w (idxC w c) = c ∧ idxC w c < w * h := fun c hc => celK_idx (hg c hc)
  have hat : ∀ a, idxC w (celK w a) = a ∨ w = 0 := by
    intro a
    by_cases hw : w = 0
    · exact .inr hw
    · left
      unfold idxC celK
      dsimp only
      rw [Int.toNat_natCast, Int.toNat_natCast, Nat.div_add_mod]
  -- side by side: one root
  have hside : ∀ c d, us c = true → us d = true → d ∈ sidesL c → rtU up (idxC w c) = rtU up (idxC w d) := by
    have key : ∀ c d, us c = true → us d = true → (d = (c.1 + 1, c.2) ∨ d = (c.1, c.2 + 1)) → rtU up (idxC w c) = rtU up (idxC w d) := by
      intro c d hc hd hcd
      obtain ⟨x, y⟩ := c
      obtain ⟨g1, g2, g3, g4⟩ := hg _ hc
      obtain ⟨p, rfl⟩ := Int.eq_ofNat_of_zero_le g1
      obtain ⟨q, rfl⟩ := Int.eq_ofNat_of_zero_le g3
      obtain ⟨j1, j2⟩ := hJ p q hc
      rcases hcd with rfl | rfl
      · have := hu.join _ _ (j1 hd)
        unfold idxC
        dsimp only
        rw [Int.toNat_natCast, Int.toNat_natCast, this, show ((p : Int) + 1).toNat = p + 1 by omega]
        rfl
      · have := hu.join _ _ (j2 hd)
        unfold idxC
        dsimp only
        rw [Int.toNat_natCast, Int.toNat_natCast, this, show ((q : Int) + 1).toNat = q + 1 by omega]
    intro c d hc hd hm
    have hm' := hm
    obtain ⟨x, y⟩ := c
    obtain ⟨u, v⟩ := d
    simp only [sidesL, List.mem_cons, List.not_mem_nil, or_false, Prod.mk.injEq] at hm'
    rcases hm' with ⟨a, b⟩ | ⟨a, b⟩ | ⟨a, b⟩ | ⟨a, b⟩
    · refine (key (u, v) (x, y) hd hc (.inr ?_)).symm
      simp only [Prod.mk.injEq]; omega
    · refine (key (u, v) (x, y) hd hc (.inl ?_)).symm
      simp only [Prod.mk.injEq]; omega
    · refine key (x, y) (u, v) hc hd (.inl ?_)
      simp only [Prod.mk.injEq]; omega
    · refine key (x, y) (u, v) hc hd (.inr ?_)
      simp only [Prod.mk.injEq]; omega
  have hrel : ∀ c, us c = true → Rch sidesL us c (celK w (rtU up (idxC w c))) ∧ us (celK w (rtU up (idxC w c))) = true := by
    intro c hc
    obtain ⟨e, _⟩ := hidx c hc
    have := hu.rel (idxC w c) (by rw [e]; exact hc)
    rw [e] at this
    exact this
  refine ⟨?_, ?_, ?_, fun c hc => (hrel c hc).2, ?_, ?_⟩
  · exact List.Pairwise.map _ (fun a b hab e => hab (celK_inj e)) List.nodup_range
  · intro c hc
    obtain ⟨e, hl⟩ := hidx c hc
    exact List.mem_map.2 ⟨_, List.mem_range.2 hl, e⟩
  · intro c d hc hd
    constructor
    · intro h
      have : rtU up (idxC w c) = rtU up (idxC w d) := by
        clear hd
        induction h with
        | refl => rfl
        | step h1 h2 h3 ih => exact ih.trans (hside _ _ (h1.good hc) h3 h2)
      show celK w _ = celK w _
      rw [this]
    · intro h
      obtain ⟨r1, o1⟩ := hrel c hc
      obtain ⟨r2, _⟩ := hrel d hd
      have h : celK w (rtU up (idxC w c)) = celK w (rtU up (idxC w d)) := h
      rw [h] at r1
      exact r1.trans (r2.symm sides_symm hd)
  · intro c hc
    show celK w (rtU up (idxC w (celK w (rtU up (idxC w c))))) = _
    rcases hat (rtU up (idxC w c)) with e | hw
    · rw [e, rtU_self (rtU_fix hu.le _)]
    · have := hg c hc; omega
  · intro i hi hui
    have hi' : i < w * h := by simpa using hi
    have e : ((List.range (w * h)).map (celK w))[i] = celK w i := by simp
    rw [e] at hui ⊢
    refine ⟨rtU up i, ?_, rtU_le hu.le i, ?_⟩
    · have := rtU_le hu.le i
      rw [List.length_map, List.length_range]; omega
    · show celK w (rtU up (idxC w (celK w i))) = _
      rcases hat i with e2 | hw
      · rw [e2]; simp
      · subst hw; omega

/-- a part's edge: neighbours that are not usable -/
theorem edge_us {us : Cel → Bool} {cs : List Cel} {rt : Cel → Cel} (h : RtOk us cs rt) (c : Cel) : edgeL (cs.filter fun d => us d && decide (rt d = c)) = ((cs.filter fun d => us d && decide (rt d = c)).map fun x => ((sidesL x).filter fun d => !us d).length).sum := by
  unfold edgeL
  congr 1
  refine List.map_congr_left fun x hx => ?_
  congr 1
  refine List.filter_congr fun d hd => ?_
  rw [List.mem_filter, Bool.and_eq_true, decide_eq_true_iff] at hx
  obtain ⟨_, hxu, hxc⟩ := hx
  cases hdu : us d
  · have hn : d ∉ cs.filter fun d => us d && decide (rt d = c) := fun hm => by
      rw [List.mem_filter, hdu] at hm; simp at hm
    simp only [decide_eq_true hn]; rfl
  · have hin : d ∈ cs.filter fun d => us d && decide (rt d = c) := by
      rw [List.mem_filter, Bool.and_eq_true, decide_eq_true_iff]
      refine ⟨h.all _ hdu, hdu, ?_⟩
      rw [← hxc]
      exact ((h.iff _ _ hxu hdu).1 (.step .refl hd hdu)).symm
    simp only [decide_eq_false (fun hn : d ∉ _ => hn hin)]; rfl
end Go.Proofs.YtmgofdgbenfjmaaDoor
