/- Plain: holes by classes met along a scan, with a ring or without. No conditions. -/
import Derived.Test.YtmgofdgbenfjmaaDoorFlQ
namespace Go.Proofs.YtmgofdgbenfjmaaDoor

/-- k new classes are met along a list, where those of M are known -/
inductive Fc (R : Cel → Cel → Prop) (is : Cel → Bool) : List Cel → List Cel → Nat → Prop
  | nil (M : List Cel) : Fc R is M [] 0
  | skip {M ds : List Cel} {c : Cel} {k : Nat} : (is c = false ∨ ∃ m ∈ M, R m c) → Fc R is M ds k → Fc R is M (c :: ds) k
  | new {M ds : List Cel} {c : Cel} {k : Nat} : is c = true → (¬ ∃ m ∈ M, R m c) → Fc R is (c :: M) ds k → Fc R is M (c :: ds) (k + 1)
section
variable {R : Cel → Cel → Prop} {is : Cel → Bool}
theorem Fc.uniq {M ds : List Cel} {k k' : Nat} (h : Fc R is M ds k) (h' : Fc R is M ds k') : k = k' := by
  induction h generalizing k' with
  | nil => cases h'; rfl
  | skip h1 _ ih =>
    cases h' with
    | skip _ h3 => exact ih h3
    | new h3 h4 _ =>
      rcases h1 with h1 | h1
      · rw [h1] at h3; cases h3
      · exact absurd h1 h4
  | new h1 h2 _ ih =>
    cases h' with
    | skip h3 _ =>
      rcases h3 with h3 | h3
      · rw [h1] at h3; cases h3
      · exact absurd h3 h2
    | new _ _ h3 => rw [ih h3]
/-- what is known or out may be left out -/
theorem Fc.drop {p : Cel → Bool} {M ds : List Cel} {k : Nat} (h : Fc R is M ds k) (hp : ∀ c ∈ ds, p c = false → is c = false ∨ ∃ m ∈ M, R m c) : Fc R is M (ds.filter p) k := by
  induction h with
  | nil M => exact .nil M
  | @skip M ds c k h1 _ ih =>
    have ih := ih (fun x hx => hp x (by simp [hx]))
    cases hc : p c
    · rw [List.filter_cons_of_neg (by simp [hc])]; exact ih
    · rw [List.filter_cons_of_pos hc]; exact .skip h1 ih
  | @new M ds c k h1 h2 _ ih =>
    have ih := ih (fun x hx hpx => by
      rcases hp x (by simp [hx]) hpx with h | ⟨m, hm, h⟩
      · exact .inl h
      · exact .inr ⟨m, by simp [hm], h⟩)
    cases hc : p c
    · rcases hp c (by simp) hc with h | h
      · rw [h1] at h; cases h
      · exact absurd h h2
    · rw [List.filter_cons_of_pos hc]; exact .new h1 h2 ih
end
theorem near_symm (a b : Cel) (h : b ∈ nearL a) : a ∈ nearL b := by
  obtain ⟨a1, a2⟩ := a
  obtain ⟨b1, b2⟩ := b
  simp only [nearL, List.mem_cons, List.not_mem_nil, or_false, Prod.mk.injEq] at h ⊢
  omega
theorem sides_symm (a b : Cel) (h : b ∈ sidesL a) : a ∈ sidesL b := by
  obtain ⟨a1, a2⟩ := a
  obtain ⟨b1, b2⟩ := b
  simp only [sidesL, List.mem_cons, List.not_mem_nil, or_false, Prod.mk.injEq] at h ⊢
  omega
/-- the program counts new classes -/
theorem hole_fc {l : List Cel} {b : Bx} {n : Nat} {U : List Cel} (hU : ∀ c, freeL l b c = true → c ∈ U) (hn : U.length ≤ n) : ∀ (ds : List Cel) (M : List Cel) (st : List Cel × Nat), (∀ c ∈ ds, c ∉ l → freeL l b c = true) → (∀ m ∈ M, freeL l b m = true) → (∀ d, d ∈ st.1 ↔ ∃ m ∈ M, Rch nearL (freeL l b) m d) → ∃ k, (ds.foldl (holeStep l b n) st).2 = st.2 + k ∧ Fc (Rch nearL (freeL l b)) (freeL l b) M ds k
  | [], M, st, _, _, _ => ⟨0, rfl, .nil M⟩
  | c :: ds, M, st, h1, h2, h3 => by
    rw [List.foldl_cons]
    have h1' : ∀ c ∈ ds, c ∉ l → freeL l b c = true := fun x hx => h1 x (by simp [hx])
    by_cases hc : c ∈ l ∨ c ∈ st.1
    · have e : holeStep l b n st c = st := by unfold holeStep; rw [if_pos hc]
      rw [e]
      obtain ⟨k, i1, i2⟩ := hole_fc hU hn ds M st h1' h2 h3
      refine ⟨k, i1, .skip ?_ i2⟩
      rcases hc with hc | hc
      · left
        unfold freeL
        simp [hc]
      · exact .inr ((h3 c).1 hc)
    · have e : holeStep l b n st c = ((fld nearL (freeL l b) n st.1 c).1, st.2 + 1) := by unfold holeStep; rw [if_neg hc]
      rw [e]
      have hcl : c ∉ l := fun h => hc (.inl h)
      have hcm : c ∉ st.1 := fun h => hc (.inr h)
      have hf := h1 c (by simp) hcl
      have hS : ∀ d, Rch nearL (freeL l b) c d → d ∉ st.1 := by
        intro d hd hdm
        obtain ⟨m, hm, hr⟩ := (h3 d).1 hdm
        exact hcm ((h3 c).2 ⟨m, hm, hr.trans (hd.symm near_symm hf)⟩)
      obtain ⟨f1, f2, f3⟩ := fld_all (U := U) (n := n) hU (hU c hf) hS hn
      obtain ⟨k, i1, i2⟩ := hole_fc hU hn ds (c :: M) ((fld nearL (freeL l b) n st.1 c).1, st.2 + 1) h1' (fun m hm => by
        rcases List.mem_cons.1 hm with rfl | hm
        · exact hf
        · exact h2 m hm) (fun d => by
        show d ∈ (fld nearL (freeL l b) n st.1 c).1 ↔ _
        rw [f1, List.mem_append, h3 d, f3 d]
        constructor
        · rintro (⟨m, hm, h⟩ | h)
          · exact ⟨m, by simp [hm], h⟩
          · exact ⟨c, by simp, h⟩
        · rintro ⟨m, hm, h⟩
          rcases List.mem_cons.1 hm with rfl | hm
          · exact .inr h
          · exact .inl ⟨m, hm, h⟩)
      refine ⟨k + 1, by rw [i1]; show st.2 + 1 + k = _; omega, .new hf (fun ⟨m, hm, h⟩ => hcm ((h3 c).2 ⟨m, hm, h⟩)) i2⟩
theorem holes_fc {l : List Cel} {b : Bx} {n : Nat} {U : List Cel} (hU : ∀ c, freeL l b c = true → c ∈ U) (hn : U.length ≤ n) (hc : freeL l b (b.x0 - 1, b.y0 - 1) = true) (hb : ∀ c ∈ boxCells b, c ∉ l → freeL l b c = true) : Fc (Rch nearL (freeL l b)) (freeL l b) [(b.x0 - 1, b.y0 - 1)] (boxCells b) (holesL l b n) := by
  obtain ⟨f1, f2, f3⟩ := fld_all (S := []) (U := U) (n := n) hU (hU _ hc) (fun d _ h => by simp at h) hn
  obtain ⟨k, i1, i2⟩ := hole_fc hU hn (boxCells b) [(b.x0 - 1, b.y0 - 1)] ((fld nearL (freeL l b) n [] (b.x0 - 1, b.y0 - 1)).1, 0) hb (fun m hm => by simp at hm; subst hm; exact hc) (fun d => by
    show d ∈ (fld nearL (freeL l b) n [] (b.x0 - 1, b.y0 - 1)).1 ↔ _
    rw [f1, List.nil_append, f3 d]
    constructor
    · intro h; exact ⟨_, by simp, h⟩
    · rintro ⟨m, hm, h⟩; simp at hm; subst hm; exact h)
  have e : holesL l b n = k := by unfold holesL; rw [i1]; show 0 + k = k; omega
  rw [e]; exact i2
/-- the box with a ring around it -/
def Bx.fr (b : Bx) : Bx := ⟨b.x0 - 1, b.y0 - 1, b.x1 + 1, b.y1 + 1⟩
def Bx.inB (b : Bx) (c : Cel) : Bool := decide (b.x0 ≤ c.1) && decide (c.1 ≤ b.x1) && decide (b.y0 ≤ c.2) && decide (c.2 ≤ b.y1)
theorem rowL_ring {b : Bx} {W : Nat} (hW : b.x1 + 1 - b.x0 = W) {y : Int} (hy : b.y0 ≤ y ∧ y ≤ b.y1) : (rowL (b.x0 - 1) (W + 2) y).filter b.inB = rowL b.x0 W y := by
  unfold rowL
  rw [List.range_succ_eq_map, List.map_cons, List.range_succ, List.map_append, List.map_append]
  rw [List.filter_cons_of_neg (by unfold Bx.inB; simp; omega), List.filter_append]
  have h2 : List.filter b.inB (List.map (fun i : Nat => (b.x0 - 1 + (i : Int), y)) (List.map Nat.succ [W])) = [] := by
    rw [List.filter_eq_nil_iff]
    intro c hc
    simp at hc
    subst hc
    unfold Bx.inB
    simp; omega
  rw [h2, List.append_nil, List.map_map]
  have h3 : ((fun i : Nat => (b.x0 - 1 + (i : Int), y)) ∘ Nat.succ) = fun i : Nat => (b.x0 + (i : Int), y) := by
    funext i
    show (b.x0 - 1 + ((i + 1 : Nat) : Int), y) = _
    rw [show b.x0 - 1 + ((i + 1 : Nat) : Int) = b.x0 + (i : Int) by omega]
  rw [h3, List.filter_eq_self]
  intro c hc
  obtain ⟨i, hi, rfl⟩ := List.mem_map.1 hc
  have := List.mem_range.1 hi
  unfold Bx.inB
  simp; omega
theorem rowL_out {b : Bx} {x : Int} {n : Nat} {y : Int} (hy : ¬ (b.y0 ≤ y ∧ y ≤ b.y1)) : (rowL x n y).filter b.inB = [] := by
  rw [List.filter_eq_nil_iff]
  intro c hc
  obtain ⟨i, _, rfl⟩ := List.mem_map.1 hc
  unfold Bx.inB
  simp only [Bool.and_eq_true, decide_eq_true_eq]
  omega
theorem ring_filter {b : Bx} (hx : b.x0 ≤ b.x1) (hy : b.y0 ≤ b.y1) : (boxCells b.fr).filter b.inB = boxCells b := by
  obtain ⟨W, hW⟩ := Int.eq_ofNat_of_zero_le (show 0 ≤ b.x1 + 1 - b.x0 by omega)
  obtain ⟨H, hH⟩ := Int.eq_ofNat_of_zero_le (show 0 ≤ b.y1 + 1 - b.y0 by omega)
  unfold boxCells Bx.fr
  dsimp only
  rw [show (b.y1 + 1 + 1 - (b.y0 - 1)).toNat = H + 2 by omega, show (b.x1 + 1 + 1 - (b.x0 - 1)).toNat = W + 2 by omega, show (b.y1 + 1 - b.y0).toNat = H by omega, show (b.x1 + 1 - b.x0).toNat = W by omega]
  rw [List.filter_flatMap, List.range_succ_eq_map, List.flatMap_cons, List.range_succ, List.map_append, List.flatMap_append]
  rw [rowL_out (by show ¬ (b.y0 ≤ b.y0 - 1 + ((0 : Nat) : Int) ∧ _); omega), List.nil_append]
  have h2 : List.flatMap (fun j : Nat => (rowL (b.x0 - 1) (W + 2) (b.y0 - 1 + (j : Int))).filter b.inB) (List.map Nat.succ [H]) = [] := by
    simp only [List.map_cons, List.map_nil, List.flatMap_cons, List.flatMap_nil, List.append_nil]
    exact rowL_out (by show ¬ (_ ∧ b.y0 - 1 + ((H + 1 : Nat) : Int) ≤ b.y1); omega)
  rw [h2, List.append_nil, List.flatMap_map]
  rw [List.flatMap_def, List.flatMap_def]
  congr 1
  refine List.map_congr_left fun j hj => ?_
  have := List.mem_range.1 hj
  rw [rowL_ring hW (by show b.y0 ≤ b.y0 - 1 + ((j + 1 : Nat) : Int) ∧ b.y0 - 1 + ((j + 1 : Nat) : Int) ≤ b.y1; omega)]
  rw [show b.y0 - 1 + ((Nat.succ j : Nat) : Int) = b.y0 + (j : Int) by omega]
theorem ring_head {b : Bx} (hx : b.x0 ≤ b.x1) (hy : b.y0 ≤ b.y1) : ∃ rest, boxCells b.fr = (b.x0 - 1, b.y0 - 1) :: rest := by
  obtain ⟨W, hW⟩ := Int.eq_ofNat_of_zero_le (show 0 ≤ b.x1 + 1 - b.x0 by omega)
  obtain ⟨H, hH⟩ := Int.eq_ofNat_of_zero_le (show 0 ≤ b.y1 + 1 - b.y0 by omega)
  unfold boxCells Bx.fr rowL
  dsimp only
  rw [show (b.y1 + 1 + 1 - (b.y0 - 1)).toNat = H + 2 by omega, show (b.x1 + 1 + 1 - (b.x0 - 1)).toNat = W + 2 by omega]
  rw [List.range_succ_eq_map (n := H + 1), List.flatMap_cons, List.range_succ_eq_map (n := W + 1), List.map_cons, List.cons_append]
  exact ⟨_, by rw [show b.x0 - 1 + ((0 : Nat) : Int) = b.x0 - 1 by omega, show b.y0 - 1 + ((0 : Nat) : Int) = b.y0 - 1 by omega]⟩
section
variable {is : Cel → Bool} {c : Cel}
theorem go_row {x y : Int} (h : Rch nearL is c (x, y)) : ∀ n : Nat, (∀ i : Nat, i ≤ n → is (x + i, y) = true) → Rch nearL is c (x + (n : Int), y)
  | 0, _ => by rw [show x + ((0 : Nat) : Int) = x by omega]; exact h
  | n + 1, hi => by
    have ih := go_row h n (fun i hin => hi i (by omega))
    refine .step ih ?_ (hi (n + 1) (Nat.le_refl _))
    rw [show x + ((n + 1 : Nat) : Int) = x + (n : Int) + 1 by omega]
    simp [nearL]
theorem go_col {x y : Int} (h : Rch nearL is c (x, y)) : ∀ n : Nat, (∀ i : Nat, i ≤ n → is (x, y + i) = true) → Rch nearL is c (x, y + (n : Int))
  | 0, _ => by rw [show y + ((0 : Nat) : Int) = y by omega]; exact h
  | n + 1, hi => by
    have ih := go_col h n (fun i hin => hi i (by omega))
    refine .step ih ?_ (hi (n + 1) (Nat.le_refl _))
    rw [show y + ((n + 1 : Nat) : Int) = y + (n : Int) + 1 by omega]
    simp [nearL]
end
/-- the ring is one class -/
theorem ring_one {l : List Cel} {b : Bx} (hl : ∀ c ∈ l, b.inB c = true) {c : Cel} (hc : freeL l b c = true) (ho : b.inB c = false) : Rch nearL (freeL l b) (b.x0 - 1, b.y0 - 1) c := by
  obtain ⟨x, y⟩ := c
  have hin : b.x0 - 1 ≤ x ∧ x ≤ b.x1 + 1 ∧ b.y0 - 1 ≤ y ∧ y ≤ b.y1 + 1 := by
    unfold freeL at hc
    simp only [Bool.and_eq_true, decide_eq_true_eq] at hc
    omega
  have hfree : ∀ u v : Int, b.x0 - 1 ≤ u → u ≤ b.x1 + 1 → b.y0 - 1 ≤ v → v ≤ b.y1 + 1 → (u < b.x0 ∨ b.x1 < u ∨ v < b.y0 ∨ b.y1 < v) → freeL l b (u, v) = true := by
    intro u v h1 h2 h3 h4 h5
    have hn : (u, v) ∉ l := by
      intro h
      have := hl _ h
      unfold Bx.inB at this
      simp only [Bool.and_eq_true, decide_eq_true_eq] at this
      omega
    unfold freeL
    simp only [Bool.and_eq_true, decide_eq_true_eq]
    exact ⟨⟨⟨⟨hn, h1⟩, h2⟩, h3⟩, h4⟩
  have hout : x < b.x0 ∨ b.x1 < x ∨ y < b.y0 ∨ b.y1 < y := by
    refine Classical.byContradiction fun h => ?_
    have : b.inB (x, y) = true := by
      unfold Bx.inB
      simp only [Bool.and_eq_true, decide_eq_true_eq]
      omega
    rw [ho] at this; cases this
  obtain ⟨n, hn⟩ := Int.eq_ofNat_of_zero_le (show 0 ≤ x - (b.x0 - 1) by omega)
  obtain ⟨m, hm⟩ := Int.eq_ofNat_of_zero_le (show 0 ≤ y - (b.y0 - 1) by omega)
  have ex : b.x0 - 1 + (n : Int) = x := by omega
  have ey : b.y0 - 1 + (m : Int) = y := by omega
  by_cases hh : y < b.y0 ∨ b.y1 < y
  · -- down the left side, then along the row
    have h1 := go_col (is := freeL l b) (c := (b.x0 - 1, b.y0 - 1)) .refl m (fun i hi => hfree _ _ (by omega) (by omega) (by omega) (by omega) (.inl (by omega)))
    rw [ey] at h1
    have h2 := go_row h1 n (fun i hi => hfree _ _ (by omega) (by omega) (by omega) (by omega) (.inr (.inr hh)))
    rw [ex] at h2
    exact h2
  · -- along the top, then down
    have h1 := go_row (is := freeL l b) (c := (b.x0 - 1, b.y0 - 1)) .refl n (fun i hi => hfree _ _ (by omega) (by omega) (by omega) (by omega) (.inr (.inr (.inl (by omega)))))
    rw [ex] at h1
    have h2 := go_col h1 m (fun i hi => hfree _ _ (by omega) (by omega) (by omega) (by omega) (by omega))
    rw [ey] at h2
    exact h2
/-- the reference's count over the frame is one more than the holes -/
theorem holes_frame {l : List Cel} {b : Bx} {n K : Nat} (hx : b.x0 ≤ b.x1) (hy : b.y0 ≤ b.y1) (hl : ∀ c ∈ l, b.inB c = true) {U : List Cel} (hU : ∀ c, freeL l b c = true → c ∈ U) (hn : U.length ≤ n) (h : Fc (Rch nearL (freeL l b)) (freeL l b) [] (boxCells b.fr) K) : K = holesL l b n + 1 := by
  have hc : freeL l b (b.x0 - 1, b.y0 - 1) = true := by
    have hnl : (b.x0 - 1, b.y0 - 1) ∉ l := by
      intro h
      have := hl _ h
      unfold Bx.inB at this
      simp only [Bool.and_eq_true, decide_eq_true_eq] at this
      omega
    unfold freeL
    simp only [Bool.and_eq_true, decide_eq_true_eq]
    exact ⟨⟨⟨⟨hnl, by omega⟩, by omega⟩, by omega⟩, by omega⟩
  have hb : ∀ c ∈ boxCells b, c ∉ l → freeL l b c = true := by
    intro c hcb hcl
    rw [← ring_filter hx hy, List.mem_filter] at hcb
    have hin := hcb.2
    unfold Bx.inB at hin
    simp only [Bool.and_eq_true, decide_eq_true_eq] at hin
    unfold freeL
    simp only [Bool.and_eq_true, decide_eq_true_eq]
    exact ⟨⟨⟨⟨hcl, by omega⟩, by omega⟩, by omega⟩, by omega⟩
  have h1 := holes_fc hU hn hc hb
  obtain ⟨rest, hr⟩ := ring_head hx hy
  rw [hr] at h
  cases h with
  | skip h2 _ =>
    rcases h2 with h2 | ⟨m, hm, _⟩
    · rw [hc] at h2; cases h2
    · simp at hm
  | @new _ _ _ k _ _ h2 =>
    have h3 := h2.drop (p := b.inB) (fun c _ hp => by
      cases hfc : freeL l b c
      · exact .inl rfl
      · exact .inr ⟨_, by simp, ring_one hl hfc hp⟩)
    have e : rest.filter b.inB = boxCells b := by
      rw [← ring_filter hx hy, hr, List.filter_cons_of_neg]
      unfold Bx.inB
      simp only [Bool.and_eq_true, decide_eq_true_eq]
      omega
    rw [e] at h3
    rw [h3.uniq h1]
end Go.Proofs.YtmgofdgbenfjmaaDoor
