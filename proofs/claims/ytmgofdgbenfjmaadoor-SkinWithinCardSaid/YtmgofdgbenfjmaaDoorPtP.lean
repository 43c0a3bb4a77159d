/- Plain facts for part: prefixes of its loops, the frame's cells. No conditions. -/
import Derived.Test.YtmgofdgbenfjmaaDoorFlP
namespace Go.Proofs.YtmgofdgbenfjmaaDoor

def edgeC (l : List Cel) (c : Cel) : Nat := ((sidesL c).filter fun d => decide (d ∉ l)).length
def edgeK (l : List Cel) (k : Nat) : Nat := ((l.take k).map (edgeC l)).sum
def edgeJ (l : List Cel) (c : Cel) (j : Nat) : Nat := (((sidesL c).take j).filter fun d => decide (d ∉ l)).length
theorem edgeK_succ {l : List Cel} {k : Nat} (h : k < l.length) : edgeK l (k + 1) = edgeK l k + edgeC l l[k] := by
  unfold edgeK
  rw [List.take_succ_eq_append_getElem h, List.map_append, List.sum_append]
  show _ + (edgeC l l[k] + 0) = _
  rw [Nat.add_zero]
theorem edgeK_all (l : List Cel) : edgeK l l.length = edgeL l := by
  unfold edgeK edgeL; rw [List.take_length]; rfl
theorem sides_len (c : Cel) : (sidesL c).length = 4 := rfl
theorem edgeJ_succ {l : List Cel} {c : Cel} {j : Nat} (h : j < 4) {d : Cel} (hd : d = (sidesL c)[j]'(by rw [sides_len]; exact h)) : edgeJ l c (j + 1) = edgeJ l c j + if d ∈ l then 0 else 1 := by
  unfold edgeJ
  rw [List.take_succ_eq_append_getElem (by rw [sides_len]; exact h), List.filter_append, List.length_append, ← hd]
  congr 1
  by_cases hm : d ∈ l <;> simp [hm]
theorem edgeJ_four (l : List Cel) (c : Cel) : edgeJ l c 4 = edgeC l c := rfl
theorem edgeC_le (l : List Cel) (c : Cel) : edgeC l c ≤ 4 := List.length_filter_le _ _
theorem edgeJ_le (l : List Cel) (c : Cel) (j : Nat) : edgeJ l c j ≤ 4 := by
  unfold edgeJ
  exact Nat.le_trans (List.length_filter_le _ _) (by rw [List.length_take]; exact Nat.min_le_right _ _)
theorem edgeK_le (l : List Cel) : ∀ k, edgeK l k ≤ 4 * k
  | 0 => by simp [edgeK]
  | k + 1 => by
    by_cases h : k < l.length
    · rw [edgeK_succ h]
      have := edgeK_le l k
      have := edgeC_le l l[k]
      omega
    · have : edgeK l (k + 1) = edgeK l k := by unfold edgeK; rw [List.take_of_length_le (by omega), List.take_of_length_le (by omega)]
      rw [this]
      have := edgeK_le l k
      omega
theorem boxL_snoc {l : List Cel} {k : Nat} (h : k < l.length) : boxL (l.take (k + 1)) = (boxL (l.take k)).with_ l[k] := by
  unfold boxL
  rw [List.take_succ_eq_append_getElem h, List.foldl_append]; rfl
/-- within the grid -/
def InG (c : Cel) : Prop := 0 ≤ c.1 ∧ c.1 ≤ 47 ∧ 0 ≤ c.2 ∧ c.2 ≤ 47
def BxIn (b : Bx) : Prop := 0 ≤ b.x0 ∧ b.x0 ≤ 48 ∧ 0 ≤ b.y0 ∧ b.y0 ≤ 48 ∧ -1 ≤ b.x1 ∧ b.x1 ≤ 47 ∧ -1 ≤ b.y1 ∧ b.y1 ≤ 47
theorem bxIn_with {b : Bx} {c : Cel} (h : BxIn b) (hc : InG c) : BxIn (b.with_ c) := by
  unfold BxIn Bx.with_ InG at *
  simp only
  omega
theorem bxIn_fold : ∀ (l : List Cel) {b : Bx}, BxIn b → (∀ c ∈ l, InG c) → BxIn (l.foldl Bx.with_ b)
  | [], _, h, _ => h
  | c :: l, _, h, hl => bxIn_fold l (bxIn_with h (hl c (by simp))) (fun d hd => hl d (by simp [hd]))
theorem bxIn_box {l : List Cel} (hl : ∀ c ∈ l, InG c) : BxIn (boxL l) := bxIn_fold l (by refine ⟨?_, ?_, ?_, ?_, ?_, ?_, ?_, ?_⟩ <;> decide) hl
theorem mem_row {x0 : Int} {n : Nat} {y : Int} {c : Cel} : c ∈ rowL x0 n y ↔ c.2 = y ∧ x0 ≤ c.1 ∧ c.1 < x0 + n := by
  unfold rowL
  simp only [List.mem_map, List.mem_range]
  constructor
  · rintro ⟨i, hi, rfl⟩
    exact ⟨rfl, by show x0 ≤ x0 + (i : Int); omega, by show x0 + (i : Int) < x0 + n; omega⟩
  · rintro ⟨h1, h2, h3⟩
    exact ⟨(c.1 - x0).toNat, by omega, Prod.ext (by simp; omega) h1.symm⟩
theorem mem_box {b : Bx} {c : Cel} : c ∈ boxCells b ↔ b.x0 ≤ c.1 ∧ c.1 ≤ b.x1 ∧ b.y0 ≤ c.2 ∧ c.2 ≤ b.y1 := by
  unfold boxCells
  simp only [List.mem_flatMap, List.mem_range, mem_row]
  constructor
  · rintro ⟨j, hj, h1, h2, h3⟩
    omega
  · rintro ⟨h1, h2, h3, h4⟩
    exact ⟨(c.2 - b.y0).toNat, by omega, by omega, by omega, by omega⟩
theorem row_len (x0 : Int) (n : Nat) (y : Int) : (rowL x0 n y).length = n := by simp [rowL]
theorem flat_const {f : Nat → List Cel} {w : Nat} (hf : ∀ j, (f j).length = w) : ∀ l : List Nat, (l.flatMap f).length = l.length * w
  | [] => by simp
  | a :: l => by rw [List.flatMap_cons, List.length_append, hf, flat_const hf l, List.length_cons, Nat.succ_mul]; omega
theorem box_len (b : Bx) : (boxCells b).length = (b.y1 + 1 - b.y0).toNat * (b.x1 + 1 - b.x0).toNat := by
  unfold boxCells
  rw [flat_const (fun j => row_len _ _ _), List.length_range]
/-- the frame around a box -/
def frame (b : Bx) : List Cel := boxCells ⟨b.x0 - 1, b.y0 - 1, b.x1 + 1, b.y1 + 1⟩
theorem frame_len {b : Bx} (h : BxIn b) : (frame b).length ≤ 2500 := by
  unfold frame
  rw [box_len]
  unfold BxIn at h
  have h1 : (b.y1 + 1 + 1 - (b.y0 - 1)).toNat ≤ 50 := by omega
  have h2 : (b.x1 + 1 + 1 - (b.x0 - 1)).toNat ≤ 50 := by omega
  exact Nat.mul_le_mul h1 h2
theorem free_frame {l : List Cel} {b : Bx} {c : Cel} (h : freeL l b c = true) : c ∈ frame b := by
  unfold frame
  rw [mem_box]
  unfold freeL at h
  simp only [Bool.and_eq_true, decide_eq_true_eq] at h
  exact ⟨h.1.1.1.2, h.1.1.2, h.1.2, h.2⟩
theorem frame_in {b : Bx} (h : BxIn b) {c : Cel} (hc : c ∈ frame b) : -1 ≤ c.1 ∧ c.1 ≤ 48 ∧ -1 ≤ c.2 ∧ c.2 ≤ 48 := by
  unfold frame at hc
  rw [mem_box] at hc
  unfold BxIn at h
  simp only at hc
  omega
theorem near_in {c d : Cel} (h : -1 ≤ c.1 ∧ c.1 ≤ 48 ∧ -1 ≤ c.2 ∧ c.2 ≤ 48) (hd : d ∈ nearL c) : -2 ≤ d.1 ∧ d.1 ≤ 49 ∧ -2 ≤ d.2 ∧ d.2 ≤ 49 := by
  unfold nearL at hd
  simp only [List.mem_cons, List.mem_nil_iff, or_false] at hd
  rcases hd with rfl | rfl | rfl | rfl | rfl | rfl | rfl | rfl <;> (simp only; omega)
theorem sides_in {c d : Cel} (h : InG c) (hd : d ∈ sidesL c) : -2 ≤ d.1 ∧ d.1 ≤ 49 ∧ -2 ≤ d.2 ∧ d.2 ≤ 49 := by
  unfold InG at h
  unfold sidesL at hd
  simp only [List.mem_cons, List.mem_nil_iff, or_false] at hd
  rcases hd with rfl | rfl | rfl | rfl <;> (simp only; omega)
/-- the first a rows of a box, and the first b cells of the next one -/
def boxP (b : Bx) (a k : Nat) : List Cel := ((List.range a).flatMap fun (j : Nat) => rowL b.x0 (b.x1 + 1 - b.x0).toNat (b.y0 + (j : Int))) ++ rowL b.x0 k (b.y0 + (a : Int))
theorem boxP_cell (b : Bx) (a k : Nat) : boxP b a (k + 1) = boxP b a k ++ [(b.x0 + (k : Int), b.y0 + (a : Int))] := by
  unfold boxP rowL
  rw [List.range_succ, List.map_append, List.append_assoc]; rfl
theorem boxP_row (b : Bx) (a : Nat) : boxP b a (b.x1 + 1 - b.x0).toNat = boxP b (a + 1) 0 := by
  unfold boxP
  rw [List.range_succ, List.flatMap_append]
  simp [rowL]
theorem boxP_all (b : Bx) : boxP b (b.y1 + 1 - b.y0).toNat 0 = boxCells b := by
  unfold boxP boxCells; simp [rowL]
theorem boxP_none (b : Bx) : boxP b 0 0 = [] := by simp [boxP, rowL]
theorem holeStep_le (l : List Cel) (b : Bx) (n : Nat) (st : List Cel × Nat) (c : Cel) : (holeStep l b n st c).2 ≤ st.2 + 1 := by
  unfold holeStep; split
  · omega
  · exact Nat.le_refl _
theorem holeSteps_le (l : List Cel) (b : Bx) (n : Nat) : ∀ (cs : List Cel) (st : List Cel × Nat), (cs.foldl (holeStep l b n) st).2 ≤ st.2 + cs.length
  | [], _ => Nat.le_refl _
  | c :: cs, st => by
    have h1 := holeSteps_le l b n cs (holeStep l b n st c)
    have h2 := holeStep_le l b n st c
    rw [List.foldl_cons, List.length_cons]; omega
theorem boxP_len {b : Bx} (h : BxIn b) {a k : Nat} (ha : a ≤ 48) (hk : k ≤ 48) : (boxP b a k).length ≤ 48 * 48 + 48 := by
  unfold boxP
  rw [List.length_append, row_len, flat_const (fun j => row_len _ _ _), List.length_range]
  have hw : (b.x1 + 1 - b.x0).toNat ≤ 48 := by unfold BxIn at h; omega
  have := Nat.mul_le_mul ha hw
  omega
end Go.Proofs.YtmgofdgbenfjmaaDoor
