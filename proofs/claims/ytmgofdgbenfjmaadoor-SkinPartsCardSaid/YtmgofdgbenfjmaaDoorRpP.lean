/- Plain: the parts as the reference counts them. No conditions. -/
import Derived.Test.YtmgofdgbenfjmaaDoorUfP
import Derived.Test.YtmgofdgbenfjmaaDoorWhP
namespace Go.Proofs.YtmgofdgbenfjmaaDoor

/-- the cells of class c among the first k -/
def cellsK (n : Nat) (cl : Nat → Int) (c k : Nat) : List Cel := ((List.range k).filter fun i => decide (cl i = (c : Int))).map (celK n)
/-- the classes that begin among the first i -/
def partsK (n N : Nat) (cl : Nat → Int) (i : Nat) : List Prt := ((List.range i).filter fun c => decide (cl c = (c : Int))).map fun c => partL (cellsK n cl c N) 3000
theorem cellsK_yes {n : Nat} {cl : Nat → Int} {c k : Nat} (h : cl k = (c : Int)) : cellsK n cl c (k + 1) = cellsK n cl c k ++ [celK n k] := by
  unfold cellsK
  rw [List.range_succ, List.filter_append, List.map_append, List.filter_cons_of_pos (by simpa using h)]; rfl
theorem cellsK_no {n : Nat} {cl : Nat → Int} {c k : Nat} (h : ¬ cl k = (c : Int)) : cellsK n cl c (k + 1) = cellsK n cl c k := by
  unfold cellsK
  rw [List.range_succ, List.filter_append, List.map_append, List.filter_cons_of_neg (by simpa using h)]; simp
theorem cellsK_len (n : Nat) (cl : Nat → Int) (c k : Nat) : (cellsK n cl c k).length ≤ k := by
  unfold cellsK
  rw [List.length_map]
  exact Nat.le_trans (List.length_filter_le _ _) (by simp)
theorem partsK_yes {n N : Nat} {cl : Nat → Int} {c : Nat} (h : cl c = (c : Int)) : partsK n N cl (c + 1) = partsK n N cl c ++ [partL (cellsK n cl c N) 3000] := by
  unfold partsK
  rw [List.range_succ, List.filter_append, List.map_append, List.filter_cons_of_pos (by simpa using h)]; rfl
theorem partsK_no {n N : Nat} {cl : Nat → Int} {c : Nat} (h : ¬ cl c = (c : Int)) : partsK n N cl (c + 1) = partsK n N cl c := by
  unfold partsK
  rw [List.range_succ, List.filter_append, List.map_append, List.filter_cons_of_neg (by simpa using h)]; simp
theorem partsK_len (n N : Nat) (cl : Nat → Int) (c : Nat) : (partsK n N cl c).length ≤ c := by
  unfold partsK
  rw [List.length_map]
  exact Nat.le_trans (List.length_filter_le _ _) (by simp)
/-- the four neighbours, in the reference's order -/
def rsides (c : Cel) : List Cel := [(c.1 - 1, c.2), (c.1 + 1, c.2), (c.1, c.2 - 1), (c.1, c.2 + 1)]
/-- how many of the first d are not usable -/
def outD (us : Cel → Bool) (c : Cel) (d : Nat) : Nat := (((rsides c).take d).filter fun e => !us e).length
theorem outD_le (us : Cel → Bool) (c : Cel) (d : Nat) : outD us c d ≤ d := Nat.le_trans (List.length_filter_le _ _) (by rw [List.length_take]; omega)
theorem outD_step {us : Cel → Bool} {c : Cel} {d : Nat} {e : Cel} (h : (rsides c)[d]? = some e) : outD us c (d + 1) = outD us c d + if us e then 0 else 1 := by
  unfold outD
  rw [List.take_add_one, h, List.filter_append, List.length_append]
  cases hu : us e <;> simp [hu]
theorem outD_all (us : Cel → Bool) (c : Cel) : outD us c 4 = ((sidesL c).filter fun d => !us d).length := by
  unfold outD rsides sidesL
  simp only [List.take_succ_cons, List.take_zero, List.filter_cons, List.filter_nil]
  cases us (c.1 - 1, c.2) <;> cases us (c.1 + 1, c.2) <;> cases us (c.1, c.2 - 1) <;> cases us (c.1, c.2 + 1) <;> rfl
/-- the edge of some cells -/
def edgU (us : Cel → Bool) (l : List Cel) : Nat := (l.map fun x => ((sidesL x).filter fun d => !us d).length).sum
theorem edgU_snoc (us : Cel → Bool) (l : List Cel) (c : Cel) : edgU us (l ++ [c]) = edgU us l + outD us c 4 := by
  unfold edgU
  rw [List.map_append, List.sum_append, outD_all]; simp
theorem edgU_le (us : Cel → Bool) : ∀ l : List Cel, edgU us l ≤ 4 * l.length
  | [] => by simp [edgU]
  | c :: l => by
    have h := edgU_le us l
    have h2 : ((sidesL c).filter fun d => !us d).length ≤ 4 := Nat.le_trans (List.length_filter_le _ _) (by simp [sidesL])
    unfold edgU at h ⊢
    rw [List.map_cons, List.sum_cons, List.length_cons]; omega
section
variable {us : Cel → Bool} {n h : Nat} {up : Nat → Nat}
theorem cls_iff {k c : Nat} : clsK us n up k = (c : Int) ↔ us (celK n k) = true ∧ rtU up k = c := by
  unfold clsK
  cases hu : us (celK n k) <;> simp <;> omega
variable (hr : RtOk us (boxCells ⟨0, 0, (n : Int) - 1, (h : Int) - 1⟩) (fun c => celK n (rtU up (idxC n c))))
theorem idx_cel (k : Nat) : idxC n (celK n k) = k := by
  unfold idxC celK
  dsimp only
  rw [Int.toNat_natCast, Int.toNat_natCast, Nat.div_add_mod]
theorem cells_cls (c : Nat) : ((boxCells ⟨0, 0, (n : Int) - 1, (h : Int) - 1⟩).filter fun d => us d && decide (celK n (rtU up (idxC n d)) = celK n c)) = cellsK n (clsK us n up) c (n * h) := by
  rw [box_cells, List.filter_map]
  unfold cellsK
  congr 1
  refine List.filter_congr fun k _ => ?_
  show (us (celK n k) && decide (celK n (rtU up (idxC n (celK n k))) = celK n c)) = decide (clsK us n up k = (c : Int))
  rw [idx_cel]
  have : (us (celK n k) = true ∧ celK n (rtU up k) = celK n c) ↔ clsK us n up k = (c : Int) := by
    rw [cls_iff]
    exact ⟨fun h => ⟨h.1, celK_inj h.2⟩, fun h => ⟨h.1, by rw [h.2]⟩⟩
  rw [Bool.eq_iff_iff, Bool.and_eq_true, decide_eq_true_iff, decide_eq_true_iff]; exact this
include hr
theorem parts_cls (hb : n * h ≤ 3000) : partsL us n h 3000 = partsK n (n * h) (clsK us n up) (n * h) := by
  have hlen : (boxCells ⟨0, 0, (n : Int) - 1, (h : Int) - 1⟩).length ≤ 3000 := by rw [box_cells]; simpa using hb
  rw [parts_rt hr hlen]
  unfold rtParts partsK
  have e1 : ((boxCells ⟨0, 0, (n : Int) - 1, (h : Int) - 1⟩).filter fun c => us c && decide (celK n (rtU up (idxC n c)) = c)) = ((List.range (n * h)).filter fun c => decide (clsK us n up c = (c : Int))).map (celK n) := by
    rw [box_cells, List.filter_map]
    congr 1
    refine List.filter_congr fun k _ => ?_
    show (us (celK n k) && decide (celK n (rtU up (idxC n (celK n k))) = celK n k)) = decide (clsK us n up k = (k : Int))
    rw [idx_cel]
    have : (us (celK n k) = true ∧ celK n (rtU up k) = celK n k) ↔ clsK us n up k = (k : Int) := by
      rw [cls_iff]
      exact ⟨fun h => ⟨h.1, celK_inj h.2⟩, fun h => ⟨h.1, by rw [h.2]⟩⟩
    rw [Bool.eq_iff_iff, Bool.and_eq_true, decide_eq_true_iff, decide_eq_true_iff]; exact this
  rw [e1, List.map_map]
  refine List.map_congr_left fun c _ => ?_
  exact congrArg (fun l => partL l 3000) (cells_cls c)
theorem edge_cls (c : Nat) : edgeL (cellsK n (clsK us n up) c (n * h)) = edgU us (cellsK n (clsK us n up) c (n * h)) := by
  have e := edge_us hr (celK n c)
  rw [cells_cls] at e
  exact e
end
/-- a cell of a class, found by its number -/
theorem mem_cellsK {n N : Nat} {cl : Nat → Int} {c x y : Nat} (hx : x < n) (hi : n * y + x < N) : (((x : Int), (y : Int)) ∈ cellsK n cl c N ↔ cl (n * y + x) = (c : Int)) := by
  have e := celK_at (y := y) hx
  unfold cellsK
  rw [List.mem_map]
  constructor
  · rintro ⟨k, hk, he⟩
    rw [← e] at he
    have := celK_inj he
    subst this
    simpa using (List.mem_filter.1 hk).2
  · intro h
    exact ⟨n * y + x, List.mem_filter.2 ⟨List.mem_range.2 hi, by simpa using h⟩, e⟩
theorem cellsK_grid {n h N : Nat} {cl : Nat → Int} {c : Nat} (hn : 0 < n) (hN : N = n * h) {d : Cel} (hd : d ∈ cellsK n cl c N) : 0 ≤ d.1 ∧ d.1 < n ∧ 0 ≤ d.2 ∧ d.2 < h := by
  unfold cellsK at hd
  obtain ⟨k, hk, rfl⟩ := List.mem_map.1 hd
  have hk := List.mem_range.1 (List.mem_filter.1 hk).1
  have h1 : k % n < n := Nat.mod_lt _ hn
  have h2 : k / n < h := Nat.div_lt_of_lt_mul (by rw [← hN]; exact hk)
  unfold celK
  dsimp only
  refine ⟨by omega, by omega, ?_, by omega⟩
  exact Int.natCast_nonneg _
/-- the box of a class -/
theorem cells_box {n h N : Nat} {cl : Nat → Int} {c : Nat} (hn : 0 < n) (hN : N = n * h) (hc : c < N) (hcl : cl c = (c : Int)) : (0 ≤ (boxL (cellsK n cl c N)).x0 ∧ (boxL (cellsK n cl c N)).x0 ≤ (boxL (cellsK n cl c N)).x1 ∧ (boxL (cellsK n cl c N)).x1 < n) ∧
    (0 ≤ (boxL (cellsK n cl c N)).y0 ∧ (boxL (cellsK n cl c N)).y0 ≤ (boxL (cellsK n cl c N)).y1 ∧ (boxL (cellsK n cl c N)).y1 < h) ∧ ∀ d ∈ cellsK n cl c N, (boxL (cellsK n cl c N)).inB d = true := by
  have hm : celK n c ∈ cellsK n cl c N := List.mem_map.2 ⟨c, List.mem_filter.2 ⟨List.mem_range.2 hc, by simpa using hcl⟩, rfl⟩
  have hin : ∀ d ∈ cellsK n cl c N, (boxL (cellsK n cl c N)).inB d = true := fun d hd => by
    have := box_has hd
    rw [mem_box] at this
    unfold Bx.inB
    simp only [Bool.and_eq_true, decide_eq_true_eq]
    omega
  have h1 := box_has hm
  rw [mem_box] at h1
  have h2 : ∀ (l : List Cel) (b : Bx), (∀ d ∈ l, 0 ≤ d.1 ∧ d.1 < n ∧ 0 ≤ d.2 ∧ d.2 < h) → (0 ≤ b.x0 ∧ 0 ≤ b.y0 ∧ b.x1 ≤ (n : Int) - 1 ∧ b.y1 ≤ (h : Int) - 1) → (0 ≤ (l.foldl Bx.with_ b).x0 ∧ 0 ≤ (l.foldl Bx.with_ b).y0 ∧ (l.foldl Bx.with_ b).x1 ≤ (n : Int) - 1 ∧ (l.foldl Bx.with_ b).y1 ≤ (h : Int) - 1) := fun l b hl hb =>
    fold_in l b hb fun d hd => by have := hl d hd; omega
  have hg := cellsK_grid hn hN hm
  have h3 := h2 (cellsK n cl c N) Bx.no (fun d hd => cellsK_grid hn hN hd) (by unfold Bx.no; dsimp only; omega)
  have h4 : boxL (cellsK n cl c N) = (cellsK n cl c N).foldl Bx.with_ Bx.no := rfl
  rw [← h4] at h3
  refine ⟨⟨by omega, by omega, by omega⟩, ⟨by omega, by omega, by omega⟩, hin⟩
end Go.Proofs.YtmgofdgbenfjmaaDoor
