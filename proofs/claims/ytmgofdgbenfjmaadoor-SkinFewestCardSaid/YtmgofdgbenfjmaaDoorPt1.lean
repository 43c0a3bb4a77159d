/- Texts joined: PtP, WhP. Conditions: see each. -/
import Derived.Test.YtmgofdgbenfjmaaDoorMp1
namespace Go.Proofs.YtmgofdgbenfjmaaDoor

def edgeC (l : List Cel) (c : Cel) : Nat := ((sidesL c).filter fun d => decide (d ∉ l)).length
def edgeK (l : List Cel) (k : Nat) : Nat := ((l.take k).map (edgeC l)).sum
def edgeJ (l : List Cel) (c : Cel) (j : Nat) : Nat := (((sidesL c).take j).filter fun d => decide (d ∉ l)).length
theorem edgeK_succ {l : List Cel} {k : Nat} (h : k < l.length) : edgeK l (k + 1) = edgeK l k + edgeC l l[k] := by
  unfold edgeK
  rw [List.take_succ_eq_append_getElem h, List.map_append, List.sum_append]
  show _ + (edgeC l l[k] + 0) = _
  rw [Nat.add_zero]
theorem edgeK_all (l : List Cel) : edgeK l l.length = edgeL l := by
  unfold edgeK edgeL; rw [List.take_length]; rfl
theorem sides_len (c : Cel) : (sidesL c).length = 4 := rfl
theorem edgeJ_succ {l : List Cel} {c : Cel} {j : Nat} (h : j < 4) {d : Cel} (hd : d = (sidesL c)[j]'(by rw [sides_len]; exact h)) : edgeJ l c (j + 1) = edgeJ l c j + if d ∈ l then 0 else 1 := by
  unfold edgeJ
  rw [List.take_succ_eq_append_getElem (by rw [sides_len]; exact h), List.filter_append, List.length_append, ← hd]
  congr 1
  by_cases hm : d ∈ l <;> simp [hm]
theorem edgeJ_four (l : List Cel) (c : Cel) : edgeJ l c 4 = edgeC l c := rfl
theorem edgeC_le (l : List Cel) (c : Cel) : edgeC l c ≤ 4 := List.length_filter_le _ _
theorem edgeJ_le (l : List Cel) (c : Cel) (j : Nat) : edgeJ l c j ≤ 4 := by
  unfold edgeJ
  exact Nat.le_trans (List.length_filter_le _ _) (by rw [List.length_take]; exact Nat.min_le_right _ _)
theorem edgeK_le (l : List Cel) : ∀ k, edgeK l k ≤ 4 * k
  | 0 => by simp [edgeK]
  | k + 1 => by
    by_cases h : k < l.length
    · rw [edgeK_succ h]
      have := edgeK_le l k
      have := edgeC_le l l[k]
      omega
    · have : edgeK l (k + 1) = edgeK l k := by unfold edgeK; rw [List.take_of_length_le (by omega), List.take_of_length_le (by omega)]
      rw [this]
      have := edgeK_le l k
      omega
theorem boxL_snoc {l : List Cel} {k : Nat} (h : k < l.length) : boxL (l.take (k + 1)) = (boxL (l.take k)).with_ l[k] := by
  unfold boxL
  rw [List.take_succ_eq_append_getElem h, List.foldl_append]; rfl
/-- within the grid -/
def InG (c : Cel) : Prop := 0 ≤ c.1 ∧ c.1 ≤ 47 ∧ 0 ≤ c.2 ∧ c.2 ≤ 47
def BxIn (b : Bx) : Prop := 0 ≤ b.x0 ∧ b.x0 ≤ 48 ∧ 0 ≤ b.y0 ∧ b.y0 ≤ 48 ∧ -1 ≤ b.x1 ∧ b.x1 ≤ 47 ∧ -1 ≤ b.y1 ∧ b.y1 ≤ 47
theorem bxIn_with {b : Bx} {c : Cel} (h : BxIn b) (hc : InG c) : BxIn (b.with_ c) := by
  unfold BxIn Bx.with_ InG at *
  simp only
  omega
theorem bxIn_fold : ∀ (l : List Cel) {b : Bx}, BxIn b → (∀ c ∈ l, InG c) → BxIn (l.foldl Bx.with_ b)
  | [], _, h, _ => h
  | c :: l, _, h, hl => bxIn_fold l (bxIn_with h (hl c (by simp))) (fun d hd => hl d (by simp [hd]))
theorem bxIn_box {l : List Cel} (hl : ∀ c ∈ l, InG c) : BxIn (boxL l) := bxIn_fold l (by refine ⟨?_, ?_, ?_, ?_, ?_, ?_, ?_, ?_⟩ <;> decide) hl
theorem mem_row {x0 : Int} {n : Nat} {y : Int} {c : Cel} : c ∈ rowL x0 n y ↔ c.2 = y ∧ x0 ≤ c.1 ∧ c.1 < x0 + n := by
  unfold rowL
  simp only [List.mem_map, List.mem_range]
  constructor
  · rintro ⟨i, hi, rfl⟩
    exact ⟨rfl, by show x0 ≤ x0 + (i : Int); omega, by show x0 + (i : Int) < x0 + n; omega⟩
  · rintro ⟨h1, h2, h3⟩
    exact ⟨(c.1 - x0).toNat, by omega, Prod.ext (by simp; omega) h1.symm⟩
theorem mem_box {b : Bx} {c : Cel} : c ∈ boxCells b ↔ b.x0 ≤ c.1 ∧ c.1 ≤ b.x1 ∧ b.y0 ≤ c.2 ∧ c.2 ≤ b.y1 := by
  unfold boxCells
  simp only [List.mem_flatMap, List.mem_range, mem_row]
  constructor
  · rintro ⟨j, hj, h1, h2, h3⟩
    omega
  · rintro ⟨h1, h2, h3, h4⟩
    exact ⟨(c.2 - b.y0).toNat, by omega, by omega, by omega, by omega⟩
theorem row_len (x0 : Int) (n : Nat) (y : Int) : (rowL x0 n y).length = n := by simp [rowL]
theorem flat_const {f : Nat → List Cel} {w : Nat} (hf : ∀ j, (f j).length = w) : ∀ l : List Nat, (l.flatMap f).length = l.length * w
  | [] => by simp
  | a :: l => by rw [List.flatMap_cons, List.length_append, hf, flat_const hf l, List.length_cons, Nat.succ_mul]; omega
theorem box_len (b : Bx) : (boxCells b).length = (b.y1 + 1 - b.y0).toNat * (b.x1 + 1 - b.x0).toNat := by
  unfold boxCells
  rw [flat_const (fun j => row_len _ _ _), List.length_range]
/-- the frame around a box -/
def frame (b : Bx) : List Cel := boxCells ⟨b.x0 - 1, b.y0 - 1, b.x1 + 1, b.y1 + 1⟩
theorem frame_len {b : Bx} (h : BxIn b) : (frame b).length ≤ 2500 := by
  unfold frame
  rw [box_len]
  unfold BxIn at h
  have h1 : (b.y1 + 1 + 1 - (b.y0 - 1)).toNat ≤ 50 := by omega
  have h2 : (b.x1 + 1 + 1 - (b.x0 - 1)).toNat ≤ 50 := by omega
  exact Nat.mul_le_mul h1 h2
theorem free_frame {l : List Cel} {b : Bx} {c : Cel} (h : freeL l b c = true) : c ∈ frame b := by
  unfold frame
  rw [mem_box]
  unfold freeL at h
  simp only [Bool.and_eq_true, decide_eq_true_eq] at h
  exact ⟨h.1.1.1.2, h.1.1.2, h.1.2, h.2⟩
theorem frame_in {b : Bx} (h : BxIn b) {c : Cel} (hc : c ∈ frame b) : -1 ≤ c.1 ∧ c.1 ≤ 48 ∧ -1 ≤ c.2 ∧ c.2 ≤ 48 := by
  unfold frame at hc
  rw [mem_box] at hc
  unfold BxIn at h
  simp only at hc
  omega
theorem near_in {c d : Cel} (h : -1 ≤ c.1 ∧ c.1 ≤ 48 ∧ -1 ≤ c.2 ∧ c.2 ≤ 48) (hd : d ∈ nearL c) : -2 ≤ d.1 ∧ d.1 ≤ 49 ∧ -2 ≤ d.2 ∧ d.2 ≤ 49 := by
  unfold nearL at hd
  simp only [List.mem_cons, List.mem_nil_iff, or_false] at hd
  rcases hd with rfl | rfl | rfl | rfl | rfl | rfl | rfl | rfl <;> (simp only; omega)
theorem sides_in {c d : Cel} (h : InG c) (hd : d ∈ sidesL c) : -2 ≤ d.1 ∧ d.1 ≤ 49 ∧ -2 ≤ d.2 ∧ d.2 ≤ 49 := by
  unfold InG at h
  unfold sidesL at hd
  simp only [List.mem_cons, List.mem_nil_iff, or_false] at hd
  rcases hd with rfl | rfl | rfl | rfl <;> (simp only; omega)
/-- the first a rows of a box, and the first b cells of the next one -/
def boxP (b : Bx) (a k : Nat) : List Cel := ((List.range a).flatMap fun (j : Nat) => rowL b.x0 (b.x1 + 1 - b.x0).toNat (b.y0 + (j : Int))) ++ rowL b.x0 k (b.y0 + (a : Int))
theorem boxP_cell (b : Bx) (a k : Nat) : boxP b a (k + 1) = boxP b a k ++ [(b.x0 + (k : Int), b.y0 + (a : Int))] := by
  unfold boxP rowL
  rw [List.range_succ, List.map_append, List.append_assoc]; rfl
theorem boxP_row (b : Bx) (a : Nat) : boxP b a (b.x1 + 1 - b.x0).toNat = boxP b (a + 1) 0 := by
  unfold boxP
  rw [List.range_succ, List.flatMap_append]
  simp [rowL]
theorem boxP_all (b : Bx) : boxP b (b.y1 + 1 - b.y0).toNat 0 = boxCells b := by
  unfold boxP boxCells; simp [rowL]
theorem boxP_none (b : Bx) : boxP b 0 0 = [] := by simp [boxP, rowL]
theorem holeStep_le (l : List Cel) (b : Bx) (n : Nat) (st : List Cel × Nat) (c : Cel) : (holeStep l b n st c).2 ≤ st.2 + 1 := by
  unfold holeStep; split
  · omega
  · exact Nat.le_refl _
theorem holeSteps_le (l : List Cel) (b : Bx) (n : Nat) : ∀ (cs : List Cel) (st : List Cel × Nat), (cs.foldl (holeStep l b n) st).2 ≤ st.2 + cs.length
  | [], _ => Nat.le_refl _
  | c :: cs, st => by
    have h1 := holeSteps_le l b n cs (holeStep l b n st c)
    have h2 := holeStep_le l b n st c
    rw [List.foldl_cons, List.length_cons]; omega
theorem boxP_len {b : Bx} (h : BxIn b) {a k : Nat} (ha : a ≤ 48) (hk : k ≤ 48) : (boxP b a k).length ≤ 48 * 48 + 48 := by
  unfold boxP
  rw [List.length_append, row_len, flat_const (fun j => row_len _ _ _), List.length_range]
  have hw : (b.x1 + 1 - b.x0).toNat ≤ 48 := by unfold BxIn at h; omega
  have := Nat.mul_le_mul ha hw
  omega

theorem sum_add {α : Type} (f g : α → Nat) : ∀ l : List α, (l.map fun x => f x + g x).sum = (l.map f).sum + (l.map g).sum
  | [] => rfl
  | a :: l => by
    have := sum_add f g l
    simp only [List.map_cons, List.sum_cons]
    omega
theorem sum_one {α : Type} (f : α → Nat) {x : α} (hf : 1 ≤ f x) : ∀ {l : List α}, x ∈ l → 1 ≤ (l.map f).sum
  | a :: l, h => by
    simp only [List.map_cons, List.sum_cons]
    rcases List.mem_cons.1 h with rfl | h
    · omega
    · have := sum_one f hf h; omega
theorem least_of (f : Cel → Int) : ∀ {l : List Cel}, l ≠ [] → ∃ c ∈ l, ∀ d ∈ l, f c ≤ f d
  | [], h => absurd rfl h
  | [c], _ => ⟨c, by simp, by simp⟩
  | c :: d :: l, _ => by
    obtain ⟨m, hm, hl⟩ := least_of f (l := d :: l) (by simp)
    by_cases h : f c ≤ f m
    · refine ⟨c, by simp, fun x hx => ?_⟩
      rcases List.mem_cons.1 hx with rfl | hx
      · exact Int.le_refl _
      · exact Int.le_trans h (hl x hx)
    · refine ⟨m, List.mem_cons_of_mem _ hm, fun x hx => ?_⟩
      rcases List.mem_cons.1 hx with rfl | hx
      · omega
      · exact hl x hx
def out1 (l : List Cel) (d : Cel) : Nat := if d ∈ l then 0 else 1
theorem edgeC_eq (l : List Cel) (c : Cel) : edgeC l c = out1 l (c.1, c.2 - 1) + out1 l (c.1 - 1, c.2) + (out1 l (c.1 + 1, c.2) + out1 l (c.1, c.2 + 1)) := by
  unfold edgeC sidesL out1
  by_cases h1 : (c.1, c.2 - 1) ∈ l <;> by_cases h2 : (c.1 - 1, c.2) ∈ l <;> by_cases h3 : (c.1 + 1, c.2) ∈ l <;> by_cases h4 : (c.1, c.2 + 1) ∈ l <;> simp [h1, h2, h3, h4]
theorem out1_one {l : List Cel} {d : Cel} (h : d ∉ l) : 1 ≤ out1 l d := by unfold out1; rw [if_neg h]; exact Nat.le_refl _
theorem edgeL_four {l : List Cel} (h : l ≠ []) : 4 ≤ edgeL l := by
  have e : edgeL l = (l.map fun c => out1 l (c.1, c.2 - 1) + out1 l (c.1 - 1, c.2) + (out1 l (c.1 + 1, c.2) + out1 l (c.1, c.2 + 1))).sum := by
    have : edgeL l = (l.map (edgeC l)).sum := rfl
    rw [this]; congr 1
    apply List.map_congr_left
    intro a _; exact edgeC_eq l a
  rw [e, sum_add (fun c : Cel => out1 l (c.1, c.2 - 1) + out1 l (c.1 - 1, c.2)) (fun c : Cel => out1 l (c.1 + 1, c.2) + out1 l (c.1, c.2 + 1)), sum_add (fun c : Cel => out1 l (c.1, c.2 - 1)) (fun c : Cel => out1 l (c.1 - 1, c.2)), sum_add (fun c : Cel => out1 l (c.1 + 1, c.2)) (fun c : Cel => out1 l (c.1, c.2 + 1))]
  obtain ⟨a, ha, ha2⟩ := least_of (fun c => c.2) h
  obtain ⟨b, hb, hb2⟩ := least_of (fun c => c.1) h
  obtain ⟨c, hc, hc2⟩ := least_of (fun c => -c.1) h
  obtain ⟨d, hd, hd2⟩ := least_of (fun c => -c.2) h
  have h1 := sum_one (fun c : Cel => out1 l (c.1, c.2 - 1)) (out1_one fun h => by have := ha2 _ h; simp only at this; omega) ha
  have h2 := sum_one (fun c : Cel => out1 l (c.1 - 1, c.2)) (out1_one fun h => by have := hb2 _ h; simp only at this; omega) hb
  have h3 := sum_one (fun c : Cel => out1 l (c.1 + 1, c.2)) (out1_one fun h => by have := hc2 _ h; simp only at this; omega) hc
  have h4 := sum_one (fun c : Cel => out1 l (c.1, c.2 + 1)) (out1_one fun h => by have := hd2 _ h; simp only at this; omega) hd
  omega
/-- a flood adds its list to the marks -/
def FlA (is : Cel → Bool) (S : List Cel) (st : List Cel × List Cel) : Prop := st.1 = S ++ st.2 ∧ st.1.Nodup ∧ ∀ c ∈ st.2, is c = true
theorem FlA.step {is : Cel → Bool} {S : List Cel} {st : List Cel × List Cel} (h : FlA is S st) (c : Cel) : FlA is S (flStep is st c) := by
  obtain ⟨h1, h2, h3⟩ := h
  unfold flStep
  split
  · exact ⟨h1, h2, h3⟩
  · rename_i hm
    split
    · rename_i hi
      refine ⟨?_, ?_, fun x hx => ?_⟩
      · show st.1 ++ [c] = S ++ (st.2 ++ [c])
        rw [h1, List.append_assoc]
      · show (st.1 ++ [c]).Nodup
        rw [List.nodup_append]
        exact ⟨h2, by simp, fun a ha b hb e => by simp at hb; subst hb; subst e; exact hm ha⟩
      · have hx : x ∈ st.2 ++ [c] := hx
        rcases List.mem_append.1 hx with hx | hx
        · exact h3 x hx
        · simp at hx; subst hx; exact hi
    · exact ⟨h1, h2, h3⟩
theorem FlA.steps {is : Cel → Bool} {S : List Cel} : ∀ (cs : List Cel) {st : List Cel × List Cel}, FlA is S st → FlA is S (cs.foldl (flStep is) st)
  | [], _, h => h
  | c :: cs, _, h => FlA.steps cs (h.step c)
theorem FlA.go {next : Cel → List Cel} {is : Cel → Bool} {S : List Cel} : ∀ (n i : Nat) {st : List Cel × List Cel}, FlA is S st → FlA is S (flGo next is n i st)
  | 0, _, _, h => h
  | n + 1, i, st, h => by
    unfold flGo
    split
    · exact FlA.go n (i + 1) (FlA.steps _ h)
    · exact h
theorem flGo_len (next : Cel → List Cel) (is : Cel → Bool) : ∀ (n i : Nat) (st : List Cel × List Cel), st.2.length ≤ (flGo next is n i st).2.length
  | 0, _, _ => Nat.le_refl _
  | n + 1, i, st => by
    unfold flGo
    split
    · exact Nat.le_trans (flSteps_len is _ _) (flGo_len next is n (i + 1) _)
    · exact Nat.le_refl _
theorem fld_s {next : Cel → List Cel} {is : Cel → Bool} {S : List Cel} {c : Cel} (n : Nat) (hS : S.Nodup) (hc : c ∉ S) (hi : is c = true) : FlA is S (fld next is n S c) ∧ (fld next is n S c).2 ≠ [] := by
  refine ⟨FlA.go n 0 ⟨rfl, ?_, fun d hd => by simp at hd; subst hd; exact hi⟩, fun h => ?_⟩
  · rw [List.nodup_append]
    exact ⟨hS, by simp, fun a ha b hb e => by simp at hb; subst hb; subst e; exact hc ha⟩
  · have h2 := flGo_len next is n 0 (S ++ [c], [c])
    rw [show flGo next is n 0 (S ++ [c], [c]) = fld next is n S c from rfl, h] at h2
    simp at h2
theorem flStep_mem {is : Cel → Bool} {st : List Cel × List Cel} {c x : Cel} (h : x ∈ st.1) : x ∈ (flStep is st c).1 := by
  unfold flStep
  split
  · exact h
  · split
    · exact List.mem_append.2 (.inl h)
    · exact h
theorem flSteps_mem {is : Cel → Bool} {x : Cel} : ∀ (cs : List Cel) {st : List Cel × List Cel}, x ∈ st.1 → x ∈ (cs.foldl (flStep is) st).1
  | [], _, h => h
  | _ :: cs, _, h => flSteps_mem cs (flStep_mem h)
theorem flGo_mem {next : Cel → List Cel} {is : Cel → Bool} {x : Cel} : ∀ (n i : Nat) {st : List Cel × List Cel}, x ∈ st.1 → x ∈ (flGo next is n i st).1
  | 0, _, _, h => h
  | n + 1, i, st, h => by
    unfold flGo
    split
    · exact flGo_mem n (i + 1) (flSteps_mem _ h)
    · exact h
theorem fld_self (next : Cel → List Cel) (is : Cel → Bool) (n : Nat) (S : List Cel) (c : Cel) : c ∈ (fld next is n S c).1 := flGo_mem n 0 (by simp)
theorem fld_old {next : Cel → List Cel} {is : Cel → Bool} {n : Nat} {S : List Cel} {c x : Cel} (h : x ∈ S) : x ∈ (fld next is n S c).1 := flGo_mem n 0 (by simp [h])
/-- what the steps over the cells keep -/
def PaI (us : Cel → Bool) (n : Nat) (st : List Cel × List Prt) (ls : List (List Cel)) : Prop :=
  st.2 = ls.map (fun L => partL L n) ∧ st.1 = ls.flatten ∧ st.1.Nodup ∧ (∀ c ∈ st.1, us c = true) ∧ ∀ L ∈ ls, L ≠ []
theorem PaI.step {us : Cel → Bool} {n : Nat} {st : List Cel × List Prt} {ls : List (List Cel)} (h : PaI us n st ls) (c : Cel) : ∃ ls', PaI us n (partStep us n st c) ls' ∧ (∀ x ∈ st.1, x ∈ (partStep us n st c).1) ∧ (us c = true → c ∈ (partStep us n st c).1) := by
  obtain ⟨h1, h2, h3, h4, h5⟩ := h
  unfold partStep
  by_cases hu : us c = true
  · rw [if_pos hu]
    by_cases hc : c ∈ st.1
    · rw [if_pos hc]
      exact ⟨ls, ⟨h1, h2, h3, h4, h5⟩, fun _ h => h, fun _ => hc⟩
    · rw [if_neg hc]
      obtain ⟨⟨k1, k2, k3⟩, k4⟩ := fld_s (next := sidesL) n h3 hc hu
      refine ⟨ls ++ [(fld sidesL us n st.1 c).2], ⟨?_, ?_, k2, fun x hx => ?_, fun L hL => ?_⟩, fun x hx => fld_old hx, fun _ => fld_self _ _ _ _ _⟩
      · show st.2 ++ _ = _
        rw [h1, List.map_append]; rfl
      · show (fld sidesL us n st.1 c).1 = _
        rw [k1, List.flatten_append, ← h2]; simp
      · have hx : x ∈ (fld sidesL us n st.1 c).1 := hx
        rw [k1] at hx
        rcases List.mem_append.1 hx with hx | hx
        · exact h4 x hx
        · exact k3 x hx
      · rcases List.mem_append.1 hL with hL | hL
        · exact h5 L hL
        · simp at hL; subst hL; exact k4
  · rw [if_neg hu]
    exact ⟨ls, ⟨h1, h2, h3, h4, h5⟩, fun _ h => h, fun h => absurd h hu⟩
theorem PaI.steps {us : Cel → Bool} {n : Nat} : ∀ (cs : List Cel) {st : List Cel × List Prt} {ls : List (List Cel)}, PaI us n st ls → ∃ ls', PaI us n (cs.foldl (partStep us n) st) ls' ∧ (∀ x ∈ st.1, x ∈ (cs.foldl (partStep us n) st).1) ∧ (∀ x ∈ cs, us x = true → x ∈ (cs.foldl (partStep us n) st).1)
  | [], st, ls, h => ⟨ls, h, fun _ h => h, fun x hx => absurd hx (by simp)⟩
  | c :: cs, st, ls, h => by
    obtain ⟨l1, h1, k1, k2⟩ := h.step c
    obtain ⟨l2, h2, k3, k4⟩ := PaI.steps cs h1
    refine ⟨l2, h2, fun x hx => k3 x (k1 x hx), fun x hx hu => ?_⟩
    rcases List.mem_cons.1 hx with rfl | hx
    · exact k3 _ (k2 hu)
    · exact k4 x hx hu
/-- the parts: lists of cells, no cell twice, all usable cells -/
theorem partsL_lists (us : Cel → Bool) (w h n : Nat) (hus : ∀ c, us c = true → c ∈ boxCells ⟨0, 0, (w : Int) - 1, (h : Int) - 1⟩) : ∃ ls : List (List Cel), partsL us w h n = ls.map (fun L => partL L n) ∧ ls.flatten.Nodup ∧ (∀ c, c ∈ ls.flatten ↔ us c = true) ∧ ∀ L ∈ ls, L ≠ [] := by
  obtain ⟨ls, ⟨h1, h2, h3, h4, h5⟩, _, h6⟩ := PaI.steps (us := us) (n := n) (boxCells ⟨0, 0, (w : Int) - 1, (h : Int) - 1⟩) (st := ([], [])) (ls := []) ⟨rfl, rfl, by simp, by simp, by simp⟩
  refine ⟨ls, h1, by rw [← h2]; exact h3, fun c => ⟨fun hc => h4 c (by rw [h2]; exact hc), fun hc => ?_⟩, h5⟩
  rw [← h2]
  exact h6 c (hus c hc) hc
theorem sum_len (ls : List (List Cel)) (n : Nat) : ((ls.map (fun L => partL L n)).map (fun p => p.n)).sum = ls.flatten.length := by
  rw [List.length_flatten, List.map_map]; rfl
/-- a box has its cells -/
theorem with_le (b : Bx) (c : Cel) : (b.with_ c).x0 ≤ b.x0 ∧ (b.with_ c).y0 ≤ b.y0 ∧ b.x1 ≤ (b.with_ c).x1 ∧ b.y1 ≤ (b.with_ c).y1 ∧ (b.with_ c).x0 ≤ c.1 ∧ (b.with_ c).y0 ≤ c.2 ∧ c.1 ≤ (b.with_ c).x1 ∧ c.2 ≤ (b.with_ c).y1 := by
  unfold Bx.with_
  simp only
  omega
theorem fold_le : ∀ (l : List Cel) (b : Bx), (l.foldl Bx.with_ b).x0 ≤ b.x0 ∧ (l.foldl Bx.with_ b).y0 ≤ b.y0 ∧ b.x1 ≤ (l.foldl Bx.with_ b).x1 ∧ b.y1 ≤ (l.foldl Bx.with_ b).y1
  | [], b => ⟨Int.le_refl _, Int.le_refl _, Int.le_refl _, Int.le_refl _⟩
  | c :: l, b => by
    have h1 := fold_le l (b.with_ c)
    have h2 := with_le b c
    rw [List.foldl_cons]
    omega
theorem fold_has : ∀ (l : List Cel) (b : Bx) {c : Cel}, c ∈ l → c ∈ boxCells (l.foldl Bx.with_ b)
  | d :: l, b, c, h => by
    rw [List.foldl_cons]
    rcases List.mem_cons.1 h with rfl | h
    · have h1 := fold_le l (b.with_ c)
      have h2 := with_le b c
      rw [mem_box]
      omega
    · exact fold_has l _ h
theorem box_has {l : List Cel} {c : Cel} (h : c ∈ l) : c ∈ boxCells (boxL l) := fold_has l _ h
/-- a box stays in what has its cells -/
theorem fold_in {X0 Y0 X1 Y1 : Int} : ∀ (l : List Cel) (b : Bx), (X0 ≤ b.x0 ∧ Y0 ≤ b.y0 ∧ b.x1 ≤ X1 ∧ b.y1 ≤ Y1) → (∀ c ∈ l, X0 ≤ c.1 ∧ c.1 ≤ X1 ∧ Y0 ≤ c.2 ∧ c.2 ≤ Y1) → X0 ≤ (l.foldl Bx.with_ b).x0 ∧ Y0 ≤ (l.foldl Bx.with_ b).y0 ∧ (l.foldl Bx.with_ b).x1 ≤ X1 ∧ (l.foldl Bx.with_ b).y1 ≤ Y1
  | [], _, h, _ => h
  | c :: l, b, h, hl => by
    rw [List.foldl_cons]
    refine fold_in l _ ?_ fun d hd => hl d (by simp [hd])
    have := hl c (by simp)
    unfold Bx.with_
    simp only
    omega
/-- the cells of a box come once -/
theorem row_nodup (x0 : Int) (n : Nat) (y : Int) : (rowL x0 n y).Nodup := by
  unfold rowL
  rw [List.nodup_iff_pairwise_ne, List.pairwise_map]
  refine List.Pairwise.imp (R := fun a b => a ≠ b) ?_ (List.nodup_iff_pairwise_ne.1 List.nodup_range)
  intro a b hab h
  injection h with h1 h2
  omega
theorem flat_nodup {f : Nat → List Cel} (hf : ∀ j, (f j).Nodup) (hd : ∀ i j c, c ∈ f i → c ∈ f j → i = j) : ∀ {l : List Nat}, l.Nodup → (l.flatMap f).Nodup
  | [], _ => by simp
  | a :: l, h => by
    obtain ⟨h1, h2⟩ := List.nodup_cons.1 h
    rw [List.flatMap_cons, List.nodup_append]
    refine ⟨hf a, flat_nodup hf hd h2, fun x hx y hy e => ?_⟩
    subst e
    obtain ⟨b, hb, hxb⟩ := List.mem_flatMap.1 hy
    have := hd _ _ _ hx hxb
    subst this
    exact h1 hb
theorem boxCells_nodup (b : Bx) : (boxCells b).Nodup := by
  unfold boxCells
  refine flat_nodup (fun j => row_nodup _ _ _) (fun i j c hi hj => ?_) List.nodup_range
  rw [mem_row] at hi hj
  omega
/-- as many as -/
theorem nodup_eq {l m : List Cel} (hl : l.Nodup) (hm : m.Nodup) (h : ∀ c, c ∈ l ↔ c ∈ m) : l.length = m.length :=
  Nat.le_antisymm (nodup_len l m hl fun c hc => (h c).1 hc) (nodup_len m l hm fun c hc => (h c).2 hc)
/-- no usable cell: no parts -/
theorem partsL_nil {us : Cel → Bool} (w h n : Nat) (hus : ∀ c, us c = false) : partsL us w h n = [] := by
  unfold partsL
  have : ∀ cs : List Cel, cs.foldl (partStep us n) ([], []) = ([], []) := by
    intro cs
    induction cs with
    | nil => rfl
    | cons c cs ih =>
      rw [List.foldl_cons]
      rw [show partStep us n ([], []) c = ([], []) from by unfold partStep; rw [hus c]; rfl]
      exact ih
  rw [this]
end Go.Proofs.YtmgofdgbenfjmaaDoor
