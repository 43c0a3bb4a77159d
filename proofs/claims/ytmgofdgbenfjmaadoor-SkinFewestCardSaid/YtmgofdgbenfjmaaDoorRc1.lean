/- Texts joined: Rc, Tr. Conditions: see each. -/
import Derived.Test.YtmgofdgbenfjmaaDoorTu1
import Derived.Test.YtmgofdgbenfjmaaDoorPs
namespace Go.Proofs.YtmgofdgbenfjmaaDoor
open Go.RowKit

/-- a rectangle x, y, a wide, b high -/
def RcOk (x y a b : Int) : Prop := 1 ≤ a ∧ 1 ≤ b ∧ 0 ≤ x ∧ 0 ≤ y
instance (x y a b : Int) : Decidable (RcOk x y a b) := by unfold RcOk; infer_instance
/-- it lies within w and h -/
def RcIn (x y a b w h : Int) : Prop := a ≤ w ∧ x ≤ w - a ∧ b ≤ h ∧ y ≤ h - b
instance (x y a b w h : Int) : Decidable (RcIn x y a b w h) := by unfold RcIn; infer_instance
set_option maxRecDepth 100000 in
set_option maxHeartbeats 4000000 in
theorem rrect_any (x y a b : Int) (w : World) : Calls Tryd.prog 23 #[.agg #[.int .i64 x, .int .i64 y, .int .i64 a, .int .i64 b]] w fun e w' => e = .returned (.bool (decide (RcOk x y a b))) ∧ Below w.heap.size w w' := by
  by_cases h0 : 1 ≤ a
  · by_cases h1 : 1 ≤ b
    · by_cases h2 : 0 ≤ x
      · by_cases h3 : 0 ≤ y
        · rw [decide_eq_true (show RcOk x y a b from ⟨h0, h1, h2, h3⟩)]
          go_enter Tryd.func23, Tryd.ntmps23
          go_wp2
          go_ret
          exact ⟨rfl, ext_alloc _ _⟩
        · rw [decide_eq_false (show ¬ (RcOk x y a b) from fun h => h3 h.2.2.2)]
          go_enter Tryd.func23, Tryd.ntmps23
          go_wp2
          go_ret
          exact ⟨rfl, ext_alloc _ _⟩
      · rw [decide_eq_false (show ¬ (RcOk x y a b) from fun h => h2 h.2.2.1)]
        go_enter Tryd.func23, Tryd.ntmps23
        go_wp2
        go_ret
        exact ⟨rfl, ext_alloc _ _⟩
    · rw [decide_eq_false (show ¬ (RcOk x y a b) from fun h => h1 h.2.1)]
      go_enter Tryd.func23, Tryd.ntmps23
      go_wp2
      go_ret
      exact ⟨rfl, ext_alloc _ _⟩
  · rw [decide_eq_false (show ¬ (RcOk x y a b) from fun h => h0 h.1)]
    go_enter Tryd.func23, Tryd.ntmps23
    go_wp2
    go_ret
    exact ⟨rfl, ext_alloc _ _⟩
set_option maxRecDepth 100000 in
set_option maxHeartbeats 4000000 in
theorem inside_any (x y a b w h : Int) (W : World) (ha : 1 ≤ a) (hb : 1 ≤ b) (hw : 0 ≤ w ∧ w ≤ 1000) (hh : 0 ≤ h ∧ h ≤ 1000) : Calls Tryd.prog 93 #[.agg #[.int .i64 x, .int .i64 y, .int .i64 a, .int .i64 b], .int .i64 w, .int .i64 h] W fun e w' => e = .returned (.bool (decide (RcIn x y a b w h))) ∧ Below W.heap.size W w' := by
  obtain ⟨w1, w2⟩ := hw
  obtain ⟨v1, v2⟩ := hh
  by_cases h0 : a ≤ w
  · by_cases h1 : x ≤ w - a
    · by_cases h2 : b ≤ h
      · by_cases h3 : y ≤ h - b
        · rw [decide_eq_true (show RcIn x y a b w h from ⟨h0, h1, h2, h3⟩)]
          go_enter Tryd.func93, Tryd.ntmps93
          go_wp2
          go_ret
          exact ⟨rfl, ext_alloc _ _⟩
        · rw [decide_eq_false (show ¬ (RcIn x y a b w h) from fun h => h3 h.2.2.2)]
          go_enter Tryd.func93, Tryd.ntmps93
          go_wp2
          go_ret
          exact ⟨rfl, ext_alloc _ _⟩
      · rw [decide_eq_false (show ¬ (RcIn x y a b w h) from fun h => h2 h.2.2.1)]
        go_enter Tryd.func93, Tryd.ntmps93
        go_wp2
        go_ret
        exact ⟨rfl, ext_alloc _ _⟩
    · rw [decide_eq_false (show ¬ (RcIn x y a b w h) from fun h => h1 h.2.1)]
      go_enter Tryd.func93, Tryd.ntmps93
      go_wp2
      go_ret
      exact ⟨rfl, ext_alloc _ _⟩
  · rw [decide_eq_false (show ¬ (RcIn x y a b w h) from fun h => h0 h.1)]
    go_enter Tryd.func93, Tryd.ntmps93
    go_wp2
    go_ret
    exact ⟨rfl, ext_alloc _ _⟩
set_option maxRecDepth 100000 in
set_option maxHeartbeats 4000000 in
theorem rlies_any (x y a b w h : Int) (W : World) (ha : 1 ≤ a) (hb : 1 ≤ b) (hw : 0 ≤ w ∧ w ≤ 1000) (hh : 0 ≤ h ∧ h ≤ 1000) : Calls Tryd.prog 24 #[.agg #[.int .i64 x, .int .i64 y, .int .i64 a, .int .i64 b], .int .i64 w, .int .i64 h] W fun e w' => e = .returned (.bool (decide (RcIn x y a b w h))) ∧ Below W.heap.size W w' := by
  obtain ⟨w1, w2⟩ := hw
  obtain ⟨v1, v2⟩ := hh
  by_cases h0 : a ≤ w
  · by_cases h1 : x ≤ w - a
    · by_cases h2 : b ≤ h
      · by_cases h3 : y ≤ h - b
        · rw [decide_eq_true (show RcIn x y a b w h from ⟨h0, h1, h2, h3⟩)]
          go_enter Tryd.func24, Tryd.ntmps24
          go_wp2
          go_ret
          exact ⟨rfl, ext_alloc _ _⟩
        · rw [decide_eq_false (show ¬ (RcIn x y a b w h) from fun h => h3 h.2.2.2)]
          go_enter Tryd.func24, Tryd.ntmps24
          go_wp2
          go_ret
          exact ⟨rfl, ext_alloc _ _⟩
      · rw [decide_eq_false (show ¬ (RcIn x y a b w h) from fun h => h2 h.2.2.1)]
        go_enter Tryd.func24, Tryd.ntmps24
        go_wp2
        go_ret
        exact ⟨rfl, ext_alloc _ _⟩
    · rw [decide_eq_false (show ¬ (RcIn x y a b w h) from fun h => h1 h.2.1)]
      go_enter Tryd.func24, Tryd.ntmps24
      go_wp2
      go_ret
      exact ⟨rfl, ext_alloc _ _⟩
  · rw [decide_eq_false (show ¬ (RcIn x y a b w h) from fun h => h0 h.1)]
    go_enter Tryd.func24, Tryd.ntmps24
    go_wp2
    go_ret
    exact ⟨rfl, ext_alloc _ _⟩
/-- the error of a skin and a rectangle -/
def ftE (l : List ByteArray) (x y a b : Int) : Int := if SkOk l ∧ RcOk x y a b then (if RcIn x y a b (wid l) l.length then 0 else 5) else 2
/-- the usable cells, row by row -/
def uP (l : List ByteArray) (g : Int) (a k : Nat) : List Cel := (boxP (grid l) a k).filter (usb l g)
def uL (l : List ByteArray) (g : Int) : List Cel := (boxCells (grid l)).filter (usb l g)
theorem uP_none (l : List ByteArray) (g : Int) : uP l g 0 0 = [] := by unfold uP; rw [boxP_none]; rfl
theorem uP_cell (l : List ByteArray) (g : Int) (a k : Nat) : uP l g a (k + 1) = uP l g a k ++ if usb l g ((k : Int), (a : Int)) then [((k : Int), (a : Int))] else [] := by
  unfold uP
  rw [boxP_cell, List.filter_append]
  congr 1
  show List.filter (usb l g) [(0 + (k : Int), 0 + (a : Int))] = _
  rw [Int.zero_add, Int.zero_add]
  cases h : usb l g ((k : Int), (a : Int)) <;> simp [h]
theorem uP_row (l : List ByteArray) (g : Int) (a : Nat) : uP l g a (wid l) = uP l g (a + 1) 0 := by
  unfold uP
  have e : (wid l) = ((grid l).x1 + 1 - (grid l).x0).toNat := by unfold grid; simp only; omega
  rw [e, boxP_row]
theorem uP_all (l : List ByteArray) (g : Int) : uP l g l.length 0 = uL l g := by
  unfold uP uL
  have e : l.length = ((grid l).y1 + 1 - (grid l).y0).toNat := by unfold grid; simp only; omega
  rw [e, boxP_all]
theorem uP_len {l : List ByteArray} (g : Int) (hok : SkOk l) {a k : Nat} (ha : a ≤ 48) (hk : k ≤ 48) : (uP l g a k).length ≤ 48 * 48 + 48 := Nat.le_trans (List.length_filter_le _ _) (boxP_len (grid_bx hok) ha hk)
theorem uL_in {l : List ByteArray} {g : Int} (hok : SkOk l) {c : Cel} (h : c ∈ uL l g) : InG c := grid_in hok (List.mem_filter.1 h).1
theorem uP_in {l : List ByteArray} {g : Int} (hok : SkOk l) {a k : Nat} (ha : a ≤ l.length) (hk : k ≤ wid l) (hlk : k = 0 ∨ a < l.length) {c : Cel} (h : c ∈ uP l g a k) : InG c := by
  have h1 := (List.mem_filter.1 h).1
  refine grid_in hok ?_
  rw [mem_box]
  unfold boxP at h1
  rcases List.mem_append.1 h1 with h2 | h2
  · obtain ⟨j, hj, h3⟩ := List.mem_flatMap.1 h2
    rw [mem_row] at h3
    have hj := List.mem_range.1 hj
    unfold grid at h3 ⊢
    simp only at h3 ⊢
    omega
  · rw [mem_row] at h2
    unfold grid at h2 ⊢
    simp only at h2 ⊢
    omega
theorem with_x1 : ∀ (l : List Cel) (b : Bx), b.x1 ≤ (l.foldl Bx.with_ b).x1
  | [], _ => Int.le_refl _
  | c :: l, b => by
    have h := with_x1 l (b.with_ c)
    have h2 : b.x1 ≤ (b.with_ c).x1 := by unfold Bx.with_; simp only; omega
    rw [List.foldl_cons]; omega
theorem boxL_neg {l : List Cel} (hl : ∀ c ∈ l, InG c) : (boxL l).x1 < 0 ↔ l = [] := by
  constructor
  · intro h
    cases l with
    | nil => rfl
    | cons c l =>
      have h1 := with_x1 l (Bx.no.with_ c)
      have h2 := (hl c (by simp)).1
      have h3 : c.1 ≤ (Bx.no.with_ c).x1 := by unfold Bx.with_; simp only; omega
      have h4 : boxL (c :: l) = l.foldl Bx.with_ (Bx.no.with_ c) := rfl
      rw [h4] at h
      omega
  · intro h; rw [h]; decide
/-- the box from the first cell on -/
def oneB (c : Cel) : Bx := ⟨c.1, c.2, c.1, c.2⟩
theorem boxL_one {l : List Cel} (hl : ∀ c ∈ l, InG c) (h : 0 < l.length) : l.foldl Bx.with_ (oneB l[0]) = boxL l := by
  cases l with
  | nil => simp at h
  | cons c l =>
    have h2 := hl c (by simp)
    unfold InG at h2
    show l.foldl Bx.with_ ((oneB c).with_ c) = l.foldl Bx.with_ (Bx.no.with_ c)
    congr 1
    unfold Bx.with_ oneB Bx.no
    simp only [Bx.mk.injEq]
    omega
/-- what Trim answers -/
def RetTr (w : World) (l : List ByteArray) (e : Ending) (w' : World) : Prop :=
  Below w.heap.size w w' ∧ ((¬ SkOk l ∧ e = .returned (.tuple #[.agg #[.int .i64 0, .int .i64 0, .int .i64 0, .int .i64 0], .int .i64 2])) ∨
    (SkOk l ∧ uL l 1 = [] ∧ e = .returned (.tuple #[.agg #[.int .i64 0, .int .i64 0, .int .i64 0, .int .i64 0], .int .i64 7])) ∨
    (SkOk l ∧ uL l 1 ≠ [] ∧ e = .returned (.tuple #[.agg #[.int .i64 (boxL (uL l 1)).x0, .int .i64 (boxL (uL l 1)).y0, .int .i64 ((boxL (uL l 1)).x1 - (boxL (uL l 1)).x0 + 1), .int .i64 ((boxL (uL l 1)).y1 - (boxL (uL l 1)).y0 + 1)], .int .i64 0])))
/-- a slice of cells in a block from base on -/
def DSl (base : Nat) (w : World) (A : Option Addr) (l : List Cel) : Prop :=
  l = [] ∨ ∃ b off, A = some ⟨b, off, none⟩ ∧ base ≤ b ∧ b < w.heap.size ∧ ∀ j (h : j < l.length), w.cell? ⟨b, off + j * 2, none⟩ = some (.int .i64 l[j].1) ∧ w.cell? ⟨b, off + j * 2 + 1, none⟩ = some (.int .i64 l[j].2)
/-- a row of cells of the call's own that grows -/
def Vd (base : Nat) (w : World) (v : Value) (l : List Cel) : Prop := w.ownsRow base 80 2 v l.length (l.flatMap cvs)
theorem Vd.nil (base : Nat) (w : World) : Vd base w (.slice none 0 0) [] := own_nil w base 80 2
theorem Vd.csl {base : Nat} {w : World} {v : Value} {l : List Cel} (h : Vd base w v l) : ∃ A cap, v = .slice A l.length cap ∧ l.length ≤ cap ∧ cap ≤ maxLen ∧ DSl base w A l := by
  obtain ⟨A, cap, hv, h1, h2, h3⟩ := own_cells h
  refine ⟨A, cap, hv, h1, h2, ?_⟩
  rcases h3 with h3 | ⟨g, rfl, hb, hg, hc⟩
  · exact .inl (List.eq_nil_of_length_eq_zero h3)
  · refine .inr ⟨g, 0, rfl, hb, hg, fun j hj => ?_⟩
    have hf : ∀ a : Cel, (cvs a).length = 2 := fun _ => rfl
    refine ⟨?_, ?_⟩
    · rw [Nat.zero_add]
      exact hc (j * 2) _ (by rw [show j * 2 = j * 2 + 0 from rfl, flat_get hf l j 0 hj (by omega)]; rfl)
    · rw [Nat.zero_add]
      exact hc (j * 2 + 1) _ (by rw [flat_get hf l j 1 hj (by omega)]; rfl)
theorem info_pair : (Tryd.prog.info? 80).map (fun i => (i.zero, i.size, i.bytes)) = some (some (.agg #[.int .i64 0, .int .i64 0]), 2, 16) := by kernel_rfl
/-- 'append(l, c)' of one cell -/
theorem wpList_pushD (w : World) {ops : Array Oper} {rest : List Oper} {o : Oper} {a : Act} {Q : Exit → Act → World → Prop} (hgd : o.guard = none) (s x : Operand)
    (ho : o.op = .call { callee := .builtin .append, args := #[s, x], argTypes := #[79, 79] })
    (base : Nat) {v : Value} {l : List Cel} (hown : Vd base w v l) (hs : a.eval s = v)
    {c g : Int} {B : Nat} (hx : a.eval x = .slice (some ⟨B, 0, none⟩) 1 1) (hB : w.heap.size = B) (hn : l.length ≤ 1000000) (hbase : base ≤ w.heap.size)
    (h : ∀ v' w', Vd base w' v' (l ++ [(c, g)]) → Below base w w' → (∀ k, k < w.heap.size → some k ≠ v.ownBlock → w'.heap[k]? = w.heap[k]?) → (∀ k, k < w.heap.size → some k ≠ v.ownBlock → some k ≠ v'.ownBlock) → wpList Tryd.prog ops Q rest (a.put o.dst v') w') :
    wpList Tryd.prog ops Q (o :: rest) a (w.alloc (.cells #[.int .i64 c, .int .i64 g] 80)) := by
  refine wpList_push w hgd s x _ ho base 80 _ 2 16 Tryd.underlying79 info_pair rfl (by decide) hown hs (news := [.int .i64 c, .int .i64 g]) hx hB rfl (by intro x hx; simp at hx; rcases hx with rfl | rfl <;> rfl) (by decide) (by unfold maxLen; omega) (by omega) hbase ?_
  intro v' w' h2 h3 h4 h5 _ _
  refine h v' w' ?_ h3 h4 h5
  have e : l.flatMap cvs ++ [Value.int .i64 c, Value.int .i64 g] = (l ++ [((c, g) : Cel)]).flatMap cvs := by rw [List.flatMap_append]; rfl
  have e2 : (l ++ [((c, g) : Cel)]).length = l.length + 1 := by simp
  unfold Vd
  rw [← e, e2]
  exact h2
def BkB (q : Nat) (b : Bx) (W : World) : Prop := Bk 124 W q #[.int .i64 b.x0, .int .i64 b.y0, .int .i64 b.x1, .int .i64 b.y1]
theorem BkB.put {q : Nat} {b : Bx} {W : World} (h : BkB q b W) (b' : Bx) : BkB q b' ((((W.setCell ⟨q, 0, none⟩ (.int .i64 b'.x0)).setCell ⟨q, 1, none⟩ (.int .i64 b'.y0)).setCell ⟨q, 2, none⟩ (.int .i64 b'.x1)).setCell ⟨q, 3, none⟩ (.int .i64 b'.y1)) := four_set h _ _ _ _
theorem four_ne {T : TypeId} {w : World} {g q : Nat} {cs : Array Value} (h : Bk T w g cs) (hn : g ≠ q) (v0 v1 v2 v3 : Value) : Bk T ((((w.setCell ⟨q, 0, none⟩ v0).setCell ⟨q, 1, none⟩ v1).setCell ⟨q, 2, none⟩ v2).setCell ⟨q, 3, none⟩ v3) g cs :=
  (((h.set_ne hn _).set_ne hn _).set_ne hn _).set_ne hn _
theorem four_b {B : Nat} {a w : World} {q : Nat} (h : Below B a w) (hq : B ≤ q) (v0 v1 v2 v3 : Value) : Below B a ((((w.setCell ⟨q, 0, none⟩ v0).setCell ⟨q, 1, none⟩ v1).setCell ⟨q, 2, none⟩ v2).setCell ⟨q, 3, none⟩ v3) :=
  (((h.setCell hq _).setCell hq _).setCell hq _).setCell hq _
def zR : Array Value := #[.int .i64 0, .int .i64 0, .int .i64 0, .int .i64 0]
end Go.Proofs.YtmgofdgbenfjmaaDoor
