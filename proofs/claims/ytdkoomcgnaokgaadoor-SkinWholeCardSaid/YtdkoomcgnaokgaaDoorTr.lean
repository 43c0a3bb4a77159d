/- Trim walked, the program's and the reference's. Conditions: each string's length is an int. -/
import Derived.Test.YtdkoomcgnaokgaaDoorRc
import Derived.Test.YtdkoomcgnaokgaaDoorPs
namespace Go.Proofs.YtdkoomcgnaokgaaDoor
open Go.RowKit

/-- the usable cells, row by row -/
def uP (l : List ByteArray) (g : Int) (a k : Nat) : List Cel := (boxP (grid l) a k).filter (usb l g)
def uL (l : List ByteArray) (g : Int) : List Cel := (boxCells (grid l)).filter (usb l g)
theorem uP_none (l : List ByteArray) (g : Int) : uP l g 0 0 = [] := by unfold uP; rw [boxP_none]; rfl
theorem uP_cell (l : List ByteArray) (g : Int) (a k : Nat) : uP l g a (k + 1) = uP l g a k ++ if usb l g ((k : Int), (a : Int)) then [((k : Int), (a : Int))] else [] := by
  unfold uP
  rw [boxP_cell, List.filter_append]
  congr 1
  show List.filter (usb l g) [(0 + (k : Int), 0 + (a : Int))] = _
  rw [Int.zero_add, Int.zero_add]
  cases h : usb l g ((k : Int), (a : Int)) <;> simp [h]
theorem uP_row (l : List ByteArray) (g : Int) (a : Nat) : uP l g a (wid l) = uP l g (a + 1) 0 := by
  unfold uP
  have e : (wid l) = ((grid l).x1 + 1 - (grid l).x0).toNat := by unfold grid; simp only; omega
  rw [e, boxP_row]
theorem uP_all (l : List ByteArray) (g : Int) : uP l g l.length 0 = uL l g := by
  unfold uP uL
  have e : l.length = ((grid l).y1 + 1 - (grid l).y0).toNat := by unfold grid; simp only; omega
  rw [e, boxP_all]
theorem uP_len {l : List ByteArray} (g : Int) (hok : SkOk l) {a k : Nat} (ha : a ≤ 48) (hk : k ≤ 48) : (uP l g a k).length ≤ 48 * 48 + 48 := Nat.le_trans (List.length_filter_le _ _) (boxP_len (grid_bx hok) ha hk)
theorem uL_in {l : List ByteArray} {g : Int} (hok : SkOk l) {c : Cel} (h : c ∈ uL l g) : InG c := grid_in hok (List.mem_filter.1 h).1
theorem uP_in {l : List ByteArray} {g : Int} (hok : SkOk l) {a k : Nat} (ha : a ≤ l.length) (hk : k ≤ wid l) (hlk : k = 0 ∨ a < l.length) {c : Cel} (h : c ∈ uP l g a k) : InG c := by
  have h1 := (List.mem_filter.1 h).1
  refine grid_in hok ?_
  rw [mem_box]
  unfold boxP at h1
  rcases List.mem_append.1 h1 with h2 | h2
  · obtain ⟨j, hj, h3⟩ := List.mem_flatMap.1 h2
    rw [mem_row] at h3
    have hj := List.mem_range.1 hj
    unfold grid at h3 ⊢
    simp only at h3 ⊢
    omega
  · rw [mem_row] at h2
    unfold grid at h2 ⊢
    simp only at h2 ⊢
    omega
theorem with_x1 : ∀ (l : List Cel) (b : Bx), b.x1 ≤ (l.foldl Bx.with_ b).x1
  | [], _ => Int.le_refl _
  | c :: l, b => by
    have h := with_x1 l (b.with_ c)
    have h2 : b.x1 ≤ (b.with_ c).x1 := by unfold Bx.with_; simp only; omega
    rw [List.foldl_cons]; omega
theorem boxL_neg {l : List Cel} (hl : ∀ c ∈ l, InG c) : (boxL l).x1 < 0 ↔ l = [] := by
  constructor
  · intro h
    cases l with
    | nil => rfl
    | cons c l =>
      have h1 := with_x1 l (Bx.no.with_ c)
      have h2 := (hl c (by simp)).1
      have h3 : c.1 ≤ (Bx.no.with_ c).x1 := by unfold Bx.with_; simp only; omega
      have h4 : boxL (c :: l) = l.foldl Bx.with_ (Bx.no.with_ c) := rfl
      rw [h4] at h
      omega
  · intro h; rw [h]; decide
/-- the box from the first cell on -/
def oneB (c : Cel) : Bx := ⟨c.1, c.2, c.1, c.2⟩
theorem boxL_one {l : List Cel} (hl : ∀ c ∈ l, InG c) (h : 0 < l.length) : l.foldl Bx.with_ (oneB l[0]) = boxL l := by
  cases l with
  | nil => simp at h
  | cons c l =>
    have h2 := hl c (by simp)
    unfold InG at h2
    show l.foldl Bx.with_ ((oneB c).with_ c) = l.foldl Bx.with_ (Bx.no.with_ c)
    congr 1
    unfold Bx.with_ oneB Bx.no
    simp only [Bx.mk.injEq]
    omega
/-- what Trim answers -/
def RetTr (w : World) (l : List ByteArray) (e : Ending) (w' : World) : Prop :=
  Below w.heap.size w w' ∧ ((¬ SkOk l ∧ e = .returned (.tuple #[.agg #[.int .i64 0, .int .i64 0, .int .i64 0, .int .i64 0], .int .i64 2])) ∨
    (SkOk l ∧ uL l 1 = [] ∧ e = .returned (.tuple #[.agg #[.int .i64 0, .int .i64 0, .int .i64 0, .int .i64 0], .int .i64 7])) ∨
    (SkOk l ∧ uL l 1 ≠ [] ∧ e = .returned (.tuple #[.agg #[.int .i64 (boxL (uL l 1)).x0, .int .i64 (boxL (uL l 1)).y0, .int .i64 ((boxL (uL l 1)).x1 - (boxL (uL l 1)).x0 + 1), .int .i64 ((boxL (uL l 1)).y1 - (boxL (uL l 1)).y0 + 1)], .int .i64 0])))
/-- a slice of cells in a block from base on -/
def DSl (base : Nat) (w : World) (A : Option Addr) (l : List Cel) : Prop :=
  l = [] ∨ ∃ b off, A = some ⟨b, off, none⟩ ∧ base ≤ b ∧ b < w.heap.size ∧ ∀ j (h : j < l.length), w.cell? ⟨b, off + j * 2, none⟩ = some (.int .i64 l[j].1) ∧ w.cell? ⟨b, off + j * 2 + 1, none⟩ = some (.int .i64 l[j].2)
/-- a row of cells of the call's own that grows -/
def Vd (base : Nat) (w : World) (v : Value) (l : List Cel) : Prop := w.ownsRow base 80 2 v l.length (l.flatMap cvs)
theorem Vd.nil (base : Nat) (w : World) : Vd base w (.slice none 0 0) [] := own_nil w base 80 2
theorem Vd.csl {base : Nat} {w : World} {v : Value} {l : List Cel} (h : Vd base w v l) : ∃ A cap, v = .slice A l.length cap ∧ l.length ≤ cap ∧ cap ≤ maxLen ∧ DSl base w A l := by
  obtain ⟨A, cap, hv, h1, h2, h3⟩ := own_cells h
  refine ⟨A, cap, hv, h1, h2, ?_⟩
  rcases h3 with h3 | ⟨g, rfl, hb, hg, hc⟩
  · exact .inl (List.eq_nil_of_length_eq_zero h3)
  · refine .inr ⟨g, 0, rfl, hb, hg, fun j hj => ?_⟩
    have hf : ∀ a : Cel, (cvs a).length = 2 := fun _ => rfl
    refine ⟨?_, ?_⟩
    · rw [Nat.zero_add]
      exact hc (j * 2) _ (by rw [show j * 2 = j * 2 + 0 from rfl, flat_get hf l j 0 hj (by omega)]; rfl)
    · rw [Nat.zero_add]
      exact hc (j * 2 + 1) _ (by rw [flat_get hf l j 1 hj (by omega)]; rfl)
theorem info_pair : (Tryd.prog.info? 80).map (fun i => (i.zero, i.size, i.bytes)) = some (some (.agg #[.int .i64 0, .int .i64 0]), 2, 16) := by kernel_rfl
/-- 'append(l, c)' of one cell -/
theorem wpList_pushD (w : World) {ops : Array Oper} {rest : List Oper} {o : Oper} {a : Act} {Q : Exit → Act → World → Prop} (hgd : o.guard = none) (s x : Operand)
    (ho : o.op = .call { callee := .builtin .append, args := #[s, x], argTypes := #[79, 79] })
    (base : Nat) {v : Value} {l : List Cel} (hown : Vd base w v l) (hs : a.eval s = v)
    {c g : Int} {B : Nat} (hx : a.eval x = .slice (some ⟨B, 0, none⟩) 1 1) (hB : w.heap.size = B) (hn : l.length ≤ 1000000) (hbase : base ≤ w.heap.size)
    (h : ∀ v' w', Vd base w' v' (l ++ [(c, g)]) → Below base w w' → (∀ k, k < w.heap.size → some k ≠ v.ownBlock → w'.heap[k]? = w.heap[k]?) → (∀ k, k < w.heap.size → some k ≠ v.ownBlock → some k ≠ v'.ownBlock) → wpList Tryd.prog ops Q rest (a.put o.dst v') w') :
    wpList Tryd.prog ops Q (o :: rest) a (w.alloc (.cells #[.int .i64 c, .int .i64 g] 80)) := by
  refine wpList_push w hgd s x _ ho base 80 _ 2 16 Tryd.underlying79 info_pair rfl (by decide) hown hs (news := [.int .i64 c, .int .i64 g]) hx hB rfl (by intro x hx; simp at hx; rcases hx with rfl | rfl <;> rfl) (by decide) (by unfold maxLen; omega) (by omega) hbase ?_
  intro v' w' h2 h3 h4 h5 _ _
  refine h v' w' ?_ h3 h4 h5
  have e : l.flatMap cvs ++ [Value.int .i64 c, Value.int .i64 g] = (l ++ [((c, g) : Cel)]).flatMap cvs := by rw [List.flatMap_append]; rfl
  have e2 : (l ++ [((c, g) : Cel)]).length = l.length + 1 := by simp
  unfold Vd
  rw [← e, e2]
  exact h2
def BkB (q : Nat) (b : Bx) (W : World) : Prop := Bk 97 W q #[.int .i64 b.x0, .int .i64 b.y0, .int .i64 b.x1, .int .i64 b.y1]
theorem BkB.put {q : Nat} {b : Bx} {W : World} (h : BkB q b W) (b' : Bx) : BkB q b' ((((W.setCell ⟨q, 0, none⟩ (.int .i64 b'.x0)).setCell ⟨q, 1, none⟩ (.int .i64 b'.y0)).setCell ⟨q, 2, none⟩ (.int .i64 b'.x1)).setCell ⟨q, 3, none⟩ (.int .i64 b'.y1)) := four_set h _ _ _ _
theorem four_ne {T : TypeId} {w : World} {g q : Nat} {cs : Array Value} (h : Bk T w g cs) (hn : g ≠ q) (v0 v1 v2 v3 : Value) : Bk T ((((w.setCell ⟨q, 0, none⟩ v0).setCell ⟨q, 1, none⟩ v1).setCell ⟨q, 2, none⟩ v2).setCell ⟨q, 3, none⟩ v3) g cs :=
  (((h.set_ne hn _).set_ne hn _).set_ne hn _).set_ne hn _
theorem four_b {B : Nat} {a w : World} {q : Nat} (h : Below B a w) (hq : B ≤ q) (v0 v1 v2 v3 : Value) : Below B a ((((w.setCell ⟨q, 0, none⟩ v0).setCell ⟨q, 1, none⟩ v1).setCell ⟨q, 2, none⟩ v2).setCell ⟨q, 3, none⟩ v3) :=
  (((h.setCell hq _).setCell hq _).setCell hq _).setCell hq _
def zR : Array Value := #[.int .i64 0, .int .i64 0, .int .i64 0, .int .i64 0]
set_option maxRecDepth 100000 in
set_option maxHeartbeats 4000000 in
theorem trim_any' (A : Option Addr) (cap : Nat) (l : List ByteArray) (w : World) (hc : l.length ≤ cap) (hcm : cap ≤ 9223372036854775807) (h : TSl w A l) (hz : TSz l) :
    Calls Tryd.prog 43 #[.slice A l.length cap] w (RetTr w l) := by
  have hx0 := ext_alloc w (.cells #[.int .i64 0, .int .i64 0, .int .i64 0, .int .i64 0] 31)
  have HX0 := Lib.hid hx0
  have HZ0 := Lib.hid (Bk.new 31 w #[.int .i64 0, .int .i64 0, .int .i64 0, .int .i64 0])
  have HV := Lib.hid (valid_any A cap l _ hc hcm (h.ext hx0) hz)
  by_cases hok : SkOk l
  · rw [decide_eq_true hok] at HV
    have HOK := Lib.hid hok
    have HGR := Lib.hid (fun x y W (hW : Below w.heap.size w W) => grade_any A cap l x y W hok (h.ext hW))
    have hl48 := hok.2.1
    rcases h with h0 | ⟨b, off, rfl, hlt, hcl⟩
    · have h1 := hok.1; rw [h0] at h1; simp at h1
    have HC := Lib.hid (show ∀ W, Below w.heap.size w W → b < W.heap.size ∧ ∀ j (hj : j < l.length), W.cell? ⟨b, off + j, none⟩ = some (.string l[j]) from fun W hW => ⟨Nat.lt_of_lt_of_le hlt hW.size, fun j hj => (hW.cell (p := ⟨b, off + j, none⟩) hlt).trans (hcl j hj)⟩)
    clear hok hcl hlt hx0 hz
    go_enter Tryd.func43, Tryd.ntmps43
    go_upto_region 4 with (first
      | (go_at_call 25; refine (HV.out).mono ?_; rintro e w1 ⟨rfl, hx1⟩)
      | (go_at_call 74; refine (nowhere_any _).mono ?_; rintro e w2 ⟨rfl, hx2⟩))
    have hx3 := ext_alloc w2 (.cells #[.int .i64 48, .int .i64 48, .int .i64 (-1), .int .i64 (-1)] 97)
    have HQ0 := Lib.hid (show BkB w2.heap.size Bx.no (w2.alloc (.cells #[.int .i64 48, .int .i64 48, .int .i64 (-1), .int .i64 (-1)] 97)) from Bk.new _ _ _)
    have HR0 := Lib.hid (((HZ0.out.ext hx1).ext hx2).ext hx3)
    have HX3 := Lib.hid (ext_trans (ext_trans (ext_trans HX0.out hx1) hx2) hx3)
    obtain ⟨q, hq⟩ : ∃ q, q = w2.heap.size := ⟨_, rfl⟩
    have hqw : w.heap.size < q := by have := ((HZ0.out.ext hx1).ext hx2).lt; omega
    obtain ⟨X, hX⟩ : ∃ X, X = w2.alloc (.cells #[.int .i64 48, .int .i64 48, .int .i64 (-1), .int .i64 (-1)] 97) := ⟨_, rfl⟩
    rw [← hq, ← hX]
    rw [← hq, ← hX] at HQ0
    rw [← hX] at HR0 HX3
    clear hq hX hx1 hx2 hx3
    go_upto_block 0 with (fail)
    go_cut [15] (fun z wx => BkB q (boxL (uL l 1)) wx ∧ Bk 31 wx w.heap.size #[.int .i64 0, .int .i64 0, .int .i64 0, .int .i64 0] ∧ Below w.heap.size w wx)
    case first =>
      go_wp2_with (fail)
      go_loopg [15] l.length (fun gg i wr => ∃ a : Nat, i = .int .i64 a ∧ a ≤ l.length ∧ gg = l.length - a ∧ BkB q (boxL (uP l 1 a 0)) wr ∧ Bk 31 wr w.heap.size #[.int .i64 0, .int .i64 0, .int .i64 0, .int .i64 0] ∧ Below w.heap.size w wr)
      case atStart => exact ⟨0, rfl, by omega, by omega, by rw [uP_none]; exact HQ0.out, HR0.out, HX3.out⟩
      case round =>
        obtain ⟨a, rfl, ha, hg, hq, hr, hb⟩ := hrel
        have HG := Lib.hid hg
        have HQ := Lib.hid hq
        have HR := Lib.hid hr
        have HB := Lib.hid hb
        clear hg hq hr hb HQ0 HR0 HX3
        by_cases hlt : a < l.length
        · obtain ⟨hblt, hcl⟩ := HC.out _ HB.out
          have c1 := hcl a hlt
          have hrs := (HOK.out.row hlt).1
          have hw48 := HOK.out.2.2.2.1
          obtain ⟨r, hr⟩ : ∃ r, r = l[a] := ⟨_, rfl⟩
          rw [← hr] at c1 hrs
          clear hcl hr
          go_upto_region 8 with (fail)
          obtain ⟨n, hn⟩ : ∃ n, n = wid l := ⟨_, rfl⟩
          rw [← hn]
          have HN := Lib.hid hn
          rw [← hn] at hw48
          have HLT := Lib.hid hlt
          have ha48 : (a : Int) ≤ 47 := by omega
          clear hrs hn c1 hblt
          go_loopg [22] n (fun gg i wr => ∃ k : Nat, i = .int .i64 k ∧ k ≤ n ∧ gg = n - k ∧ BkB q (boxL (uP l 1 a k)) wr ∧ Bk 31 wr w.heap.size #[.int .i64 0, .int .i64 0, .int .i64 0, .int .i64 0] ∧ Below w.heap.size w wr)
          case atStart => exact ⟨0, rfl, by omega, by omega, HQ.out, HR.out, HB.out⟩
          case round =>
            obtain ⟨k, rfl, hk, hg2, hq2, hr2, hb2⟩ := hrel
            have HG2 := Lib.hid hg2
            have HQ2 := Lib.hid hq2
            have HR2 := Lib.hid hr2
            have HB2 := Lib.hid hb2
            clear hg2 hq2 hr2 hb2 HQ HR HB
            by_cases hkn : k < n
            · have HGC := Lib.hid (HGR.out (k : Int) (a : Int) wr HB2.out)
              have HUC := Lib.hid (uP_cell l 1 a k)
              cases hus : usb l 1 ((k : Int), (a : Int))
              · have HE := Lib.hid (show uP l 1 a (k + 1) = uP l 1 a k from by rw [HUC.out, hus]; simp)
                have hz0 : ¬ 0 < gr l (k : Int) (a : Int) := by
                  unfold usb at hus
                  simp only [decide_eq_false_iff_not] at hus
                  omega
                obtain ⟨z, hz⟩ : ∃ z, z = gr l (k : Int) (a : Int) := ⟨_, rfl⟩
                rw [← hz] at HGC hz0
                clear hus hz
                go_wp2_with (go_at_call 48; refine (HGC.out).mono ?_; rintro e w9 ⟨rfl, rfl⟩)
                go_roundg (n - (k + 1))
                case measure => have := HG2.out; omega
                case rel => exact ⟨k + 1, by go_num, by omega, rfl, by rw [HE.out]; exact HQ2.out, HR2.out, HB2.out⟩
              · have HE := Lib.hid (show boxL (uP l 1 a (k + 1)) = (boxL (uP l 1 a k)).with_ ((k : Int), (a : Int)) from by
                  rw [HUC.out, hus, if_pos rfl]; unfold boxL; rw [List.foldl_append]; rfl)
                have hz0 : 0 < gr l (k : Int) (a : Int) := by
                  unfold usb at hus
                  simp only [decide_eq_true_eq] at hus
                  omega
                obtain ⟨z, hz⟩ : ∃ z, z = gr l (k : Int) (a : Int) := ⟨_, rfl⟩
                rw [← hz] at HGC hz0
                clear hus hz
                obtain ⟨bb, hbb⟩ : ∃ bb, bb = boxL (uP l 1 a k) := ⟨_, rfl⟩
                rw [← hbb] at HQ2 HE
                clear hbb
                obtain ⟨x0, y0, x1, y1⟩ := bb
                obtain ⟨q1, q2, q3⟩ := Bk.facts (show Bk 97 wr q #[.int .i64 x0, .int .i64 y0, .int .i64 x1, .int .i64 y1] from HQ2.out)
                go_wp2_with (first
                  | (go_at_call 48; refine (HGC.out).mono ?_; rintro e w9 ⟨rfl, rfl⟩)
                  | (go_at_call 75; refine (with_any _ _ _ _ _ _ _).mono ?_; rintro e w11 ⟨rfl, hx11⟩; have HQ11 := Lib.hid (show BkB q ⟨x0, y0, x1, y1⟩ w11 from Bk.ext HQ2.out hx11); have HR11 := Lib.hid (HR2.out.ext hx11); have HB11 := Lib.hid (bext HB2.out hx11 HB2.out.size); clear hx11 q1 q2 q3; obtain ⟨q1, q2, q3⟩ := Bk.facts (show Bk 97 w11 q #[.int .i64 x0, .int .i64 y0, .int .i64 x1, .int .i64 y1] from HQ11.out)))
                go_roundg (n - (k + 1))
                case measure => have := HG2.out; omega
                case rel => exact ⟨k + 1, by go_num, by omega, rfl, by rw [HE.out]; exact HQ11.out.put _, four_ne HR11.out (by omega) _ _ _ _, four_b HB11.out (by omega) _ _ _ _⟩
            · have HE := Lib.hid (show uP l 1 a k = uP l 1 (a + 1) 0 from by rw [show k = wid l by have := HN.out; omega]; exact uP_row l 1 a)
              obtain rfl : k = n := by omega
              go_wp2
              go_roundg (l.length - (a + 1))
              case measure => have := HG.out; have := HLT.out; omega
              case rel => exact ⟨a + 1, by go_num, by have := HLT.out; omega, rfl, by rw [← HE.out]; exact HQ2.out, HR2.out, HB2.out⟩
        · obtain rfl : a = l.length := by omega
          go_wp2
          go_meet
          case rel => rw [← uP_all]; exact ⟨HQ.out, HR.out, HB.out⟩
    case rest =>
      obtain ⟨hq, hr, hb⟩ := hcut
      have HQ := Lib.hid hq
      have HR := Lib.hid hr
      have HB := Lib.hid hb
      have HIN := Lib.hid (fun c (hc : c ∈ uL l 1) => uL_in HOK.out hc)
      have hbi := bxIn_box HIN.out
      have HNG := Lib.hid (boxL_neg HIN.out)
      obtain ⟨bb, hbb⟩ : ∃ bb, bb = boxL (uL l 1) := ⟨_, rfl⟩
      have HBB := Lib.hid hbb
      rw [← hbb] at HQ hbi HNG
      clear hq hr hb hbb
      obtain ⟨x0, y0, x1, y1⟩ := bb
      obtain ⟨i1, i2, i3, i4, i5, i6, i7, i8⟩ := hbi
      dsimp only at i1 i2 i3 i4 i5 i6 i7 i8
      obtain ⟨q1, q2, q3⟩ := Bk.facts (show Bk 97 wc q #[.int .i64 x0, .int .i64 y0, .int .i64 x1, .int .i64 y1] from HQ.out)
      obtain ⟨r1, r2, r3⟩ := HR.out.facts
      by_cases hneg : x1 < 0
      · have HU := Lib.hid (HNG.out.1 hneg)
        have hs := four_set HR.out (.int .i64 0) (.int .i64 0) (.int .i64 0) (.int .i64 0)
        have HS := Lib.hid hs
        have HS2 := Lib.hid (four_b HB.out (Nat.le_refl _) (.int .i64 0) (.int .i64 0) (.int .i64 0) (.int .i64 0))
        clear hs
        go_wp2
        have p1 := HS.out.facts.1
        refine bodyPost_ret (v := .tuple #[.agg #[.int .i64 0, .int .i64 0, .int .i64 0, .int .i64 0], .int .i64 7]) (by simp [results, Tryd.results43, go_sem, p1]) rfl ?_
        exact ⟨HS2.out, .inr (.inl ⟨HOK.out, HU.out, rfl⟩)⟩
      · have HU := Lib.hid (show uL l 1 ≠ [] from fun h => hneg (HNG.out.2 h))
        go_wp2_with (go_at_call 76; refine (rect_any _ _ _ _ _ ⟨by omega, by omega⟩ ⟨by omega, by omega⟩ ⟨by omega, by omega⟩ ⟨by omega, by omega⟩).mono ?_; rintro e w5 ⟨rfl, hx5⟩; have HR5 := Lib.hid (HR.out.ext hx5); have HB5 := Lib.hid (bext HB.out hx5 HB.out.size); clear hx5 r1 r2 r3; obtain ⟨r1, r2, r3⟩ := HR5.out.facts)
        have hs := four_set HR5.out (.int .i64 x0) (.int .i64 y0) (.int .i64 (x1 - x0 + 1)) (.int .i64 (y1 - y0 + 1))
        have p1 := hs.facts.1
        refine bodyPost_ret (v := .tuple #[.agg #[.int .i64 x0, .int .i64 y0, .int .i64 (x1 - x0 + 1), .int .i64 (y1 - y0 + 1)], .int .i64 0]) (by simp [results, Tryd.results43, go_sem, p1]) rfl ?_
        exact ⟨four_b HB5.out (Nat.le_refl _) _ _ _ _, .inr (.inr ⟨HOK.out, HU.out, by rw [← HBB.out]⟩)⟩
  · rw [decide_eq_false hok] at HV
    have HOK := Lib.hid hok
    clear hok h hz hx0
    go_enter Tryd.func43, Tryd.ntmps43
    go_wp2_with (go_at_call 25; refine (HV.out).mono ?_; rintro e w1 ⟨rfl, hx1⟩; have HR5 := Lib.hid (HZ0.out.ext hx1); have HB5 := Lib.hid (bext HX0.out hx1 HX0.out.size); clear hx1; obtain ⟨r1, r2, r3⟩ := HR5.out.facts)
    have hs := four_set HR5.out (.int .i64 0) (.int .i64 0) (.int .i64 0) (.int .i64 0)
    have p1 := hs.facts.1
    refine bodyPost_ret (v := .tuple #[.agg #[.int .i64 0, .int .i64 0, .int .i64 0, .int .i64 0], .int .i64 2]) (by simp [results, Tryd.results43, go_sem, p1]) rfl ?_
    exact ⟨four_b HB5.out (Nat.le_refl _) _ _ _ _, .inl ⟨HOK.out, rfl⟩⟩
end Go.Proofs.YtdkoomcgnaokgaaDoor
