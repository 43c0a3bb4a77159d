/- SkinNobody walked. No conditions. -/
import Derived.Test.YtdkoomcgnaokgaaDoorAw
namespace Go.Proofs.YtdkoomcgnaokgaaDoor
open Go.RowKit

set_option maxRecDepth 100000 in
set_option maxHeartbeats 4000000 in
theorem count_nil (x y a b : Int) (w : World) : Calls Tryd.prog 15 #[.pointer none, .agg #[.int .i64 x, .int .i64 y, .int .i64 a, .int .i64 b]] w fun e w' => e = .returned (.tuple #[.int .i64 0, .int .i64 1]) ∧ Below w.heap.size w w' := by
  go_enter Tryd.func15, Tryd.ntmps15
  go_wp2
  go_ret2
  exact ⟨rfl, ext_alloc _ _⟩
theorem nil_is (W : World) : (binOp .eql 38 (.slice none 0 0) (.slice none 0 0)).run Tryd.prog W = .ok (.bool true) W := by kernel_rfl
set_option maxRecDepth 100000 in
set_option maxHeartbeats 4000000 in
theorem count_zero (x y a b : Int) (p : Nat) (w : World) (h : Bk 40 w p #[.int .i64 0, .int .i64 0, .slice none 0 0]) : Calls Tryd.prog 15 #[.pointer (some ⟨p, 0, none⟩), .agg #[.int .i64 x, .int .i64 y, .int .i64 a, .int .i64 b]] w fun e w' => e = .returned (.tuple #[.int .i64 0, .int .i64 1]) ∧ Below w.heap.size w w' := by
  obtain ⟨f1, f2, f3⟩ := (h.alloc (.cells #[.int .i64 x, .int .i64 y, .int .i64 a, .int .i64 b] 31)).facts
  have hnn := nil_is
  go_enter Tryd.func15, Tryd.ntmps15
  go_wp2
  go_ret2
  exact ⟨rfl, ext_alloc _ _⟩
set_option maxRecDepth 100000 in
set_option maxHeartbeats 4000000 in
theorem law_nobody (x y a b : Int) (w : World) : Calls Tryd.prog 4 #[.agg #[.int .i64 x, .int .i64 y, .int .i64 a, .int .i64 b]] w fun e w' => e = .returned (.bool true) ∧ Below w.heap.size w w' := by
  have hb0 := Bk.new 31 w #[.int .i64 x, .int .i64 y, .int .i64 a, .int .i64 b]
  have hb1 := Bk.new 40 (w.alloc (.cells #[.int .i64 x, .int .i64 y, .int .i64 a, .int .i64 b] 31)) #[.int .i64 0, .int .i64 0, .slice none 0 0]
  have hb2 := Bk.new 37 ((w.alloc (.cells #[.int .i64 x, .int .i64 y, .int .i64 a, .int .i64 b] 31)).alloc (.cells #[.int .i64 0, .int .i64 0, .slice none 0 0] 40)) #[.pointer none, .pointer (some ⟨w.heap.size + 1, 0, none⟩)]
  simp only [World.size_alloc] at hb1 hb2
  have HB0 := Lib.hid ((hb0.alloc (.cells #[.int .i64 0, .int .i64 0, .slice none 0 0] 40)).alloc (.cells #[.pointer none, .pointer (some ⟨w.heap.size + 1, 0, none⟩)] 37))
  have HB1 := Lib.hid (hb1.alloc (.cells #[.pointer none, .pointer (some ⟨w.heap.size + 1, 0, none⟩)] 37))
  have HB2 := Lib.hid hb2
  have HX := Lib.hid (ext_trans (ext_trans (ext_alloc w (.cells #[.int .i64 x, .int .i64 y, .int .i64 a, .int .i64 b] 31)) (ext_alloc _ (.cells #[.int .i64 0, .int .i64 0, .slice none 0 0] 40))) (ext_alloc _ (.cells #[.pointer none, .pointer (some ⟨w.heap.size + 1, 0, none⟩)] 37)))
  clear hb0 hb1 hb2
  go_enter Tryd.func4, Tryd.ntmps4
  go_wp2
  go_loopg [11] 2 (fun g i wr => ∃ k : Nat, i = .int .i64 k ∧ k ≤ 2 ∧ g = 2 - k ∧ Below w.heap.size w wr ∧ Bk 31 wr w.heap.size #[.int .i64 x, .int .i64 y, .int .i64 a, .int .i64 b] ∧ Bk 40 wr (w.heap.size + 1) #[.int .i64 0, .int .i64 0, .slice none 0 0] ∧ Bk 37 wr (w.heap.size + 1 + 1) #[.pointer none, .pointer (some ⟨w.heap.size + 1, 0, none⟩)])
  case atStart => exact ⟨0, rfl, by omega, by omega, HX.out, HB0.out, HB1.out, HB2.out⟩
  case round =>
    obtain ⟨k, rfl, hk, hg, hb, h0, h1, h2⟩ := hrel
    have HG := Lib.hid hg
    have HBL := Lib.hid hb
    have H0 := Lib.hid h0
    have H1 := Lib.hid h1
    have H2 := Lib.hid h2
    clear hg hb h0 h1 h2 HX HB0 HB1 HB2
    obtain ⟨f1, f2, f3⟩ := H0.out.facts
    obtain ⟨g1, g2, g3⟩ := H2.out.facts
    rcases (by omega : k = 0 ∨ k = 1 ∨ k = 2) with rfl | rfl | rfl
    · have HC := Lib.hid (count_nil x y a b wr)
      go_wp2_with (go_at_call 15; refine (HC.out).mono ?_; rintro e w1 ⟨rfl, hx1⟩)
      go_roundg 1
      case measure => have := HG.out; omega
      case rel => exact ⟨1, by go_num, by omega, by omega, ext_trans HBL.out hx1, H0.out.ext hx1, H1.out.ext hx1, H2.out.ext hx1⟩
    · have HC := Lib.hid (count_zero x y a b (w.heap.size + 1) wr H1.out)
      go_wp2_with (go_at_call 15; refine (HC.out).mono ?_; rintro e w1 ⟨rfl, hx1⟩)
      go_roundg 0
      case measure => have := HG.out; omega
      case rel => exact ⟨2, by go_num, by omega, by omega, ext_trans HBL.out hx1, H0.out.ext hx1, H1.out.ext hx1, H2.out.ext hx1⟩
    · go_wp2_with (go_at_call 14; refine (awake_any _).mono ?_; rintro e w2 ⟨rfl, hx2⟩)
      go_ret
      exact ⟨rfl, ext_trans HBL.out hx2⟩
end Go.Proofs.YtdkoomcgnaokgaaDoor
