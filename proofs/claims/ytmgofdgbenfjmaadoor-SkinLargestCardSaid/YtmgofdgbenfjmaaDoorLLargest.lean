/- SkinLargest walked. Conditions: the arguments read as lists. -/
import Derived.Test.YtmgofdgbenfjmaaDoorSq2
import Derived.Test.YtmgofdgbenfjmaaDoorRl
import Derived.Test.YtmgofdgbenfjmaaDoorAw
namespace Go.Proofs.YtmgofdgbenfjmaaDoor
open Go.RowKit

set_option maxRecDepth 100000 in
set_option maxHeartbeats 4000000 in
theorem law_largest (A : Option Addr) (cap : Nat) (l : List ByteArray) (g : Int) (w : World) (hc : l.length ≤ cap) (hcm : cap ≤ 9223372036854775807) (h : TSl w A l) (hz : TSz l) :
    Calls Tryd.prog 5 #[.slice A l.length cap, .int .i64 g] w fun e w' => e = .returned (.bool true) ∧ Below w.heap.size w w' := by
  have HA := Lib.hid (fun W (hW : Below w.heap.size w W) => (largest_any A cap l g W hc hcm (h.ext hW) hz).mono fun e w' hr => lg_same hr)
  have HB := Lib.hid (fun W (hW : Below w.heap.size w W) => (rlargest_any false A cap l g W hc hcm (h.ext hW) hz).mono fun e w' hr => lg_same hr)
  have HC := Lib.hid (fun W (hW : Below w.heap.size w W) => (square_any A cap l g W hc hcm (h.ext hW) hz).mono fun e w' hr => lg_same hr)
  have HD := Lib.hid (fun W (hW : Below w.heap.size w W) => (rlargest_any true A cap l g W hc hcm (h.ext hW) hz).mono fun e w' hr => lg_same hr)
  have HW0 := Lib.hid (Below.refl w.heap.size w)
  clear h hz
  go_enter Tryd.func5, Tryd.ntmps5
  go_upto_region 2 with (go_at_call 18; refine (HA.out _ HW0.out).mono ?_; rintro e w1 ⟨m, er1, hok, rfl, hx⟩)
  have HOK1 := Lib.hid hok
  have HK1 := Lib.hid (Bk.new 31 w1 #[.int .i64 (m.x : Int), .int .i64 (m.y : Int), .int .i64 (m.a : Int), .int .i64 (m.b : Int)])
  have HX1 := Lib.hid (hx.trans (ext_alloc w1 (.cells #[.int .i64 (m.x : Int), .int .i64 (m.y : Int), .int .i64 (m.a : Int), .int .i64 (m.b : Int)] 31) |>.mono hx.size))
  have HW1 := Lib.hid (bext HW0.out HX1.out HW0.out.size)
  obtain ⟨q1, hq⟩ : ∃ q, q = w1.heap.size := ⟨_, rfl⟩
  obtain ⟨V1, hV⟩ : ∃ V, V = w1.alloc (.cells #[.int .i64 (m.x : Int), .int .i64 (m.y : Int), .int .i64 (m.a : Int), .int .i64 (m.b : Int)] 31) := ⟨_, rfl⟩
  rw [← hq, ← hV]
  rw [← hq, ← hV] at HK1
  rw [← hV] at HX1 HW1
  clear hq hV hok hx
  go_upto_region 3 with (go_at_call 19; refine (HB.out _ HW1.out).mono ?_; rintro e w2 ⟨m2, er2, hok, rfl, hx⟩)
  have HOK2 := Lib.hid hok
  obtain ⟨hm2, he2⟩ := LgOk.uniq HOK2.out HOK1.out
  subst hm2 he2
  have HK2 := Lib.hid (Bk.new 31 w2 #[.int .i64 (m2.x : Int), .int .i64 (m2.y : Int), .int .i64 (m2.a : Int), .int .i64 (m2.b : Int)])
  have HX2 := Lib.hid (hx.trans (ext_alloc w2 (.cells #[.int .i64 (m2.x : Int), .int .i64 (m2.y : Int), .int .i64 (m2.a : Int), .int .i64 (m2.b : Int)] 31) |>.mono hx.size))
  have HW2 := Lib.hid (bext HW1.out HX2.out HW1.out.size)
  obtain ⟨q2, hq⟩ : ∃ q, q = w2.heap.size := ⟨_, rfl⟩
  obtain ⟨V2, hV⟩ : ∃ V, V = w2.alloc (.cells #[.int .i64 (m2.x : Int), .int .i64 (m2.y : Int), .int .i64 (m2.a : Int), .int .i64 (m2.b : Int)] 31) := ⟨_, rfl⟩
  rw [← hq, ← hV]
  rw [← hq, ← hV] at HK2
  rw [← hV] at HX2 HW2
  have HK1 := Lib.hid (HK1.out.ext HX2.out)
  clear hq hV hok hx
  go_upto_region 4 with (go_at_call 20; refine (HC.out _ HW2.out).mono ?_; rintro e w3 ⟨n, er3, hok, rfl, hx⟩)
  have HOK3 := Lib.hid hok
  have HK3 := Lib.hid (Bk.new 31 w3 #[.int .i64 (n.x : Int), .int .i64 (n.y : Int), .int .i64 (n.a : Int), .int .i64 (n.b : Int)])
  have HX3 := Lib.hid (hx.trans (ext_alloc w3 (.cells #[.int .i64 (n.x : Int), .int .i64 (n.y : Int), .int .i64 (n.a : Int), .int .i64 (n.b : Int)] 31) |>.mono hx.size))
  have HW3 := Lib.hid (bext HW2.out HX3.out HW2.out.size)
  obtain ⟨q3, hq⟩ : ∃ q, q = w3.heap.size := ⟨_, rfl⟩
  obtain ⟨V3, hV⟩ : ∃ V, V = w3.alloc (.cells #[.int .i64 (n.x : Int), .int .i64 (n.y : Int), .int .i64 (n.a : Int), .int .i64 (n.b : Int)] 31) := ⟨_, rfl⟩
  rw [← hq, ← hV]
  rw [← hq, ← hV] at HK3
  rw [← hV] at HX3 HW3
  have HK1 := Lib.hid (HK1.out.ext HX3.out)
  have HK2 := Lib.hid (HK2.out.ext HX3.out)
  clear hq hV hok hx
  go_upto_region 5 with (go_at_call 19; refine (HD.out _ HW3.out).mono ?_; rintro e w4 ⟨n2, er4, hok, rfl, hx⟩)
  have HOK4 := Lib.hid hok
  obtain ⟨hm2, he2⟩ := LgOk.uniq HOK4.out HOK3.out
  subst hm2 he2
  have HK4 := Lib.hid (Bk.new 31 w4 #[.int .i64 (n2.x : Int), .int .i64 (n2.y : Int), .int .i64 (n2.a : Int), .int .i64 (n2.b : Int)])
  have HX4 := Lib.hid (hx.trans (ext_alloc w4 (.cells #[.int .i64 (n2.x : Int), .int .i64 (n2.y : Int), .int .i64 (n2.a : Int), .int .i64 (n2.b : Int)] 31) |>.mono hx.size))
  have HW4 := Lib.hid (bext HW3.out HX4.out HW3.out.size)
  obtain ⟨q4, hq⟩ : ∃ q, q = w4.heap.size := ⟨_, rfl⟩
  obtain ⟨V4, hV⟩ : ∃ V, V = w4.alloc (.cells #[.int .i64 (n2.x : Int), .int .i64 (n2.y : Int), .int .i64 (n2.a : Int), .int .i64 (n2.b : Int)] 31) := ⟨_, rfl⟩
  rw [← hq, ← hV]
  rw [← hq, ← hV] at HK4
  rw [← hV] at HX4 HW4
  have HK1 := Lib.hid (HK1.out.ext HX4.out)
  have HK2 := Lib.hid (HK2.out.ext HX4.out)
  have HK3 := Lib.hid (HK3.out.ext HX4.out)
  clear hq hV hok hx
  obtain ⟨a1, b1, c1⟩ := HK1.out.facts
  obtain ⟨a2, b2, c2⟩ := HK2.out.facts
  obtain ⟨a3, b3, c3⟩ := HK3.out.facts
  obtain ⟨a4, b4, c4⟩ := HK4.out.facts
  go_wp2_with (go_at_call 14; refine (awake_any _).mono ?_; rintro e w6 ⟨rfl, hx6⟩)
  go_ret
  exact ⟨rfl, bext HW4.out hx6 HW4.out.size⟩
end Go.Proofs.YtmgofdgbenfjmaaDoor
