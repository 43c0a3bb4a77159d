/- SkinMaximal walked. Conditions: the arguments read as lists. -/
import Derived.Test.YtmgofdgbenfjmaaDoorMq
import Derived.Test.YtmgofdgbenfjmaaDoorAw
namespace Go.Proofs.YtmgofdgbenfjmaaDoor
open Go.RowKit

set_option maxRecDepth 100000 in
set_option maxHeartbeats 4000000 in
theorem law_maximal (A : Option Addr) (cap : Nat) (l : List ByteArray) (g : Int) (w : World) (hc : l.length ≤ cap) (hcm : cap ≤ 9223372036854775807) (h : TSl w A l) (hz : TSz l) :
    Calls Tryd.prog 4 #[.slice A l.length cap, .int .i64 g] w fun e w' => e = .returned (.bool true) ∧ Below w.heap.size w w' := by
  have HM := Lib.hid (fun W (hW : Below w.heap.size w W) => (smaximal_any A cap l g W hc hcm (h.ext hW) hz).mono fun e w' hr => mx_same l g W e w' hr)
  have HR := Lib.hid (fun W (hW : Below w.heap.size w W) => (rmaximal_any A cap l g W hc hcm (h.ext hW) hz).mono fun e w' hr => mx_same l g W e w' hr)
  clear h hz
  go_enter Tryd.func4, Tryd.ntmps4
  go_upto_region 2 with (go_at_call 15; refine (HM.out _ (Below.refl _ _)).mono ?_; rintro e w1 ⟨P, er, hP1, he1, hP2, hl1, A1, c1, rfl, k1, k2, hr1, hx1⟩)
  have H1 := Lib.hid (And.intro hP1 (And.intro he1 hP2))
  clear hP1 he1 hP2
  go_upto_region 3 with (go_at_call 16; refine (HR.out _ hx1).mono ?_; rintro e w2 ⟨Q, er2, hQ1, he2, hQ2, hl2, A2, c2, rfl, k3, k4, hr2, hx2⟩)
  have hQP : Q = P := by
    by_cases hps : PsOk l g
    · exact sorted_eq (hQ2 hps).1 (H1.out.2.2 hps).1 fun r => by rw [(hQ2 hps).2 r, (H1.out.2.2 hps).2 r]
    · rw [hQ1.resolve_right hps, H1.out.1.resolve_right hps]
  have hee : er2 = er := he2.trans H1.out.2.1.symm
  subst hQP hee
  have HE := Lib.hid (equal_rects A1 A2 c1 c2 Q w2 (by omega) (hr1.ext hx2) hr2)
  have HB := Lib.hid (bext hx1 hx2 hx1.size)
  clear hr1 hr2 hQ1 hQ2 he2 hx1 hx2
  go_wp2_with (first
    | (go_at_call 17; refine (HE.out).mono ?_; rintro e w3 ⟨rfl, hx3⟩)
    | (go_at_call 14; refine (awake_any _).mono ?_; rintro e w4 ⟨rfl, hx4⟩))
  go_ret
  exact ⟨rfl, bext (bext HB.out hx3 HB.out.size) hx4 (bext HB.out hx3 HB.out.size).size⟩
end Go.Proofs.YtmgofdgbenfjmaaDoor
