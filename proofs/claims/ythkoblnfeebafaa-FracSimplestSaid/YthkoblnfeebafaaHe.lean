/- The reference's simple walked: the lower end is a whole number. -/
import Derived.Test.YthkoblnfeebafaaHd
namespace Go.Proofs.Ythkoblnfeebafaa
open Go.RowKit

set_option maxRecDepth 100000 in
set_option maxHeartbeats 4000000 in
/-- the lower end is a whole number above zero -/
theorem simple_low (va vb : Value) (a b : Rat) (w : World) (ha : QAt w va a) (hb : QAt w vb b) (la : Lim a) (h1 : 1 ≤ a.num) (h2 : 1 ≤ b.num) (h3 : a.num % (a.den : Int) = 0) (hle : a.num * b.den ≤ b.num * a.den) :
    Calls Try.prog 95 #[va, vb] w (RetSQ w a b) := by
  obtain ⟨p, rfl, hp⟩ := q_formV ha
  obtain ⟨r, rfl, hr⟩ := q_formV hb
  have hd := den_one a
  have hdb := den_one b
  have e1 := Int.mul_ediv_add_emod a.num a.den
  have hA : 1 ≤ a.num / (a.den : Int) := by
    refine Int.not_lt.1 fun h => ?_
    have := Int.mul_le_mul_of_nonneg_left (show a.num / (a.den : Int) ≤ 0 by omega) (show 0 ≤ (a.den : Int) by omega)
    omega
  have hflo := simp_floor hd hdb hle
  have hfb : b.num / (b.den : Int) * b.den ≤ b.num := Int.ediv_mul_le _ (by omega)
  have hdn := fun W (h : QAt W (.agg #[.bool p.s, .slice p.A p.n p.c, .slice p.B p.m p.d]) a) => down_q _ a W h la.ok
  rw [floor_eq] at hdn
  have hl := la.1
  have hbd := div_bd (n := a.num) (d := a.den) (B := 1000000000) hd (by omega) (by omega) (by omega)
  have hso : ((a.num / (a.den : Int) : Int) : Rat) - a = 0 := by
    have h := rest_eq a
    rw [floor_eq, h3] at h
    have h4 : rat 0 (a.den : Int) = 0 := by unfold rat; grind
    rw [h4] at h
    grind
  generalize hAd : a.num / (a.den : Int) = A at *
  have hor := fun vx W (x : QAt W vx (A : Rat)) (y : QAt W (.agg #[.bool p.s, .slice p.A p.n p.c, .slice p.B p.m p.d]) a) => order_q vx _ (A : Rat) a W x y (qok_int (n := A) (by omega) (by omega)) la.ok
  rw [hso] at hor
  have hz : (0 : Rat).num.sign = 0 := by decide
  rw [hz] at hor
  have eA : A * (a.den : Int) = a.num := by rw [Int.mul_comm]; omega
  have hw := Sp.whole_pos (an := a.num) (ad := a.den) (bn := b.num) (bd := b.den) (m := A) hd hA (by omega) (by
    have := Int.mul_le_mul_of_nonneg_right hflo (show 0 ≤ (b.den : Int) by omega)
    omega) (by
    have : (A - 1) * (a.den : Int) = A * a.den - a.den := by grind
    omega)
  have HW := Lib.hid hw
  have hs := SB.start hp hr
  have HS := Lib.hid hs
  have hsa := fun W (h : QAt W (.agg #[.bool p.s, .slice p.A p.n p.c, .slice p.B p.m p.d]) a) => sign_any _ a W h
  have hsb := fun W (h : QAt W (.agg #[.bool r.s, .slice r.A r.n r.c, .slice r.B r.m r.d]) b) => sign_any _ b W h
  rw [Int.sign_eq_one_of_pos (show 0 < a.num by omega)] at hsa
  rw [Int.sign_eq_one_of_pos (show 0 < b.num by omega)] at hsb
  have HSA := Lib.hid hsa
  have HSB := Lib.hid hsb
  have HDN := Lib.hid hdn
  have HOR := Lib.hid hor
  clear ha hb hp hr h1 h2 h3 hle hd hdb e1 hA hflo hfb hdn hl hbd hso hAd hor hz eA hw hs hsa hsb la
  go_enter Try.func95, Try.ntmps95
  go_upto_region 6 with (first
    | (go_at_call 35; ((with_reducible refine (HSA.out _ ?_).mono ?_)); exact HS.out.2.1.2; rintro e w1 ⟨rfl, hx1⟩; have S1 := HS.out.call hx1; obtain ⟨a1, a2, a3⟩ := S1.2.1.1.facts; obtain ⟨b1, b2, b3⟩ := S1.2.2.1.1.facts; obtain ⟨c1, c2, c3⟩ := S1.2.2.2.facts)
    | (go_at_call 35; ((with_reducible refine (HSB.out _ ?_).mono ?_)); exact S1.2.2.1.2; rintro e w2 ⟨rfl, hx2⟩; have S2 := S1.call hx2; obtain ⟨a1, a2, a3⟩ := S2.2.1.1.facts; obtain ⟨b1, b2, b3⟩ := S2.2.2.1.1.facts; obtain ⟨c1, c2, c3⟩ := S2.2.2.2.facts)
    | (go_at_call 97; refine (HDN.out _ S2.2.1.2).mono ?_; rintro e w3 ⟨v3, rfl, hq3, hx3⟩; obtain ⟨o, rfl, ho⟩ := q_formV hq3; clear hq3; have S3 := S2.call hx3))
  have L3 := QB.new ho
  have S4 := S3.call ((Below.refl _ _).alloc (Nat.le_refl _) (.cells #[.bool o.s, .slice o.A o.n o.c, .slice o.B o.m o.d] 44))
  generalize w3.alloc _ = w4 at *
  generalize w3.heap.size = g3 at *
  clear a1 a2 a3 b1 b2 b3 c1 c2 c3 S1 S2 S3 hx1 hx2 hx3 ho
  have HL := Lib.hid L3
  have HS4 := Lib.hid S4
  obtain ⟨a1, a2, a3⟩ := S4.2.1.1.facts
  obtain ⟨b1, b2, b3⟩ := S4.2.2.1.1.facts
  obtain ⟨c1, c2, c3⟩ := S4.2.2.2.facts
  obtain ⟨l1, l2, l3⟩ := L3.1.facts
  clear L3 S4
  go_wp2_with (go_at_call 39; refine (HOR.out _ _ HL.out.2 HS4.out.2.1.2).mono ?_; rintro e w5 ⟨rfl, hx5⟩; have S5 := HS4.out.call hx5; have L5 := HL.out.ext hx5; obtain ⟨c1, c2, c3⟩ := S5.2.2.2.facts; obtain ⟨l1, l2, l3⟩ := L5.1.facts)
  refine bodyPost_ret (v := .agg #[.bool o.s, .slice o.A o.n o.c, .slice o.B o.m o.d]) (by simp [results, Try.results95, go_sem, c1]) rfl ?_
  refine ⟨_, _, rfl, L5.2.off3 S5.2.2.2.typ (by decide) _ _ _, ?_, ?_, below3 S5.1 (by omega) _ _ _⟩
  · rw [Rat.num_intCast, Rat.den_intCast]; exact HW.out.1
  · rw [Rat.num_intCast, Rat.den_intCast]; exact HW.out.2
end Go.Proofs.Ythkoblnfeebafaa
