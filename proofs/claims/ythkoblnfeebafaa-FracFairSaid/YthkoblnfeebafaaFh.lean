/- Walks of frac's Sub, Mul, Mediant, New, Whole, Div, Neg, Abs. Conditions: the arguments are within their kinds. -/
import Derived.Test.YthkoblnfeebafaaFe
namespace Go.Proofs.Ythkoblnfeebafaa
open Go.RowKit

theorem sub_rat {an ad bn bd : Int} (h1 : 1 ≤ ad) (h2 : 1 ≤ bd) : ((an * bd - bn * ad : Int) : Rat) / ((ad * bd : Int) : Rat) = rat an ad - rat bn bd := by
  have e1 := cast_ne h1
  have e2 := cast_ne h2
  unfold rat
  rw [Rat.intCast_sub, Rat.intCast_mul, Rat.intCast_mul, Rat.intCast_mul]
  grind
theorem mul_rat {an ad bn bd : Int} (h1 : 1 ≤ ad) (h2 : 1 ≤ bd) : ((an * bn : Int) : Rat) / ((ad * bd : Int) : Rat) = rat an ad * rat bn bd := by
  have e1 := cast_ne h1
  have e2 := cast_ne h2
  unfold rat
  rw [Rat.intCast_mul, Rat.intCast_mul]
  grind
theorem div_rat {an ad bn bd : Int} (h1 : 1 ≤ ad) (h2 : 1 ≤ bd) (h3 : bn ≠ 0) : ((an * bd : Int) : Rat) / ((ad * bn : Int) : Rat) = rat an ad / rat bn bd := by
  have e1 := cast_ne h1
  have e2 := cast_ne h2
  have e3 : (bn : Rat) ≠ 0 := by intro h0; exact h3 (Rat.intCast_eq_zero_iff.1 h0)
  unfold rat
  rw [Rat.intCast_mul, Rat.intCast_mul]
  grind
theorem mul_bd2 {x y : Int} (h1 : -1000000000 ≤ x) (h2 : x ≤ 1000000000) (h3 : -1000000000 ≤ y) (h4 : y ≤ 1000000000) : -1000000000000000000 ≤ x * y ∧ x * y ≤ 1000000000000000000 := by
  rcases Int.le_total 0 y with h | h
  · have a1 : x * y ≤ 1000000000 * y := Int.mul_le_mul_of_nonneg_right h2 h
    have a2 : -1000000000 * y ≤ x * y := Int.mul_le_mul_of_nonneg_right h1 h
    omega
  · have a1 : 1000000000 * y ≤ x * y := Int.mul_le_mul_of_nonpos_right h2 h
    have a2 : x * y ≤ -1000000000 * y := Int.mul_le_mul_of_nonpos_right h1 h
    omega

set_option maxRecDepth 100000 in
set_option maxHeartbeats 400000 in
theorem sub_any (an ad bn bd : Int) (w : World) (ha1 : IsI an) (ha2 : IsI ad) (hb1 : IsI bn) (hb2 : IsI bd) :
    Calls Try.prog 45 #[frv an ad, frv bn bd] w (RetA w (two an ad bn bd (rat an ad - rat bn bd))) := by
  have HV := Lib.hid (fun W g hg => valid2_any an ad bn bd W g hg ha1 ha2 hb1 hb2)
  clear ha1 ha2 hb1 hb2
  have hx0 : ∀ x y z, Below w.heap.size w (((w.alloc x).alloc y).alloc z) := fun x y z => (((Below.refl _ _).alloc (Nat.le_refl _) _).alloc (by simp) _).alloc (by simp; omega) _
  have HX0 := Lib.hid hx0
  clear hx0
  unfold frv two
  cases hv : (vldB an ad && vldB bn bd)
  · rw [if_neg (by simp)]
    rw [hv] at HV
    clear hv
    go_enter Try.func45, Try.ntmps45
    go_wp2_with (first
      | (go_at_call 76; refine (HV.out _ _ (by simp)).mono ?_; rintro e w1 ⟨rfl, hx1⟩; obtain ⟨k1, k2, k3, k4, k5⟩ := three_cells hx1))
    refine bodyPost_ret (v := .tuple #[.agg #[.int .i64 0, .int .i64 0], .int .i64 2]) (by simp [results, Try.results45, go_sem, k3]) rfl ?_
    exact ⟨rfl, below2 (ext_trans (HX0.out _ _ _) hx1) (by omega) _ _⟩
  · rw [if_pos rfl]
    obtain ⟨⟨a1, a2, a3, a4, _⟩, b1, b2, b3, b4, _⟩ := vld_and hv
    obtain ⟨p1, p2⟩ := mul_bd a3 a4 b1 b2
    obtain ⟨p3, p4⟩ := mul_bd b3 b4 a1 a2
    obtain ⟨p5, p6⟩ := mul_pos_bd a1 a2 b1 b2
    rw [hv] at HV
    have hz := fun W => rfrac_any (an * bd - bn * ad) (ad * bd) W ⟨by omega, by omega⟩ ⟨by omega, by omega⟩ (by omega)
    rw [sub_rat a1 b1] at hz
    have HZ := Lib.hid hz
    generalize ans (rat an ad - rat bn bd) = a at *
    clear hz hv
    go_enter Try.func45, Try.ntmps45
    go_wp2_with (first
      | (go_at_call 76; refine (HV.out _ _ (by simp)).mono ?_; rintro e w1 ⟨rfl, hx1⟩; obtain ⟨k1, k2, k3, k4, k5⟩ := three_cells hx1)
      | (go_at_call 77; refine (HZ.out _).mono ?_; unfold RetA frv; rintro e w2 ⟨rfl, hx2⟩; have E2 := ext_trans hx1 hx2; obtain ⟨k1, k2, k3, k4, k5⟩ := three_cells E2))
    refine bodyPost_ret (v := .tuple #[.agg #[.int .i64 a.1, .int .i64 a.2.1], .int .i64 a.2.2]) (by simp [results, Try.results45, go_sem, k3]) rfl ?_
    exact ⟨rfl, below2 (ext_trans (HX0.out _ _ _) E2) (by omega) _ _⟩
set_option maxRecDepth 100000 in
set_option maxHeartbeats 400000 in
theorem mul_any (an ad bn bd : Int) (w : World) (ha1 : IsI an) (ha2 : IsI ad) (hb1 : IsI bn) (hb2 : IsI bd) :
    Calls Try.prog 46 #[frv an ad, frv bn bd] w (RetA w (two an ad bn bd (rat an ad * rat bn bd))) := by
  have HV := Lib.hid (fun W g hg => valid2_any an ad bn bd W g hg ha1 ha2 hb1 hb2)
  clear ha1 ha2 hb1 hb2
  have hx0 : ∀ x y z, Below w.heap.size w (((w.alloc x).alloc y).alloc z) := fun x y z => (((Below.refl _ _).alloc (Nat.le_refl _) _).alloc (by simp) _).alloc (by simp; omega) _
  have HX0 := Lib.hid hx0
  clear hx0
  unfold frv two
  cases hv : (vldB an ad && vldB bn bd)
  · rw [if_neg (by simp)]
    rw [hv] at HV
    clear hv
    go_enter Try.func46, Try.ntmps46
    go_wp2_with (first
      | (go_at_call 76; refine (HV.out _ _ (by simp)).mono ?_; rintro e w1 ⟨rfl, hx1⟩; obtain ⟨k1, k2, k3, k4, k5⟩ := three_cells hx1))
    refine bodyPost_ret (v := .tuple #[.agg #[.int .i64 0, .int .i64 0], .int .i64 2]) (by simp [results, Try.results46, go_sem, k3]) rfl ?_
    exact ⟨rfl, below2 (ext_trans (HX0.out _ _ _) hx1) (by omega) _ _⟩
  · rw [if_pos rfl]
    obtain ⟨⟨a1, a2, a3, a4, _⟩, b1, b2, b3, b4, _⟩ := vld_and hv
    obtain ⟨p1, p2⟩ := mul_bd2 a3 a4 b3 b4
    obtain ⟨p5, p6⟩ := mul_pos_bd a1 a2 b1 b2
    rw [hv] at HV
    have hz := fun W => rfrac_any (an * bn) (ad * bd) W ⟨by omega, by omega⟩ ⟨by omega, by omega⟩ (by omega)
    rw [mul_rat a1 b1] at hz
    have HZ := Lib.hid hz
    generalize ans (rat an ad * rat bn bd) = a at *
    clear hz hv
    go_enter Try.func46, Try.ntmps46
    go_wp2_with (first
      | (go_at_call 76; refine (HV.out _ _ (by simp)).mono ?_; rintro e w1 ⟨rfl, hx1⟩; obtain ⟨k1, k2, k3, k4, k5⟩ := three_cells hx1)
      | (go_at_call 77; refine (HZ.out _).mono ?_; unfold RetA frv; rintro e w2 ⟨rfl, hx2⟩; have E2 := ext_trans hx1 hx2; obtain ⟨k1, k2, k3, k4, k5⟩ := three_cells E2))
    refine bodyPost_ret (v := .tuple #[.agg #[.int .i64 a.1, .int .i64 a.2.1], .int .i64 a.2.2]) (by simp [results, Try.results46, go_sem, k3]) rfl ?_
    exact ⟨rfl, below2 (ext_trans (HX0.out _ _ _) E2) (by omega) _ _⟩
set_option maxRecDepth 100000 in
set_option maxHeartbeats 400000 in
theorem mediant_any (an ad bn bd : Int) (w : World) (ha1 : IsI an) (ha2 : IsI ad) (hb1 : IsI bn) (hb2 : IsI bd) :
    Calls Try.prog 23 #[frv an ad, frv bn bd] w (RetA w (two an ad bn bd (rat (an + bn) (ad + bd)))) := by
  have HV := Lib.hid (fun W g hg => valid2_any an ad bn bd W g hg ha1 ha2 hb1 hb2)
  clear ha1 ha2 hb1 hb2
  have hx0 : ∀ x y z, Below w.heap.size w (((w.alloc x).alloc y).alloc z) := fun x y z => (((Below.refl _ _).alloc (Nat.le_refl _) _).alloc (by simp) _).alloc (by simp; omega) _
  have HX0 := Lib.hid hx0
  clear hx0
  unfold frv two
  cases hv : (vldB an ad && vldB bn bd)
  · rw [if_neg (by simp)]
    rw [hv] at HV
    clear hv
    go_enter Try.func23, Try.ntmps23
    go_wp2_with (first
      | (go_at_call 76; refine (HV.out _ _ (by simp)).mono ?_; rintro e w1 ⟨rfl, hx1⟩; obtain ⟨k1, k2, k3, k4, k5⟩ := three_cells hx1))
    refine bodyPost_ret (v := .tuple #[.agg #[.int .i64 0, .int .i64 0], .int .i64 2]) (by simp [results, Try.results23, go_sem, k3]) rfl ?_
    exact ⟨rfl, below2 (ext_trans (HX0.out _ _ _) hx1) (by omega) _ _⟩
  · rw [if_pos rfl]
    obtain ⟨⟨a1, a2, a3, a4, _⟩, b1, b2, b3, b4, _⟩ := vld_and hv
    rw [hv] at HV
    have hz := fun W => rfrac_any (an + bn) (ad + bd) W ⟨by omega, by omega⟩ ⟨by omega, by omega⟩ (by omega)
    change ∀ W, Calls _ _ _ W (RetA W (ans (rat (an + bn) (ad + bd)))) at hz
    have HZ := Lib.hid hz
    generalize ans (rat (an + bn) (ad + bd)) = a at *
    clear hz hv
    go_enter Try.func23, Try.ntmps23
    go_wp2_with (first
      | (go_at_call 76; refine (HV.out _ _ (by simp)).mono ?_; rintro e w1 ⟨rfl, hx1⟩; obtain ⟨k1, k2, k3, k4, k5⟩ := three_cells hx1)
      | (go_at_call 77; refine (HZ.out _).mono ?_; unfold RetA frv; rintro e w2 ⟨rfl, hx2⟩; have E2 := ext_trans hx1 hx2; obtain ⟨k1, k2, k3, k4, k5⟩ := three_cells E2))
    refine bodyPost_ret (v := .tuple #[.agg #[.int .i64 a.1, .int .i64 a.2.1], .int .i64 a.2.2]) (by simp [results, Try.results23, go_sem, k3]) rfl ?_
    exact ⟨rfl, below2 (ext_trans (HX0.out _ _ _) E2) (by omega) _ _⟩
end Go.Proofs.Ythkoblnfeebafaa
