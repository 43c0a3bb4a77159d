/- Walks of frac's Div, Cmp, Neg, Abs. Conditions: the arguments are within their kinds. -/
import Derived.Test.YthkoblnfeebafaaFi
import Derived.Test.YthkoblnfeebafaaFh
import Derived.Test.YthkoblnfeebafaaFf
namespace Go.Proofs.Ythkoblnfeebafaa
open Go.RowKit

/-- what Div, Neg, Abs and Cmp answer -/
noncomputable def divA (an ad bn bd : Int) : Int × Int × Int := if (vldB an ad && vldB bn bd) = true then (if bn = 0 then (0, 0, 4) else ans (rat an ad / rat bn bd)) else (0, 0, 2)
def negA (n d : Int) : Int × Int × Int := if vldB n d = true then (-n, d, 0) else (0, 0, 2)
def absA (n d : Int) : Int × Int × Int := if vldB n d = true then (if n < -n then -n else n, d, 0) else (0, 0, 2)
def cmpA (an ad bn bd : Int) : Int × Int := if (vldB an ad && vldB bn bd) = true then ((rat an ad - rat bn bd).num.sign, 0) else (0, 2)

theorem rat_sign {n d : Int} (hd : 0 < d) : ((n : Rat) / (d : Rat)).num.sign = n.sign := by
  have h1 := (rat_parts (n := n) (d := d) (by omega)).1
  unfold rat at h1
  rw [h1]
  have hg : 0 < Int.gcd n d := Int.gcd_pos_of_ne_zero_right _ (by omega)
  have hdv : (Int.gcd n d : Int) ∣ n := Int.gcd_dvd_left _ _
  obtain ⟨c, hc⟩ := hdv
  have hg' : (0 : Int) < (Int.gcd n d : Int) := by omega
  generalize (Int.gcd n d : Int) = g at *
  subst hc
  rw [Int.mul_ediv_cancel_left _ (by omega), Int.sign_mul, Int.sign_eq_one_of_pos hg', Int.one_mul]
theorem cmp_sign {an ad bn bd : Int} (h1 : 1 ≤ ad) (h2 : 1 ≤ bd) : (rat an ad - rat bn bd).num.sign = (an * bd - bn * ad).sign := by
  have e1 := cast_ne h1
  have e2 := cast_ne h2
  rw [← sub_rat h1 h2]
  have hd : 0 < ad * bd := Int.mul_pos (by omega) (by omega)
  generalize an * bd - bn * ad = n at *
  generalize ad * bd = d at *
  exact rat_sign hd

theorem div_newA {an ad bn bd : Int} (h1 : 1 ≤ ad) (h2 : 1 ≤ bd) : newA (an * bd) (ad * bn) = if bn = 0 then (0, 0, 4) else ans (rat an ad / rat bn bd) := by
  unfold newA
  by_cases h : bn = 0
  · subst h
    rw [if_pos (by simp), if_pos rfl]
  · have h0 : ad * bn ≠ 0 := Int.mul_ne_zero (by omega) h
    rw [if_neg h0, if_neg h]
    unfold rat at *
    rw [div_rat h1 h2 h]
    rfl

set_option maxRecDepth 100000 in
set_option maxHeartbeats 400000 in
theorem div_any (an ad bn bd : Int) (w : World) (ha1 : IsI an) (ha2 : IsI ad) (hb1 : IsI bn) (hb2 : IsI bd) :
    Calls Try.prog 47 #[frv an ad, frv bn bd] w (RetA w (divA an ad bn bd)) := by
  have HV := Lib.hid (fun W g hg => valid2_any an ad bn bd W g hg ha1 ha2 hb1 hb2)
  clear ha1 ha2 hb1 hb2
  have hx0 : ∀ x y z, Below w.heap.size w (((w.alloc x).alloc y).alloc z) := fun x y z => (((Below.refl _ _).alloc (Nat.le_refl _) _).alloc (by simp) _).alloc (by simp; omega) _
  have HX0 := Lib.hid hx0
  clear hx0
  unfold frv divA
  cases hv : (vldB an ad && vldB bn bd)
  · rw [if_neg (by simp)]
    rw [hv] at HV
    clear hv
    go_enter Try.func47, Try.ntmps47
    go_wp2_with (first
      | (go_at_call 76; refine (HV.out _ _ (by simp)).mono ?_; rintro e w1 ⟨rfl, hx1⟩; obtain ⟨k1, k2, k3, k4, k5⟩ := three_cells hx1))
    refine bodyPost_ret (v := .tuple #[.agg #[.int .i64 0, .int .i64 0], .int .i64 2]) (by simp [results, Try.results47, go_sem, k3]) rfl ?_
    exact ⟨rfl, below2 (ext_trans (HX0.out _ _ _) hx1) (by omega) _ _⟩
  · rw [if_pos rfl]
    obtain ⟨⟨a1, a2, a3, a4, _⟩, b1, b2, b3, b4, _⟩ := vld_and hv
    rw [hv] at HV
    by_cases h0 : bn = 0
    · subst h0
      rw [if_pos rfl]
      clear hv a1 a2 a3 a4 b1 b2 b3 b4
      go_enter Try.func47, Try.ntmps47
      go_wp2_with (first
        | (go_at_call 76; refine (HV.out _ _ (by simp)).mono ?_; rintro e w1 ⟨rfl, hx1⟩; obtain ⟨k1, k2, k3, k4, k5⟩ := three_cells hx1))
      refine bodyPost_ret (v := .tuple #[.agg #[.int .i64 0, .int .i64 0], .int .i64 4]) (by simp [results, Try.results47, go_sem, k3]) rfl ?_
      exact ⟨rfl, below2 (ext_trans (HX0.out _ _ _) hx1) (by omega) _ _⟩
    · obtain ⟨p1, p2⟩ := mul_bd a3 a4 b1 b2
      obtain ⟨p5, p6⟩ := mul_bd b3 b4 a1 a2
      rw [Int.mul_comm bn ad] at p5 p6
      have hz := fun W => new_any (an * bd) (ad * bn) W ⟨by omega, by omega⟩ ⟨by omega, by omega⟩
      rw [div_newA a1 b1] at hz
      rw [if_neg h0] at hz ⊢
      have HZ := Lib.hid hz
      generalize ans (rat an ad / rat bn bd) = a at *
      have h0' : (bn == 0) = false := by simpa using h0
      clear hz hv
      go_enter Try.func47, Try.ntmps47
      go_wp2_with (first
        | (go_at_call 76; refine (HV.out _ _ (by simp)).mono ?_; rintro e w1 ⟨rfl, hx1⟩; obtain ⟨k1, k2, k3, k4, k5⟩ := three_cells hx1)
        | (go_at_call 25; refine (HZ.out _).mono ?_; unfold RetA frv; rintro e w2 ⟨rfl, hx2⟩; have E2 := ext_trans hx1 hx2; obtain ⟨k1, k2, k3, k4, k5⟩ := three_cells E2))
      refine bodyPost_ret (v := .tuple #[.agg #[.int .i64 a.1, .int .i64 a.2.1], .int .i64 a.2.2]) (by simp [results, Try.results47, go_sem, k3]) rfl ?_
      exact ⟨rfl, below2 (ext_trans (HX0.out _ _ _) E2) (by omega) _ _⟩
set_option maxRecDepth 100000 in
set_option maxHeartbeats 400000 in
theorem neg_any (n d : Int) (w : World) (ha1 : IsI n) (ha2 : IsI d) :
    Calls Try.prog 49 #[frv n d] w (RetA w (negA n d)) := by
  have HV := Lib.hid (fun W => valid_any n d W ha1 ha2)
  clear ha1 ha2
  have hx0 : ∀ x y, Below w.heap.size w ((w.alloc x).alloc y) := fun x y => ((Below.refl _ _).alloc (Nat.le_refl _) _).alloc (by simp) _
  have HX0 := Lib.hid hx0
  clear hx0
  unfold frv negA at *
  cases hv : vldB n d
  · rw [if_neg (by simp)]
    rw [hv] at HV
    clear hv
    go_enter Try.func49, Try.ntmps49
    go_wp2_with (first
      | (go_at_call 20; refine (HV.out _).mono ?_; rintro e w1 ⟨rfl, hx1⟩; obtain ⟨k1, k2, k3, k4, k5⟩ := two_cells hx1))
    refine bodyPost_ret (v := .tuple #[.agg #[.int .i64 0, .int .i64 0], .int .i64 2]) (by simp [results, Try.results49, go_sem, k2]) rfl ?_
    exact ⟨rfl, below2 (ext_trans (HX0.out _ _) hx1) (by omega) _ _⟩
  · rw [if_pos rfl]
    obtain ⟨a1, a2, a3, a4, _⟩ := of_decide_eq_true hv
    rw [hv] at HV
    clear hv
    go_enter Try.func49, Try.ntmps49
    go_wp2_with (first
      | (go_at_call 20; refine (HV.out _).mono ?_; rintro e w1 ⟨rfl, hx1⟩; obtain ⟨k1, k2, k3, k4, k5⟩ := two_cells hx1))
    refine bodyPost_ret (v := .tuple #[.agg #[.int .i64 (-n), .int .i64 d], .int .i64 0]) (by simp [results, Try.results49, go_sem, k2]) rfl ?_
    exact ⟨rfl, below2 (ext_trans (HX0.out _ _) hx1) (by omega) _ _⟩
set_option maxRecDepth 100000 in
set_option maxHeartbeats 400000 in
theorem abs_any (n d : Int) (w : World) (ha1 : IsI n) (ha2 : IsI d) :
    Calls Try.prog 63 #[frv n d] w (RetA w (absA n d)) := by
  have HV := Lib.hid (fun W => valid_any n d W ha1 ha2)
  clear ha1 ha2
  have hx0 : ∀ x y, Below w.heap.size w ((w.alloc x).alloc y) := fun x y => ((Below.refl _ _).alloc (Nat.le_refl _) _).alloc (by simp) _
  have HX0 := Lib.hid hx0
  clear hx0
  unfold frv absA at *
  cases hv : vldB n d
  · rw [if_neg (by simp)]
    rw [hv] at HV
    clear hv
    go_enter Try.func63, Try.ntmps63
    go_wp2_with (first
      | (go_at_call 20; refine (HV.out _).mono ?_; rintro e w1 ⟨rfl, hx1⟩; obtain ⟨k1, k2, k3, k4, k5⟩ := two_cells hx1))
    refine bodyPost_ret (v := .tuple #[.agg #[.int .i64 0, .int .i64 0], .int .i64 2]) (by simp [results, Try.results63, go_sem, k2]) rfl ?_
    exact ⟨rfl, below2 (ext_trans (HX0.out _ _) hx1) (by omega) _ _⟩
  · rw [if_pos rfl]
    obtain ⟨a1, a2, a3, a4, _⟩ := of_decide_eq_true hv
    rw [hv] at HV
    clear hv
    go_enter Try.func63, Try.ntmps63
    go_wp2_with (first
      | (go_at_call 20; refine (HV.out _).mono ?_; rintro e w1 ⟨rfl, hx1⟩; obtain ⟨k1, k2, k3, k4, k5⟩ := two_cells hx1))
    · refine bodyPost_ret (v := .tuple #[.agg #[.int .i64 (-n), .int .i64 d], .int .i64 0]) (by simp [results, Try.results63, go_sem, k2]) rfl ?_
      exact ⟨rfl, below2 (ext_trans (HX0.out _ _) hx1) (by omega) _ _⟩
    · refine bodyPost_ret (v := .tuple #[.agg #[.int .i64 n, .int .i64 d], .int .i64 0]) (by simp [results, Try.results63, go_sem, k2]) rfl ?_
      exact ⟨rfl, below2 (ext_trans (HX0.out _ _) hx1) (by omega) _ _⟩
set_option maxRecDepth 100000 in
set_option maxHeartbeats 400000 in
theorem cmp_any (an ad bn bd : Int) (w : World) (ha1 : IsI an) (ha2 : IsI ad) (hb1 : IsI bn) (hb2 : IsI bd) :
    Calls Try.prog 48 #[frv an ad, frv bn bd] w fun e w' => e = .returned (.tuple #[.int .i64 (cmpA an ad bn bd).1, .int .i64 (cmpA an ad bn bd).2]) ∧ Below w.heap.size w w' := by
  have HV := Lib.hid (fun W g hg => valid2_any an ad bn bd W g hg ha1 ha2 hb1 hb2)
  clear ha1 ha2 hb1 hb2
  have hx0 : ∀ x y, Below w.heap.size w ((w.alloc x).alloc y) := fun x y => ((Below.refl _ _).alloc (Nat.le_refl _) _).alloc (by simp) _
  have HX0 := Lib.hid hx0
  clear hx0
  unfold frv cmpA
  cases hv : (vldB an ad && vldB bn bd)
  · rw [if_neg (by simp)]
    rw [hv] at HV
    clear hv
    go_enter Try.func48, Try.ntmps48
    go_wp2_with (first
      | (go_at_call 76; refine (HV.out _ _ (by simp)).mono ?_; rintro e w1 ⟨rfl, hx1⟩; obtain ⟨k1, k2, k3, k4, k5⟩ := two_cells hx1))
    go_returns
    exact ⟨rfl, ext_trans (HX0.out _ _) hx1⟩
  · rw [if_pos rfl]
    obtain ⟨⟨a1, a2, a3, a4, _⟩, b1, b2, b3, b4, _⟩ := vld_and hv
    rw [hv] at HV
    obtain ⟨p1, p2⟩ := mul_bd a3 a4 b1 b2
    obtain ⟨p5, p6⟩ := mul_bd b3 b4 a1 a2
    have hs := cmp_sign (an := an) (bn := bn) a1 b1
    clear hv
    go_enter Try.func48, Try.ntmps48
    go_wp2_with (first
      | (go_at_call 76; refine (HV.out _ _ (by simp)).mono ?_; rintro e w1 ⟨rfl, hx1⟩; obtain ⟨k1, k2, k3, k4, k5⟩ := two_cells hx1))
    go_quiet (fail)
    go_wp2
    all_goals go_returns
    all_goals (refine ⟨?_, by first | exact bdrewN (ext_trans (HX0.out _ _) hx1) _ | exact (ext_trans (HX0.out _ _) hx1).drew⟩; rw [hs])
    · rw [Int.sign_eq_neg_one_of_neg (by omega)]; rfl
    · rw [Int.sign_eq_one_of_pos (by omega)]; rfl
    · rw [show an * bd - bn * ad = 0 by omega]; rfl
end Go.Proofs.Ythkoblnfeebafaa
