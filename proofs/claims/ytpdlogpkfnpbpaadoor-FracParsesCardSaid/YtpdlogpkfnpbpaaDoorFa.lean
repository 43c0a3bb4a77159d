/- Walks of frac's lowest, ratio.frac, New. Conditions: the arguments are within their kinds. -/
import Derived.Test.YtpdlogpkfnpbpaaDoorQi
namespace Go.Proofs.YtpdlogpkfnpbpaaDoor
open Go.RowKit

theorem mk_num_eq {neg : Bool} {n d : Nat} (hd : d ≠ 0) : (Q.mk neg n d).num = if neg then -((n / n.gcd d : Nat) : Int) else ((n / n.gcd d : Nat) : Int) := by
  unfold Q.mk
  rw [Q.mk_num hd]
  cases neg
  · simp only [Bool.false_eq_true, if_false, Int.natAbs_natCast]
    rw [← Int.natCast_ediv]
  · simp only [if_true, Int.natAbs_neg, Int.natAbs_natCast]
    rw [Int.neg_ediv_of_dvd (Int.natCast_dvd_natCast.2 (Nat.gcd_dvd_left n d)), ← Int.natCast_ediv]
theorem inq_mk {neg : Bool} {n d : Nat} (hd : d ≠ 0) : InQ (Q.mk neg n d) ↔ n / n.gcd d ≤ 1000000000 ∧ d / n.gcd d ≤ 1000000000 := by
  unfold InQ
  rw [Q.mk_abs hd, Q.mk_den' hd]

theorem bdrewN {B : Nat} {a w : World} (h : Below B a w) (n : Nat) : Below B a (w.drewN n) := h.trans ⟨rfl, rfl, rfl, Nat.le_refl _, fun _ _ => rfl⟩

/-- what stands behind the division by the greatest common divisor -/
theorem low_parts {n d : Nat} (hn : n < 18446744073709551616) (hd : d < 18446744073709551616) (h0 : d ≠ 0) : 0 < n.gcd d ∧ n.gcd d < 18446744073709551616 ∧ n / n.gcd d < 18446744073709551616 ∧ d / n.gcd d < 18446744073709551616 := by
  have h1 := Nat.gcd_pos_of_pos_right n (Nat.pos_of_ne_zero h0)
  have h2 := Nat.gcd_le_right n (Nat.pos_of_ne_zero h0)
  have h3 := Nat.div_le_self n (n.gcd d)
  have h4 := Nat.div_le_self d (n.gcd d)
  omega
theorem cast_div (n g : Nat) : ((n / g : Nat) : Int) = (n : Int) / (g : Int) := by simp

set_option maxRecDepth 100000 in
set_option maxHeartbeats 1000000 in
theorem lowest_any (neg : Bool) (n d : Int) (w : World) (hn : 0 ≤ n) (hd : 0 < d) (hn' : n < 18446744073709551616) (hd' : d < 18446744073709551616) :
    Calls Tryd.prog 36 #[.bool neg, .int .u64 n, .int .u64 d] w (RetA w (ans (Q.mk neg n.toNat d.toNat))) := by
  obtain ⟨n, rfl⟩ := Int.eq_ofNat_of_zero_le hn
  obtain ⟨d, rfl⟩ := Int.eq_ofNat_of_zero_le (Int.le_of_lt hd)
  rw [Int.toNat_natCast, Int.toNat_natCast]
  have h0 : d ≠ 0 := by omega
  obtain ⟨p1, p2, p3, p4⟩ := low_parts (by omega : n < 18446744073709551616) (by omega : d < 18446744073709551616) h0
  have hi := inq_mk (neg := neg) (n := n) h0
  have hnum := mk_num_eq (neg := neg) (n := n) h0
  have hden := Q.mk_den' (neg := neg) (n := n) h0
  generalize Q.mk neg n d = q at *
  have cn := cast_div n (n.gcd d)
  have cd := cast_div d (n.gcd d)
  have hgi : Int.gcd (n : Int) (d : Int) = n.gcd d := Int.gcd_natCast_natCast n d
  have e1 : n.gcd d = 1 → n / n.gcd d = n ∧ d / n.gcd d = d := fun h => by rw [h, Nat.div_one, Nat.div_one]; exact ⟨rfl, rfl⟩
  generalize n.gcd d = g at *
  generalize n / g = x at *
  generalize d / g = y at *
  have wn : IntKind.u64.wrap ((n : Int) / (g : Int)) = (x : Int) := by rw [← cn, IntKind.wrap_u64]; omega
  have wd : IntKind.u64.wrap ((d : Int) / (g : Int)) = (y : Int) := by rw [← cd, IntKind.wrap_u64]; omega
  have CN := Lib.hid wn
  have CD := Lib.hid wd
  have hz : ∀ W, Calls Tryd.prog 25 #[.int .u64 (n : Int), .int .u64 (d : Int)] W fun e w' => e = .returned (.int .u64 (g : Int)) ∧ ∃ k, w' = W.drewN k := by
    intro W
    have := gcd_any (n : Int) (d : Int) W hn (Int.le_of_lt hd) hn' hd'
    rw [hgi] at this
    exact this
  have HZ := Lib.hid hz
  clear hz wn wd p2 p3 p4 hn' hd' hgi
  have HD := Lib.hid hden
  have HN := Lib.hid hnum
  clear cn cd hden hnum
  have hfin : (x ≤ 1000000000 ∧ y ≤ 1000000000) ∧ ans q = (if neg then -(x : Int) else x, (y : Int), 0) ∨ ¬ (x ≤ 1000000000 ∧ y ≤ 1000000000) ∧ ans q = (0, 0, 5) := by
    by_cases h : x ≤ 1000000000 ∧ y ≤ 1000000000
    · left
      rw [ans_yes (hi.2 h), HD.out, HN.out]
      exact ⟨h, rfl⟩
    · right
      rw [ans_no (fun h' => h (hi.1 h'))]
      exact ⟨h, rfl⟩
  clear hi
  by_cases hg : 1 < g
  · clear e1
    have ge1 : ((g : Int) == 0) = false := by simp; omega
    rcases hfin with ⟨⟨hx, hy⟩, ha⟩ | ⟨hxy, ha⟩
    · rw [ha]
      clear ha
      cases neg
      all_goals
        simp only [Bool.false_eq_true, if_false, if_true]
        go_enter Tryd.func36, Tryd.ntmps36
        go_wp2_with (go_at_call 25; refine (HZ.out _).mono ?_; rintro e w1 ⟨rfl, nq, rfl⟩)
        go_quiet (fail)
        rw [CN.out, CD.out]
        go_wp2
        go_returns
        exact ⟨rfl, by repeat (first | exact Below.refl _ _ | refine Below.alloc ?_ (by simp) _ | refine bdrewN ?_ _ | refine Below.drew ?_ | refine Below.setCell ?_ (by simp) _)⟩
    · rw [ha]
      clear ha
      by_cases hx : x ≤ 1000000000
      · have hy : ¬ y ≤ 1000000000 := fun h => hxy ⟨hx, h⟩
        clear hxy
        go_enter Tryd.func36, Tryd.ntmps36
        go_wp2_with (go_at_call 25; refine (HZ.out _).mono ?_; rintro e w1 ⟨rfl, nq, rfl⟩)
        go_quiet (fail)
        rw [CN.out, CD.out]
        go_wp2
        go_returns
        exact ⟨rfl, by repeat (first | exact Below.refl _ _ | refine Below.alloc ?_ (by simp) _ | refine bdrewN ?_ _ | refine Below.drew ?_ | refine Below.setCell ?_ (by simp) _)⟩
      · clear hxy
        go_enter Tryd.func36, Tryd.ntmps36
        go_wp2_with (go_at_call 25; refine (HZ.out _).mono ?_; rintro e w1 ⟨rfl, nq, rfl⟩)
        go_quiet (fail)
        rw [CN.out, CD.out]
        go_wp2
        go_returns
        exact ⟨rfl, by repeat (first | exact Below.refl _ _ | refine Below.alloc ?_ (by simp) _ | refine bdrewN ?_ _ | refine Below.drew ?_ | refine Below.setCell ?_ (by simp) _)⟩
  · obtain ⟨rfl, rfl⟩ := e1 (by omega)
    rcases hfin with ⟨⟨hx, hy⟩, ha⟩ | ⟨hxy, ha⟩
    · rw [ha]
      clear ha
      cases neg
      all_goals
        simp only [Bool.false_eq_true, if_false, if_true]
        go_enter Tryd.func36, Tryd.ntmps36
        go_wp2_with (go_at_call 25; refine (HZ.out _).mono ?_; rintro e w1 ⟨rfl, nq, rfl⟩)
        go_returns
        exact ⟨rfl, by repeat (first | exact Below.refl _ _ | refine Below.alloc ?_ (by simp) _ | refine bdrewN ?_ _ | refine Below.drew ?_ | refine Below.setCell ?_ (by simp) _)⟩
    · rw [ha]
      clear ha
      by_cases hx : x ≤ 1000000000
      · have hy : ¬ y ≤ 1000000000 := fun h => hxy ⟨hx, h⟩
        clear hxy
        go_enter Tryd.func36, Tryd.ntmps36
        go_wp2_with (go_at_call 25; refine (HZ.out _).mono ?_; rintro e w1 ⟨rfl, nq, rfl⟩)
        go_returns
        exact ⟨rfl, by repeat (first | exact Below.refl _ _ | refine Below.alloc ?_ (by simp) _ | refine bdrewN ?_ _ | refine Below.drew ?_ | refine Below.setCell ?_ (by simp) _)⟩
      · clear hxy
        go_enter Tryd.func36, Tryd.ntmps36
        go_wp2_with (go_at_call 25; refine (HZ.out _).mono ?_; rintro e w1 ⟨rfl, nq, rfl⟩)
        go_returns
        exact ⟨rfl, by repeat (first | exact Below.refl _ _ | refine Below.alloc ?_ (by simp) _ | refine bdrewN ?_ _ | refine Below.drew ?_ | refine Below.setCell ?_ (by simp) _)⟩
end Go.Proofs.YtpdlogpkfnpbpaaDoor
