/- Walks of the reference's Less, Order, Down, small, Whole on rationals. Conditions: the parts lie in memory as naturals of at most 4,000 digits. -/
import Derived.Test.YtpdlogpkfnpbpaaDoorQd
namespace Go.Proofs.YtpdlogpkfnpbpaaDoor
open Go.RowKit

theorem QOk.neg {q : Rat} (h : QOk q) : QOk (-q) := by
  unfold QOk
  rw [Rat.neg_num, Rat.neg_den, Int.natAbs_neg]
  exact h

set_option maxHeartbeats 1000000 in
theorem small_yes (v : Value) (n : Nat) (w : World) (hn : NatAt w v n) (h3 : n ≤ 4611686018427387904) : Calls Tryd.prog 43 #[v] w fun e w' => e = .returned (.tuple #[.int .i64 (n : Int), .bool true]) ∧ w = w' := by
  obtain ⟨A, c, rfl⟩ := natAt_len hn
  have HN := Lib.hid hn
  clear hn
  have h2 := Num.dig_len_two.2 (by omega : n < 18446744073709551616)
  have HLT := Lib.hid (by omega : n < 18446744073709551616)
  go_enter Tryd.func43, Tryd.ntmps43
  go_wp2_with (go_at_call 59; refine (short_any _ n _ HLT.out HN.out).mono ?_; rintro e w1 ⟨rfl, rfl⟩)
  go_ret2
  exact ⟨rfl, rfl⟩
set_option maxHeartbeats 1000000 in
theorem small_no (v : Value) (n : Nat) (w : World) (hn : NatAt w v n) (h3 : ¬ n ≤ 4611686018427387904) : Calls Tryd.prog 43 #[v] w fun e w' => e = .returned (.tuple #[.int .i64 0, .bool false]) ∧ w = w' := by
  obtain ⟨A, c, rfl⟩ := natAt_len hn
  have HN := Lib.hid hn
  clear hn
  by_cases h2 : (Num.dig n).length ≤ 2
  · have HLT := Lib.hid (Num.dig_len_two.1 h2)
    go_enter Tryd.func43, Tryd.ntmps43
    go_wp2_with (go_at_call 59; refine (short_any _ n _ HLT.out HN.out).mono ?_; rintro e w1 ⟨rfl, rfl⟩)
    go_ret2
    exact ⟨rfl, rfl⟩
  · clear h3
    go_enter Tryd.func43, Tryd.ntmps43
    go_wp2
    go_ret2
    exact ⟨rfl, rfl⟩
theorem small_any (v : Value) (n : Nat) (w : World) (hn : NatAt w v n) : Calls Tryd.prog 43 #[v] w fun e w' => (∃ x b, e = .returned (.tuple #[.int .i64 x, .bool b])) ∧ w = w' := by
  by_cases h : n ≤ 4611686018427387904
  · exact (small_yes v n w hn h).mono fun _ _ ⟨h1, h2⟩ => ⟨⟨_, _, h1⟩, h2⟩
  · exact (small_no v n w hn h).mono fun _ _ ⟨h1, h2⟩ => ⟨⟨_, _, h1⟩, h2⟩

theorem floor_neg {q : Rat} (h : q.num < 0) : q.floor = -(q.num.natAbs / q.den + if q.num.natAbs % q.den = 0 then 0 else 1 : Nat) := by
  rw [Rat.floor_def]
  have hd := q.den_pos
  generalize q.den = d at *
  obtain ⟨n, hn⟩ : ∃ n : Nat, q.num = -(n : Int) := ⟨q.num.natAbs, by omega⟩
  rw [hn, Int.natAbs_neg, Int.natAbs_natCast]
  have h1 := Nat.div_add_mod n d
  have h2 := Nat.mod_lt n hd
  generalize n / d = k at *
  generalize n % d = r at *
  subst h1
  rw [Int.natCast_add, Int.natCast_mul]
  by_cases hr : r = 0
  · subst hr
    simp only [if_true, Nat.add_zero, Int.natCast_zero, Int.add_zero]
    rw [← Int.mul_neg, Int.mul_ediv_cancel_left _ (by omega)]
  · rw [if_neg hr]
    have : -((d : Int) * k + r) = (d : Int) * (-((k + 1 : Nat) : Int)) + ((d - r : Nat) : Int) := by
      rw [Int.natCast_sub (Nat.le_of_lt h2), Int.natCast_add, Int.mul_neg, Int.mul_add]
      simp; omega
    rw [this, Int.add_comm, Int.add_mul_ediv_left _ _ (by omega), Int.ediv_eq_zero_of_lt (by omega) (by omega)]
    omega
theorem floor_pos {q : Rat} (h : ¬ q.num < 0) : q.floor = ((q.num.natAbs / q.den : Nat) : Int) := by
  rw [Rat.floor_def]
  have e : q.num = (q.num.natAbs : Int) := by omega
  rw [e]
  simp
theorem down_pos {q : Rat} (h : ¬ q.num < 0) : Q.mk false (q.num.natAbs / q.den) 1 = (q.floor : Rat) := by
  rw [← mk_int, floor_pos h]
  congr 1
theorem down_neg {q : Rat} (h : q.num < 0) : Q.mk true (q.num.natAbs / q.den + if q.num.natAbs % q.den = 0 then 0 else 1) 1 = (q.floor : Rat) := by
  have hf := floor_neg h
  have h0 : 0 < (q.num.natAbs / q.den + if q.num.natAbs % q.den = 0 then 0 else 1) := by
    by_cases hr : q.num.natAbs % q.den = 0
    · rw [if_pos hr]
      have := Nat.div_add_mod q.num.natAbs q.den
      rcases Nat.eq_zero_or_pos (q.num.natAbs / q.den) with h1 | h1
      · rw [h1, hr] at this; omega
      · exact h1
    · rw [if_neg hr]; exact Nat.succ_pos _
  generalize (q.num.natAbs / q.den + if q.num.natAbs % q.den = 0 then 0 else 1) = x at *
  rw [← mk_int]
  have e1 : decide (q.floor < 0) = true := by rw [hf]; simp; omega
  have e2 : q.floor.natAbs = x := by rw [hf, Int.natAbs_neg, Int.natAbs_natCast]
  rw [e1, e2]
end Go.Proofs.YtpdlogpkfnpbpaaDoor
