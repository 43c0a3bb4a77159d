/- Walks of the reference's Int, Minus, Sign, Over, Times on rationals. Conditions: the parts lie in memory as naturals of at most 4,000 digits. -/
import Derived.Test.YtpdlogpkfnpbpaaDoorQa
namespace Go.Proofs.YtpdlogpkfnpbpaaDoor
open Go.RowKit

/-- a rational whose parts have at most 4,000 digits -/
def QOk (q : Rat) : Prop := (Num.dig q.num.natAbs).length ≤ 4000 ∧ (Num.dig q.den).length ≤ 4000

theorem q_form {w : World} {v : Value} {q : Rat} (h : QAt w v q) : ∃ s A n c A' n' c', v = .agg #[.bool s, .slice A n c, .slice A' n' c'] := by
  obtain ⟨s, vn, vd, rfl, _, h1, h2⟩ := h
  obtain ⟨A, c, rfl⟩ := natAt_len h1
  obtain ⟨A', c', rfl⟩ := natAt_len h2
  exact ⟨_, _, _, _, _, _, _, rfl⟩
theorem q_parts {w : World} {s : Bool} {vn vd : Value} {q : Rat} (h : QAt w (.agg #[.bool s, vn, vd]) q) : s = decide (q.num < 0) ∧ NatAt w vn q.num.natAbs ∧ NatAt w vd q.den := by
  obtain ⟨s', vn', vd', h0, h1, h2, h3⟩ := h
  injection h0 with h0
  have e := congrArg Array.toList h0
  simp at e
  obtain ⟨rfl, rfl, rfl⟩ := e
  exact ⟨h1, h2, h3⟩
theorem dig_mul (a b : Nat) : (Num.dig (a * b)).length ≤ (Num.dig a).length + (Num.dig b).length := by
  have h1 := Num.dig_len_le.1 (Nat.le_refl (Num.dig a).length)
  have h2 := Num.dig_len_le.1 (Nat.le_refl (Num.dig b).length)
  refine Num.dig_len_le.2 ?_
  rw [Nat.pow_add]
  exact Nat.mul_lt_mul'' h1 h2
theorem dig_add (a b : Nat) {k : Nat} (ha : (Num.dig a).length ≤ k) (hb : (Num.dig b).length ≤ k) : (Num.dig (a + b)).length ≤ k + 1 := by
  have h1 := Num.dig_len_le.1 ha
  have h2 := Num.dig_len_le.1 hb
  refine Num.dig_len_le.2 ?_
  rw [Nat.pow_succ]
  omega
theorem len_small {n : Nat} (h : n < 18446744073709551616) : (Num.dig n).length ≤ 2 := Num.dig_len_two.2 h
theorem abs_small {n : Int} (h : -9223372036854775808 ≤ n) (h' : n ≤ 9223372036854775807) : n.natAbs < 18446744073709551616 := by omega
theorem mk_int (n : Int) : Q.mk (decide (n < 0)) n.natAbs 1 = (n : Rat) := by
  unfold Q.mk
  have : (if decide (n < 0) = true then -(n.natAbs : Int) else n.natAbs) = n := by
    by_cases h : n < 0 <;> simp [h] <;> omega
  rw [this]
  exact Rat.mkRat_one n

theorem len_one : (Num.dig 1).length ≤ 20000 := by rw [dig_one]; simp
theorem len_one' : (Num.dig 1).length ≤ 4000 := by rw [dig_one]; simp

set_option maxHeartbeats 1000000 in
theorem int_any (n : Int) (w : World) (h : -9223372036854775808 ≤ n) (h' : n ≤ 9223372036854775807) : Calls Tryd.prog 21 #[.int .i64 n] w (RetQ w (n : Rat)) := by
  have hm := mk_int n
  by_cases h0 : n < 0
  · rw [decide_eq_true h0] at hm
    have HM := Lib.hid hm
    clear hm
    have e0 : (-(n + 1) + 1).toNat = n.natAbs := by omega
    have E0 := Lib.hid e0
    clear e0
    have b1 := len_small (abs_small h h')
    go_enter Tryd.func21, Tryd.ntmps21
    go_wp2_with (first
      | (go_at_call 42; refine (natural_any _ _ (by omega) (by omega)).mono ?_; rintro e w1 ⟨v1, rfl, hn1, hb1⟩; rw [E0.out] at hn1; obtain ⟨A1, c1, rfl⟩ := natAt_len hn1)
      | (go_at_call 38; refine (made_any true _ _ n.natAbs 1 _ (hn1.ext ((Below.refl _ _).alloc (Nat.le_refl _) _)) (one_new _) (by omega) len_one (by omega)).mono ?_; rintro e w2 ⟨v2, rfl, hq2, hb2⟩; obtain ⟨s2, A2, n2, c2, B2, m2, d2, rfl⟩ := q_form hq2; have E2 := ext_trans hb1 (ext_trans ((Below.refl _ _).alloc (Nat.le_refl _) _) hb2); obtain ⟨hc, hf, hz⟩ := new_cell E2))
    refine bodyPost_ret (v := .agg #[.bool s2, .slice A2 n2 c2, .slice B2 m2 d2]) (by simp [results, Tryd.results21, go_sem, hc]) rfl ?_
    rw [HM.out] at hq2
    exact ⟨_, rfl, hq2.off3 ((Typ.new w _ _).ext E2) (by decide) _ _ _, below3 (ext_trans ((Below.refl _ _).alloc (Nat.le_refl _) _) E2) (Nat.le_refl _) _ _ _⟩
  · rw [decide_eq_false h0] at hm
    have HM := Lib.hid hm
    clear hm
    have e0 : n.toNat = n.natAbs := by omega
    have E0 := Lib.hid e0
    clear e0
    have b1 := len_small (abs_small h h')
    go_enter Tryd.func21, Tryd.ntmps21
    go_wp2_with (first
      | (go_at_call 42; refine (natural_any _ _ (by omega) (by omega)).mono ?_; rintro e w1 ⟨v1, rfl, hn1, hb1⟩; rw [E0.out] at hn1; obtain ⟨A1, c1, rfl⟩ := natAt_len hn1)
      | (go_at_call 38; refine (made_any false _ _ n.natAbs 1 _ (hn1.ext ((Below.refl _ _).alloc (Nat.le_refl _) _)) (one_new _) (by omega) len_one (by omega)).mono ?_; rintro e w2 ⟨v2, rfl, hq2, hb2⟩; obtain ⟨s2, A2, n2, c2, B2, m2, d2, rfl⟩ := q_form hq2; have E2 := ext_trans hb1 (ext_trans ((Below.refl _ _).alloc (Nat.le_refl _) _) hb2); obtain ⟨hc, hf, hz⟩ := new_cell E2))
    refine bodyPost_ret (v := .agg #[.bool s2, .slice A2 n2 c2, .slice B2 m2 d2]) (by simp [results, Tryd.results21, go_sem, hc]) rfl ?_
    rw [HM.out] at hq2
    exact ⟨_, rfl, hq2.off3 ((Typ.new w _ _).ext E2) (by decide) _ _ _, below3 (ext_trans ((Below.refl _ _).alloc (Nat.le_refl _) _) E2) (Nat.le_refl _) _ _ _⟩

set_option maxHeartbeats 1000000 in
theorem minus_any (v : Value) (q : Rat) (w : World) (hq : QAt w v q) : Calls Tryd.prog 23 #[v] w (RetQ w (-q)) := by
  have hq' := hq
  obtain ⟨s, A, n, c, A', n', c', rfl⟩ := q_form hq
  obtain ⟨hs, h1, h2⟩ := q_parts hq
  have hl : n = (Num.dig q.num.natAbs).length := by obtain ⟨_, _, h⟩ := natAt_len h1; injection h
  have HQ := Lib.hid hq'
  have HS := Lib.hid hs
  have HN := Lib.hid h1
  have HD := Lib.hid h2
  clear hs h1 h2 hq hq'
  by_cases h0 : q.num = 0
  · have hn : n = 0 := by rw [hl, h0]; simp [Num.dig_zero]
    subst hn
    have e : -q = q := by rw [Rat.num_eq_zero.1 h0]; rfl
    rw [e]
    clear hl h0
    go_enter Tryd.func23, Tryd.ntmps23
    go_wp2
    go_returns
    refine ⟨_, rfl, HQ.out.ext ?_, ?_⟩ <;> exact ((Below.refl _ _).alloc (Nat.le_refl _) _).alloc (by simp) _
  · have hn : ((n : Int) == 0) = false := by
      have : n ≠ 0 := by rw [hl]; intro h; exact absurd (Num.dig_len_zero.1 h) (by omega)
      simp; omega
    have h3 : QAt w (.agg #[.bool (!s), .slice A n c, .slice A' n' c']) (-q) :=
      ⟨!s, _, _, rfl, by rw [Q.neg_parts q h0, HS.out], by rw [Rat.neg_num, Int.natAbs_neg]; exact HN.out, HD.out⟩
    have H3 := Lib.hid h3
    clear hl h0 h3
    go_enter Tryd.func23, Tryd.ntmps23
    go_wp2
    go_returns
    refine ⟨_, rfl, H3.out.ext ?_, ?_⟩ <;> exact ((Below.refl _ _).alloc (Nat.le_refl _) _).alloc (by simp) _
end Go.Proofs.YtpdlogpkfnpbpaaDoor
