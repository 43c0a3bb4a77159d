/- Walks of the reference's Less, Order, Down, small, Whole on rationals. Conditions: the parts lie in memory as naturals of at most 4,000 digits. -/
import Derived.Test.YthkoblnfeebafaaQd
namespace Go.Proofs.Ythkoblnfeebafaa
open Go.RowKit

theorem QOk.neg {q : Rat} (h : QOk q) : QOk (-q) := by
  unfold QOk
  rw [Rat.neg_num, Rat.neg_den, Int.natAbs_neg]
  exact h

set_option maxRecDepth 100000 in
set_option maxHeartbeats 4000000 in
theorem less_q (va vb : Value) (a b : Rat) (w : World) (ha : QAt w va a) (hb : QAt w vb b) (za : QOk a) (zb : QOk b) : Calls Try.prog 33 #[va, vb] w (RetQ w (a - b)) := by
  have HA := Lib.hid ha
  have HB := Lib.hid hb
  have ZB := zb.neg
  obtain ⟨s, A, n, c, A', n', c', rfl⟩ := q_form ha
  obtain ⟨t, B, m, d, B', m', d', rfl⟩ := q_form hb
  have HM := Lib.hid (Rat.sub_eq_add_neg a b)
  clear ha hb
  obtain ⟨W0, hW0⟩ : ∃ W0, W0 = ((w.alloc (.cells #[.bool s, .slice A n c, .slice A' n' c'] 44)).alloc (.cells #[.bool t, .slice B m d, .slice B' m' d'] 44)).alloc (.cells #[.bool false, .slice none 0 0, .slice none 0 0] 44) := ⟨_, rfl⟩
  have hw0 : Below w.heap.size w W0 := by rw [hW0]; exact (((Below.refl _ _).alloc (Nat.le_refl _) _).alloc (by simp) _).alloc (by simp; omega) _
  have hH0 : Held 44 (w.heap.size + 1 + 1) W0 W0 := ⟨Below.refl _ _, by rw [hW0]; exact ⟨_, _, _, by simpa using heap_alloc_new ((w.alloc _).alloc _) _⟩⟩
  have hS : ∀ w', Held 44 (w.heap.size + 1 + 1) W0 w' → (Held 44 (w.heap.size + 1 + 1) W0 w' ∧ w'.cell? ⟨w.heap.size, 0, none⟩ = some (.bool s) ∧ w'.cell? ⟨w.heap.size, 1, none⟩ = some (.slice A n c) ∧ w'.cell? ⟨w.heap.size, 2, none⟩ = some (.slice A' n' c') ∧
      w'.cell? ⟨w.heap.size + 1, 0, none⟩ = some (.bool t) ∧ w'.cell? ⟨w.heap.size + 1, 1, none⟩ = some (.slice B m d) ∧ w'.cell? ⟨w.heap.size + 1, 2, none⟩ = some (.slice B' m' d')) := by
    intro w' h
    obtain ⟨b1, b2⟩ := bcell h.1
    refine ⟨h, ?_, ?_, ?_, ?_, ?_, ?_⟩ <;> (rw [b1 _ _ (by omega), hW0]; simp [go_sem])
  have HSS := Lib.hid hS
  have HW0 := Lib.hid hW0
  have HH0 := Lib.hid hH0
  clear hS hH0
  go_enter Try.func33, Try.ntmps33
  go_wp2
  rw [← HW0.out]
  clear hW0
  go_region_held3 (fun w' => Held 44 (w.heap.size + 1 + 1) W0 w' ∧ w'.cell? ⟨w.heap.size, 0, none⟩ = some (.bool s) ∧ w'.cell? ⟨w.heap.size, 1, none⟩ = some (.slice A n c) ∧ w'.cell? ⟨w.heap.size, 2, none⟩ = some (.slice A' n' c') ∧
      w'.cell? ⟨w.heap.size + 1, 0, none⟩ = some (.bool t) ∧ w'.cell? ⟨w.heap.size + 1, 1, none⟩ = some (.slice B m d) ∧ w'.cell? ⟨w.heap.size + 1, 2, none⟩ = some (.slice B' m' d'))
    (first | exact HSS.out _ (Held.call (And.left (by assumption)) (by assumption)) | exact HSS.out _ HH0.out.drew | exact HSS.out _ (Held.store (And.left (by assumption)) _ _ _))
    (first
      | (go_at_call 36; refine (minus_any _ b _ (HB.out.ext ?_)).mono ?_; exact Held.from (And.left (by assumption)) hw0 (by omega); rintro e w1 ⟨v1, rfl, hn1, hx1⟩; obtain ⟨s1, A1, n1, c1, B1, m1, d1, rfl⟩ := q_form hn1)
      | (go_at_call 40; refine (plus_q _ _ a (-b) _ (HA.out.ext ?_) hn1 za ZB).mono ?_; exact Held.from (And.left (by assumption)) hw0 (by omega); rintro e w3 ⟨v3, rfl, hq3, hx3⟩; obtain ⟨s3, A3, n3, c3, B3, m3, d3, rfl⟩ := q_form hq3; have hh3 := Held.call (And.left (by assumption)) hx3; obtain ⟨r0, r1, r2, hc, hf, hz⟩ := hh3.2.facts))
  all_goals
    go_wp2
    refine bodyPost_ret (v := .agg #[.bool s3, .slice A3 n3 c3, .slice B3 m3 d3]) (by simp [results, Try.results33, go_sem, hc]) rfl ?_
    have hq4 : QAt w3 (.agg #[.bool s3, .slice A3 n3 c3, .slice B3 m3 d3]) (a - b) := by rw [HM.out]; exact hq3
    exact ⟨_, rfl, hq4.off3 hh3.2.typ (by decide) _ _ _, Held.from (hh3.store _ _ _) hw0 (by omega)⟩

set_option maxHeartbeats 1000000 in
theorem order_q (va vb : Value) (a b : Rat) (w : World) (ha : QAt w va a) (hb : QAt w vb b) (za : QOk a) (zb : QOk b) :
    Calls Try.prog 39 #[va, vb] w fun e w' => e = .returned (.int .i64 (a - b).num.sign) ∧ Below w.heap.size w w' := by
  have HA := Lib.hid ha
  have HB := Lib.hid hb
  obtain ⟨s, A, n, c, A', n', c', rfl⟩ := q_form ha
  obtain ⟨t, B, m, d, B', m', d', rfl⟩ := q_form hb
  clear ha hb
  have hx0 : ∀ x y, Below w.heap.size w ((w.alloc x).alloc y) := fun x y => ((Below.refl _ _).alloc (Nat.le_refl _) _).alloc (by simp) _
  have HX0 := Lib.hid hx0
  clear hx0
  go_enter Try.func39, Try.ntmps39
  go_wp2_with (first
    | (go_at_call 33; refine (less_q _ _ a b _ (HA.out.ext (HX0.out _ _)) (HB.out.ext (HX0.out _ _)) za zb).mono ?_; rintro e w1 ⟨v1, rfl, hn1, hx1⟩; obtain ⟨s1, A1, n1, c1, B1, m1, d1, rfl⟩ := q_form hn1)
    | (go_at_call 35; refine (sign_any _ (a - b) _ hn1).mono ?_; rintro e w2 ⟨rfl, hx2⟩))
  go_ret
  exact ⟨rfl, ext_trans (HX0.out _ _) (ext_trans hx1 hx2)⟩

set_option maxHeartbeats 1000000 in
theorem small_yes (v : Value) (n : Nat) (w : World) (hn : NatAt w v n) (h3 : n ≤ 4611686018427387904) : Calls Try.prog 84 #[v] w fun e w' => e = .returned (.tuple #[.int .i64 (n : Int), .bool true]) ∧ w = w' := by
  obtain ⟨A, c, rfl⟩ := natAt_len hn
  have HN := Lib.hid hn
  clear hn
  have h2 := Num.dig_len_two.2 (by omega : n < 18446744073709551616)
  have HLT := Lib.hid (by omega : n < 18446744073709551616)
  go_enter Try.func84, Try.ntmps84
  go_wp2_with (go_at_call 105; refine (short_any _ n _ HLT.out HN.out).mono ?_; rintro e w1 ⟨rfl, rfl⟩)
  go_ret2
  exact ⟨rfl, rfl⟩
set_option maxHeartbeats 1000000 in
theorem small_no (v : Value) (n : Nat) (w : World) (hn : NatAt w v n) (h3 : ¬ n ≤ 4611686018427387904) : Calls Try.prog 84 #[v] w fun e w' => e = .returned (.tuple #[.int .i64 0, .bool false]) ∧ w = w' := by
  obtain ⟨A, c, rfl⟩ := natAt_len hn
  have HN := Lib.hid hn
  clear hn
  by_cases h2 : (Num.dig n).length ≤ 2
  · have HLT := Lib.hid (Num.dig_len_two.1 h2)
    go_enter Try.func84, Try.ntmps84
    go_wp2_with (go_at_call 105; refine (short_any _ n _ HLT.out HN.out).mono ?_; rintro e w1 ⟨rfl, rfl⟩)
    go_ret2
    exact ⟨rfl, rfl⟩
  · clear h3
    go_enter Try.func84, Try.ntmps84
    go_wp2
    go_ret2
    exact ⟨rfl, rfl⟩
theorem small_any (v : Value) (n : Nat) (w : World) (hn : NatAt w v n) : Calls Try.prog 84 #[v] w fun e w' => (∃ x b, e = .returned (.tuple #[.int .i64 x, .bool b])) ∧ w = w' := by
  by_cases h : n ≤ 4611686018427387904
  · exact (small_yes v n w hn h).mono fun _ _ ⟨h1, h2⟩ => ⟨⟨_, _, h1⟩, h2⟩
  · exact (small_no v n w hn h).mono fun _ _ ⟨h1, h2⟩ => ⟨⟨_, _, h1⟩, h2⟩

theorem floor_neg {q : Rat} (h : q.num < 0) : q.floor = -(q.num.natAbs / q.den + if q.num.natAbs % q.den = 0 then 0 else 1 : Nat) := by
  rw [Rat.floor_def]
  have hd := q.den_pos
  generalize q.den = d at *
  obtain ⟨n, hn⟩ : ∃ n : Nat, q.num = -(n : Int) := ⟨q.num.natAbs, by omega⟩
  rw [hn, Int.natAbs_neg, Int.natAbs_natCast]
  have h1 := Nat.div_add_mod n d
  have h2 := Nat.mod_lt n hd
  generalize n / d = k at *
  generalize n % d = r at *
  subst h1
  rw [Int.natCast_add, Int.natCast_mul]
  by_cases hr : r = 0
  · subst hr
    simp only [if_true, Nat.add_zero, Int.natCast_zero, Int.add_zero]
    rw [← Int.mul_neg, Int.mul_ediv_cancel_left _ (by omega)]
  · rw [if_neg hr]
    have : -((d : Int) * k + r) = (d : Int) * (-((k + 1 : Nat) : Int)) + ((d - r : Nat) : Int) := by
      rw [Int.natCast_sub (Nat.le_of_lt h2), Int.natCast_add, Int.mul_neg, Int.mul_add]
      simp; omega
    rw [this, Int.add_comm, Int.add_mul_ediv_left _ _ (by omega), Int.ediv_eq_zero_of_lt (by omega) (by omega)]
    omega
theorem floor_pos {q : Rat} (h : ¬ q.num < 0) : q.floor = ((q.num.natAbs / q.den : Nat) : Int) := by
  rw [Rat.floor_def]
  have e : q.num = (q.num.natAbs : Int) := by omega
  rw [e]
  simp
theorem down_pos {q : Rat} (h : ¬ q.num < 0) : Q.mk false (q.num.natAbs / q.den) 1 = (q.floor : Rat) := by
  rw [← mk_int, floor_pos h]
  congr 1
theorem down_neg {q : Rat} (h : q.num < 0) : Q.mk true (q.num.natAbs / q.den + if q.num.natAbs % q.den = 0 then 0 else 1) 1 = (q.floor : Rat) := by
  have hf := floor_neg h
  have h0 : 0 < (q.num.natAbs / q.den + if q.num.natAbs % q.den = 0 then 0 else 1) := by
    by_cases hr : q.num.natAbs % q.den = 0
    · rw [if_pos hr]
      have := Nat.div_add_mod q.num.natAbs q.den
      rcases Nat.eq_zero_or_pos (q.num.natAbs / q.den) with h1 | h1
      · rw [h1, hr] at this; omega
      · exact h1
    · rw [if_neg hr]; exact Nat.succ_pos _
  generalize (q.num.natAbs / q.den + if q.num.natAbs % q.den = 0 then 0 else 1) = x at *
  rw [← mk_int]
  have e1 : decide (q.floor < 0) = true := by rw [hf]; simp; omega
  have e2 : q.floor.natAbs = x := by rw [hf, Int.natAbs_neg, Int.natAbs_natCast]
  rw [e1, e2]
end Go.Proofs.Ythkoblnfeebafaa
