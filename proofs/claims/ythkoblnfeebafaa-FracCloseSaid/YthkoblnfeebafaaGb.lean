/- Walks of frac's round, mode. Conditions: the arguments are within their kinds. -/
import Derived.Test.YthkoblnfeebafaaGa
namespace Go.Proofs.Ythkoblnfeebafaa
open Go.RowKit

/-- what a mode makes of a whole part q and a rest r of n/d -/
def upB (n d q r m : Int) : Bool :=
  if m = 1 then decide (0 < r) else if m = 2 then decide (0 < r) && decide (n < 0) else if m = 3 then decide (d - r ≤ r) else if m = 4 then decide (d - r < r) || (decide (r = d - r) && decide (q % 2 = 1)) else false
def rndV (n d q r m : Int) : Int := if upB n d q r m = true then q + 1 else q
theorem rnd_yes {n d q r m : Int} (h : upB n d q r m = true) : rndV n d q r m = q + 1 := if_pos h
theorem rnd_no {n d q r m : Int} (h : upB n d q r m = false) : rndV n d q r m = q := if_neg (by rw [h]; decide)
def Rnd (n d q r m : Int) (w : World) (e : Ending) (w' : World) : Prop := e = .returned (.int .i64 (rndV n d q r m)) ∧ Below w.heap.size w w'
theorem Rnd.yes {n d q r m : Int} {w w' : World} (h : upB n d q r m = true) (hb : Below w.heap.size w w') : Rnd n d q r m w (.returned (.int .i64 (q + 1))) w' := ⟨by rw [rnd_yes h], hb⟩
theorem Rnd.no {n d q r m : Int} {w w' : World} (h : upB n d q r m = false) (hb : Below w.heap.size w w') : Rnd n d q r m w (.returned (.int .i64 q)) w' := ⟨by rw [rnd_no h], hb⟩
theorem odd_tmod {q : Int} : (q.tmod 2 != 0) = decide (q % 2 = 1) := by
  have h1 := Int.mul_tdiv_add_tmod q 2
  have h2 := Int.mul_ediv_add_emod q 2
  have h3 := Int.emod_two_eq q
  have h4 : q.tmod 2 < 2 := Int.tmod_lt_of_pos q (by omega)
  have h5 : -2 < q.tmod 2 := by
    have := Int.tmod_lt_of_pos (-q) (show (0 : Int) < 2 by omega)
    rw [Int.neg_tmod] at this
    omega
  rw [Bool.eq_iff_iff]
  simp
  omega
set_option maxRecDepth 100000 in
set_option maxHeartbeats 1000000 in
theorem round_other (n d q r m : Int) (w : World) (_h1 : -1000000000000000000 ≤ q) (_h2 : q ≤ 1000000000000000000) (_h3 : 1 ≤ d) (_h4 : d ≤ 1000000000000000000) (_h5 : 0 ≤ r) (_h6 : r < d) (h7 : m ≠ 1) (h8 : m ≠ 2) (h9 : m ≠ 3) (h10 : m ≠ 4)
    (HF : Hid (∀ W, Calls Try.prog 96 #[.agg #[.int .i64 n, .int .i64 (d)]] W fun e w' => e = .returned (.tuple #[.int .i64 q, .int .i64 r]) ∧ Below W.heap.size W w')) :
    Calls Try.prog 83 #[.agg #[.int .i64 n, .int .i64 (d)], .int .i64 m] w (Rnd n (d) q r m w) := by
  have hu : upB n (d) q r m = false := by
    unfold upB; rw [if_neg h7, if_neg h8, if_neg h9, if_neg h10]
  have HU := Lib.hid hu
  have t1 : (m == 1) = false := by simpa using h7
  have t2 : (m == 2) = false := by simpa using h8
  have t3 : (m == 3) = false := by simpa using h9
  have t4 : (m == 4) = false := by simpa using h10
  clear hu h7 h8 h9 h10
  go_enter Try.func83, Try.ntmps83
  go_wp2_with (go_at_call 96; refine (HF.out _).mono ?_; rintro e w1 ⟨rfl, hx1⟩; obtain ⟨k1, k2, k3⟩ := new_cell hx1)
  go_ret
  exact Rnd.no HU.out (ext_trans ((Below.refl _ _).alloc (Nat.le_refl _) _) hx1)
set_option maxRecDepth 100000 in
set_option maxHeartbeats 1000000 in
theorem round_1a (n d q r : Int) (w : World) (_h1 : -1000000000000000000 ≤ q) (_h2 : q ≤ 1000000000000000000) (_h3 : 1 ≤ d) (_h4 : d ≤ 1000000000000000000) (_h5 : 0 ≤ r) (_h6 : r < d) (_h7 : 0 < r)
    (HF : Hid (∀ W, Calls Try.prog 96 #[.agg #[.int .i64 n, .int .i64 (d)]] W fun e w' => e = .returned (.tuple #[.int .i64 q, .int .i64 r]) ∧ Below W.heap.size W w')) :
    Calls Try.prog 83 #[.agg #[.int .i64 n, .int .i64 (d)], .int .i64 1] w (Rnd n (d) q r 1 w) := by
  have hu : upB n (d) q r 1 = true := by
    unfold upB; simp; omega
  have HU := Lib.hid hu
  clear hu
  go_enter Try.func83, Try.ntmps83
  go_wp2_with (go_at_call 96; refine (HF.out _).mono ?_; rintro e w1 ⟨rfl, hx1⟩; obtain ⟨k1, k2, k3⟩ := new_cell hx1)
  go_ret
  exact Rnd.yes HU.out (ext_trans ((Below.refl _ _).alloc (Nat.le_refl _) _) hx1)
set_option maxRecDepth 100000 in
set_option maxHeartbeats 1000000 in
theorem round_1b (n d q r : Int) (w : World) (_h1 : -1000000000000000000 ≤ q) (_h2 : q ≤ 1000000000000000000) (_h3 : 1 ≤ d) (_h4 : d ≤ 1000000000000000000) (_h5 : 0 ≤ r) (_h6 : r < d) (_h7 : r ≤ 0)
    (HF : Hid (∀ W, Calls Try.prog 96 #[.agg #[.int .i64 n, .int .i64 (d)]] W fun e w' => e = .returned (.tuple #[.int .i64 q, .int .i64 r]) ∧ Below W.heap.size W w')) :
    Calls Try.prog 83 #[.agg #[.int .i64 n, .int .i64 (d)], .int .i64 1] w (Rnd n (d) q r 1 w) := by
  have hu : upB n (d) q r 1 = false := by
    unfold upB; simp; omega
  have HU := Lib.hid hu
  clear hu
  go_enter Try.func83, Try.ntmps83
  go_wp2_with (go_at_call 96; refine (HF.out _).mono ?_; rintro e w1 ⟨rfl, hx1⟩; obtain ⟨k1, k2, k3⟩ := new_cell hx1)
  go_ret
  exact Rnd.no HU.out (ext_trans ((Below.refl _ _).alloc (Nat.le_refl _) _) hx1)
set_option maxRecDepth 100000 in
set_option maxHeartbeats 1000000 in
theorem round_2a (n d q r : Int) (w : World) (_h1 : -1000000000000000000 ≤ q) (_h2 : q ≤ 1000000000000000000) (_h3 : 1 ≤ d) (_h4 : d ≤ 1000000000000000000) (_h5 : 0 ≤ r) (_h6 : r < d) (_h7 : 0 < r) (_h8 : n < 0)
    (HF : Hid (∀ W, Calls Try.prog 96 #[.agg #[.int .i64 n, .int .i64 (d)]] W fun e w' => e = .returned (.tuple #[.int .i64 q, .int .i64 r]) ∧ Below W.heap.size W w')) :
    Calls Try.prog 83 #[.agg #[.int .i64 n, .int .i64 (d)], .int .i64 2] w (Rnd n (d) q r 2 w) := by
  have hu : upB n (d) q r 2 = true := by
    unfold upB; simp; omega
  have HU := Lib.hid hu
  clear hu
  go_enter Try.func83, Try.ntmps83
  go_wp2_with (go_at_call 96; refine (HF.out _).mono ?_; rintro e w1 ⟨rfl, hx1⟩; obtain ⟨k1, k2, k3⟩ := new_cell hx1)
  go_ret
  exact Rnd.yes HU.out (ext_trans ((Below.refl _ _).alloc (Nat.le_refl _) _) hx1)
set_option maxRecDepth 100000 in
set_option maxHeartbeats 1000000 in
theorem round_2b (n d q r : Int) (w : World) (_h1 : -1000000000000000000 ≤ q) (_h2 : q ≤ 1000000000000000000) (_h3 : 1 ≤ d) (_h4 : d ≤ 1000000000000000000) (_h5 : 0 ≤ r) (_h6 : r < d) (_h7 : 0 < r) (_h8 : 0 ≤ n)
    (HF : Hid (∀ W, Calls Try.prog 96 #[.agg #[.int .i64 n, .int .i64 (d)]] W fun e w' => e = .returned (.tuple #[.int .i64 q, .int .i64 r]) ∧ Below W.heap.size W w')) :
    Calls Try.prog 83 #[.agg #[.int .i64 n, .int .i64 (d)], .int .i64 2] w (Rnd n (d) q r 2 w) := by
  have hu : upB n (d) q r 2 = false := by
    unfold upB; simp; omega
  have HU := Lib.hid hu
  clear hu
  go_enter Try.func83, Try.ntmps83
  go_wp2_with (go_at_call 96; refine (HF.out _).mono ?_; rintro e w1 ⟨rfl, hx1⟩; obtain ⟨k1, k2, k3⟩ := new_cell hx1)
  go_ret
  exact Rnd.no HU.out (ext_trans ((Below.refl _ _).alloc (Nat.le_refl _) _) hx1)
set_option maxRecDepth 100000 in
set_option maxHeartbeats 1000000 in
theorem round_2c (n d q r : Int) (w : World) (_h1 : -1000000000000000000 ≤ q) (_h2 : q ≤ 1000000000000000000) (_h3 : 1 ≤ d) (_h4 : d ≤ 1000000000000000000) (_h5 : 0 ≤ r) (_h6 : r < d) (_h7 : r ≤ 0)
    (HF : Hid (∀ W, Calls Try.prog 96 #[.agg #[.int .i64 n, .int .i64 (d)]] W fun e w' => e = .returned (.tuple #[.int .i64 q, .int .i64 r]) ∧ Below W.heap.size W w')) :
    Calls Try.prog 83 #[.agg #[.int .i64 n, .int .i64 (d)], .int .i64 2] w (Rnd n (d) q r 2 w) := by
  have hu : upB n (d) q r 2 = false := by
    unfold upB; simp; omega
  have HU := Lib.hid hu
  clear hu
  go_enter Try.func83, Try.ntmps83
  go_wp2_with (go_at_call 96; refine (HF.out _).mono ?_; rintro e w1 ⟨rfl, hx1⟩; obtain ⟨k1, k2, k3⟩ := new_cell hx1)
  go_ret
  exact Rnd.no HU.out (ext_trans ((Below.refl _ _).alloc (Nat.le_refl _) _) hx1)
set_option maxRecDepth 100000 in
set_option maxHeartbeats 1000000 in
theorem round_3a (n d q r : Int) (w : World) (_h1 : -1000000000000000000 ≤ q) (_h2 : q ≤ 1000000000000000000) (_h3 : 1 ≤ d) (_h4 : d ≤ 1000000000000000000) (_h5 : 0 ≤ r) (_h6 : r < d) (_h7 : d - r ≤ r)
    (HF : Hid (∀ W, Calls Try.prog 96 #[.agg #[.int .i64 n, .int .i64 (d)]] W fun e w' => e = .returned (.tuple #[.int .i64 q, .int .i64 r]) ∧ Below W.heap.size W w')) :
    Calls Try.prog 83 #[.agg #[.int .i64 n, .int .i64 (d)], .int .i64 3] w (Rnd n (d) q r 3 w) := by
  have hu : upB n (d) q r 3 = true := by
    unfold upB; simp; omega
  have HU := Lib.hid hu
  clear hu
  go_enter Try.func83, Try.ntmps83
  go_wp2_with (go_at_call 96; refine (HF.out _).mono ?_; rintro e w1 ⟨rfl, hx1⟩; obtain ⟨k1, k2, k3⟩ := new_cell hx1)
  go_ret
  exact Rnd.yes HU.out (ext_trans ((Below.refl _ _).alloc (Nat.le_refl _) _) hx1)
set_option maxRecDepth 100000 in
set_option maxHeartbeats 1000000 in
theorem round_3b (n d q r : Int) (w : World) (_h1 : -1000000000000000000 ≤ q) (_h2 : q ≤ 1000000000000000000) (_h3 : 1 ≤ d) (_h4 : d ≤ 1000000000000000000) (_h5 : 0 ≤ r) (_h6 : r < d) (_h7 : r < d - r)
    (HF : Hid (∀ W, Calls Try.prog 96 #[.agg #[.int .i64 n, .int .i64 (d)]] W fun e w' => e = .returned (.tuple #[.int .i64 q, .int .i64 r]) ∧ Below W.heap.size W w')) :
    Calls Try.prog 83 #[.agg #[.int .i64 n, .int .i64 (d)], .int .i64 3] w (Rnd n (d) q r 3 w) := by
  have hu : upB n (d) q r 3 = false := by
    unfold upB; simp; omega
  have HU := Lib.hid hu
  clear hu
  go_enter Try.func83, Try.ntmps83
  go_wp2_with (go_at_call 96; refine (HF.out _).mono ?_; rintro e w1 ⟨rfl, hx1⟩; obtain ⟨k1, k2, k3⟩ := new_cell hx1)
  go_ret
  exact Rnd.no HU.out (ext_trans ((Below.refl _ _).alloc (Nat.le_refl _) _) hx1)
set_option maxRecDepth 100000 in
set_option maxHeartbeats 1000000 in
theorem round_4a (n d q r : Int) (w : World) (_h1 : -1000000000000000000 ≤ q) (_h2 : q ≤ 1000000000000000000) (_h3 : 1 ≤ d) (_h4 : d ≤ 1000000000000000000) (_h5 : 0 ≤ r) (_h6 : r < d) (_h7 : d - r < r)
    (HF : Hid (∀ W, Calls Try.prog 96 #[.agg #[.int .i64 n, .int .i64 (d)]] W fun e w' => e = .returned (.tuple #[.int .i64 q, .int .i64 r]) ∧ Below W.heap.size W w')) :
    Calls Try.prog 83 #[.agg #[.int .i64 n, .int .i64 (d)], .int .i64 4] w (Rnd n (d) q r 4 w) := by
  have hu : upB n (d) q r 4 = true := by
    unfold upB; simp; omega
  have HU := Lib.hid hu
  clear hu
  go_enter Try.func83, Try.ntmps83
  go_wp2_with (go_at_call 96; refine (HF.out _).mono ?_; rintro e w1 ⟨rfl, hx1⟩; obtain ⟨k1, k2, k3⟩ := new_cell hx1)
  go_ret
  exact Rnd.yes HU.out (ext_trans ((Below.refl _ _).alloc (Nat.le_refl _) _) hx1)
set_option maxRecDepth 100000 in
set_option maxHeartbeats 1000000 in
theorem round_4b (n d q r : Int) (w : World) (_h1 : -1000000000000000000 ≤ q) (_h2 : q ≤ 1000000000000000000) (_h3 : 1 ≤ d) (_h4 : d ≤ 1000000000000000000) (_h5 : 0 ≤ r) (_h6 : r < d) (_h7 : r < d - r)
    (HF : Hid (∀ W, Calls Try.prog 96 #[.agg #[.int .i64 n, .int .i64 (d)]] W fun e w' => e = .returned (.tuple #[.int .i64 q, .int .i64 r]) ∧ Below W.heap.size W w')) :
    Calls Try.prog 83 #[.agg #[.int .i64 n, .int .i64 (d)], .int .i64 4] w (Rnd n (d) q r 4 w) := by
  have hu : upB n (d) q r 4 = false := by
    unfold upB; simp; omega
  have HU := Lib.hid hu
  clear hu
  go_enter Try.func83, Try.ntmps83
  go_wp2_with (go_at_call 96; refine (HF.out _).mono ?_; rintro e w1 ⟨rfl, hx1⟩; obtain ⟨k1, k2, k3⟩ := new_cell hx1)
  go_ret
  exact Rnd.no HU.out (ext_trans ((Below.refl _ _).alloc (Nat.le_refl _) _) hx1)
set_option maxRecDepth 100000 in
set_option maxHeartbeats 1000000 in
theorem round_4c (n q r : Int) (w : World) (_h1 : -1000000000000000000 ≤ q) (_h2 : q ≤ 1000000000000000000) (_h3 : 1 ≤ r + r) (_h4 : r + r ≤ 1000000000000000000) (_h5 : 0 ≤ r) (_h6 : r < r + r) (h9 : (q.tmod 2 != 0) = true)
    (HF : Hid (∀ W, Calls Try.prog 96 #[.agg #[.int .i64 n, .int .i64 (r + r)]] W fun e w' => e = .returned (.tuple #[.int .i64 q, .int .i64 r]) ∧ Below W.heap.size W w')) :
    Calls Try.prog 83 #[.agg #[.int .i64 n, .int .i64 (r + r)], .int .i64 4] w (Rnd n (r + r) q r 4 w) := by
  have hu : upB n (r + r) q r 4 = true := by
    have h10 := odd_tmod (q := q); rw [h9] at h10; unfold upB; rw [← h10]; simp
  have HU := Lib.hid hu
  clear hu
  go_enter Try.func83, Try.ntmps83
  go_wp2_with (go_at_call 96; refine (HF.out _).mono ?_; rintro e w1 ⟨rfl, hx1⟩; obtain ⟨k1, k2, k3⟩ := new_cell hx1)
  go_ret
  exact Rnd.yes HU.out (ext_trans ((Below.refl _ _).alloc (Nat.le_refl _) _) hx1)
set_option maxRecDepth 100000 in
set_option maxHeartbeats 1000000 in
theorem round_4d (n q r : Int) (w : World) (_h1 : -1000000000000000000 ≤ q) (_h2 : q ≤ 1000000000000000000) (_h3 : 1 ≤ r + r) (_h4 : r + r ≤ 1000000000000000000) (_h5 : 0 ≤ r) (_h6 : r < r + r) (h9 : (q.tmod 2 != 0) = false)
    (HF : Hid (∀ W, Calls Try.prog 96 #[.agg #[.int .i64 n, .int .i64 (r + r)]] W fun e w' => e = .returned (.tuple #[.int .i64 q, .int .i64 r]) ∧ Below W.heap.size W w')) :
    Calls Try.prog 83 #[.agg #[.int .i64 n, .int .i64 (r + r)], .int .i64 4] w (Rnd n (r + r) q r 4 w) := by
  have hu : upB n (r + r) q r 4 = false := by
    have h10 := odd_tmod (q := q); rw [h9] at h10; unfold upB; rw [← h10]; simp
  have HU := Lib.hid hu
  clear hu
  go_enter Try.func83, Try.ntmps83
  go_wp2_with (go_at_call 96; refine (HF.out _).mono ?_; rintro e w1 ⟨rfl, hx1⟩; obtain ⟨k1, k2, k3⟩ := new_cell hx1)
  go_ret
  exact Rnd.no HU.out (ext_trans ((Below.refl _ _).alloc (Nat.le_refl _) _) hx1)

theorem round_any (n d m : Int) (w : World) (h1 : -1000000000000000000 ≤ n) (h2 : n ≤ 1000000000000000000) (h3 : 1 ≤ d) (h4 : d ≤ 1000000000000000000) :
    Calls Try.prog 83 #[.agg #[.int .i64 n, .int .i64 d], .int .i64 m] w (Rnd n d (n / d) (n % d) m w) := by
  have HF := Lib.hid (fun W => floor_any n d W h1 h2 h3 h4)
  obtain ⟨b1, b2⟩ := div_bd (B := 1000000000000000000) h3 h1 h2 (by omega)
  have b3 := Int.emod_nonneg n (show d ≠ 0 by omega)
  have b4 := Int.emod_lt_of_pos n (show 0 < d by omega)
  generalize n / d = q at *
  generalize n % d = r at *
  by_cases e1 : m = 1
  · subst e1
    by_cases h : 0 < r
    · exact round_1a n d q r w b1 b2 h3 h4 b3 b4 h HF
    · exact round_1b n d q r w b1 b2 h3 h4 b3 b4 (by omega) HF
  by_cases e2 : m = 2
  · subst e2
    by_cases h : 0 < r
    · by_cases h' : n < 0
      · exact round_2a n d q r w b1 b2 h3 h4 b3 b4 h h' HF
      · exact round_2b n d q r w b1 b2 h3 h4 b3 b4 h (by omega) HF
    · exact round_2c n d q r w b1 b2 h3 h4 b3 b4 (by omega) HF
  by_cases e3 : m = 3
  · subst e3
    by_cases h : d - r ≤ r
    · exact round_3a n d q r w b1 b2 h3 h4 b3 b4 h HF
    · exact round_3b n d q r w b1 b2 h3 h4 b3 b4 (by omega) HF
  by_cases e4 : m = 4
  · subst e4
    by_cases h : d - r < r
    · exact round_4a n d q r w b1 b2 h3 h4 b3 b4 h HF
    · by_cases h' : r < d - r
      · exact round_4b n d q r w b1 b2 h3 h4 b3 b4 h' HF
      · obtain rfl : d = r + r := by omega
        cases h9 : (q.tmod 2 != 0)
        · exact round_4d n q r w b1 b2 h3 h4 b3 b4 h9 HF
        · exact round_4c n q r w b1 b2 h3 h4 b3 b4 h9 HF
  exact round_other n d q r m w b1 b2 h3 h4 b3 b4 e1 e2 e3 e4 HF
end Go.Proofs.Ythkoblnfeebafaa
