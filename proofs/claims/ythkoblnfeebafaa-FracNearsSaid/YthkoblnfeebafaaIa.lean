/- Walks of bits.Mul64 and frac.less. Conditions: the arguments are within their kinds. -/
import Derived.Test.YthkoblnfeebafaaGa
import Derived.Lib.Mul64
import Derived.Laws.Bits64b
namespace Go.Proofs.Ythkoblnfeebafaa
open Go.RowKit

namespace M64
theorem maskN (a : Nat) (ha : a < 18446744073709551616) : bits .and .u64 (a : Int) 4294967295 = ((a % 4294967296 : Nat) : Int) := by
  have h := bits_and_u64_nat a 4294967295 ha (by omega)
  have e : a &&& 4294967295 = a % 4294967296 := Nat.and_two_pow_sub_one_eq_mod a 32
  rw [e] at h
  exact h
theorem divN (a : Nat) : (a : Int) / 4294967296 = ((a / 4294967296 : Nat) : Int) := by omega
theorem mulN (a b : Nat) : (a : Int) * (b : Int) = ((a * b : Nat) : Int) := (Int.natCast_mul a b).symm
theorem addN (a b : Nat) : (a : Int) + (b : Int) = ((a + b : Nat) : Int) := (Int.natCast_add a b).symm
theorem wrapN (a : Nat) (ha : a < 18446744073709551616) : IntKind.u64.wrap (a : Int) = (a : Int) := by rw [IntKind.wrap_u64]; omega
theorem wrapM (a : Nat) : IntKind.u64.wrap (a : Int) = ((a % 18446744073709551616 : Nat) : Int) := by rw [IntKind.wrap_u64]; omega
end M64

set_option maxHeartbeats 1000000 in
theorem mul64_any (x y : Nat) (w : World) (hx : x < 18446744073709551616) (hy : y < 18446744073709551616) :
    Calls Try.prog 109 #[.int .u64 x, .int .u64 y] w fun e w' => e = .returned (.tuple #[.int .u64 ((x * y / 18446744073709551616 : Nat) : Int), .int .u64 ((x * y % 18446744073709551616 : Nat) : Int)]) ∧ w' = w := by
  obtain ⟨bd, bt, bw, hhi⟩ := Lib.mul64_hi x y hx hy
  have ba := Lib.half_mul_le (a := x / 4294967296) (b := y / 4294967296) (by omega) (by omega)
  have bb := Lib.half_mul_le (a := x / 4294967296) (b := y % 4294967296) (by omega) (by omega)
  have bc := Lib.half_mul_le (a := x % 4294967296) (b := y / 4294967296) (by omega) (by omega)
  have ba' : x / 4294967296 * (y / 4294967296) < 18446744073709551616 := by omega
  have bb' : x / 4294967296 * (y % 4294967296) < 18446744073709551616 := by omega
  have bc' : x % 4294967296 * (y / 4294967296) < 18446744073709551616 := by omega
  have bh1 : x / 4294967296 * (y / 4294967296) + (x / 4294967296 * (y % 4294967296) + x % 4294967296 * (y % 4294967296) / 4294967296) / 4294967296 < 18446744073709551616 := by omega
  have bh : x / 4294967296 * (y / 4294967296) + (x / 4294967296 * (y % 4294967296) + x % 4294967296 * (y % 4294967296) / 4294967296) / 4294967296 + ((x / 4294967296 * (y % 4294967296) + x % 4294967296 * (y % 4294967296) / 4294967296) % 4294967296 + x % 4294967296 * (y / 4294967296)) / 4294967296 < 18446744073709551616 := by omega
  go_enter Try.func109, Try.ntmps109
  go_wp2
  simp only [M64.maskN x hx, M64.maskN y hy, M64.divN, M64.mulN, M64.addN, M64.wrapN _ bd, M64.wrapN _ bb', M64.wrapN _ bt, M64.maskN _ bt, M64.wrapN _ bc', M64.wrapN _ bw, M64.wrapN _ ba', M64.wrapN _ bh1, M64.wrapN _ bh, M64.wrapM (x * y)]
  rw [hhi]
  go_ret2
  exact ⟨rfl, rfl⟩

theorem less_cases {p q M : Nat} (h0 : 0 < M) : (p / M < q / M ∨ (p / M = q / M ∧ p % M < q % M)) ↔ p < q := by
  have e1 := Nat.div_add_mod p M
  have e2 := Nat.div_add_mod q M
  have r1 := Nat.mod_lt p h0
  have r2 := Nat.mod_lt q h0
  constructor
  · rintro (h | ⟨h, h'⟩)
    · have : M * (p / M + 1) ≤ M * (q / M) := Nat.mul_le_mul_left M h
      rw [Nat.mul_add] at this
      omega
    · rw [h] at e1; omega
  · intro h
    rcases Nat.lt_trichotomy (p / M) (q / M) with h1 | h1 | h1
    · exact .inl h1
    · rw [h1] at e1
      exact .inr ⟨h1, by omega⟩
    · have : M * (q / M + 1) ≤ M * (p / M) := Nat.mul_le_mul_left M h1
      rw [Nat.mul_add] at this
      omega

set_option maxHeartbeats 1000000 in
theorem fless_any (x b y e : Nat) (w : World) (hx : x < 9223372036854775808) (hb : b < 9223372036854775808) (hy : y < 9223372036854775808) (he : e < 9223372036854775808) :
    Calls Try.prog 99 #[.int .i64 (x : Int), .int .i64 (b : Int), .int .i64 (y : Int), .int .i64 (e : Int)] w fun r w' => r = .returned (.bool (decide (x * e < y * b))) ∧ w' = w := by
  have h1 := fun W => mul64_any x e W (by omega) (by omega)
  have h2 := fun W => mul64_any y b W (by omega) (by omega)
  have hcs := less_cases (p := x * e) (q := y * b) (M := 18446744073709551616) (by decide)
  generalize x * e / 18446744073709551616 = ph at *
  generalize x * e % 18446744073709551616 = pl at *
  generalize y * b / 18446744073709551616 = qh at *
  generalize y * b % 18446744073709551616 = ql at *
  have H1 := Lib.hid h1
  have H2 := Lib.hid h2
  have HC := Lib.hid hcs
  clear h1 h2 hcs
  go_enter Try.func99, Try.ntmps99
  go_wp2_with (first
    | (go_at_call_of 109 (Value.int .u64 (x : Int)); refine (H1.out _).mono ?_; rintro r w1 ⟨rfl, rfl⟩)
    | (go_at_call 109; refine (H2.out _).mono ?_; rintro r w2 ⟨rfl, rfl⟩))
  all_goals
    go_ret
    refine ⟨?_, rfl⟩
    congr 2
    have hc := HC.out
    by_cases hlt : x * e < y * b <;> simp only [hlt, iff_true, iff_false, decide_true, decide_false] at hc ⊢ <;> simp <;> omega
end Go.Proofs.Ythkoblnfeebafaa
