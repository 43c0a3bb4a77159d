/- Walks of frac's floor, of, off. Conditions: the arguments are within their kinds. -/
import Derived.Test.YthkoblnfeebafaaFe
import Derived.Test.YthkoblnfeebafaaNp
namespace Go.Proofs.Ythkoblnfeebafaa
open Go.RowKit

theorem tdm {n d : Int} (hd : 1 ≤ d) : (0 ≤ n.tmod d → n.tdiv d = n / d ∧ n.tmod d = n % d) ∧ (n.tmod d < 0 → n.tdiv d - 1 = n / d ∧ n.tmod d + d = n % d) := by
  have h1 := Int.mul_tdiv_add_tmod n d
  have h2 := Int.tmod_lt_of_pos n (show 0 < d by omega)
  have h3 : -d < n.tmod d := by
    have := Int.tmod_lt_of_pos (-n) (show 0 < d by omega)
    rw [Int.neg_tmod] at this
    omega
  refine ⟨fun h => ?_, fun h => ?_⟩
  · have := (Int.ediv_emod_unique (a := n) (b := d) (q := n.tdiv d) (r := n.tmod d) (by omega)).2 ⟨by omega, by omega, by omega⟩
    exact ⟨this.1.symm, this.2.symm⟩
  · have e1 : d * (n.tdiv d - 1) = d * n.tdiv d - d := by grind
    have := (Int.ediv_emod_unique (a := n) (b := d) (q := n.tdiv d - 1) (r := n.tmod d + d) (by omega)).2 ⟨by omega, by omega, by omega⟩
    exact ⟨this.1.symm, this.2.symm⟩

theorem div_bd {n d B : Int} (hd : 1 ≤ d) (h1 : -B ≤ n) (h2 : n ≤ B) (hB : 0 ≤ B) : -B ≤ n / d ∧ n / d ≤ B := by
  refine ⟨?_, ?_⟩
  · refine (Int.le_ediv_iff_mul_le (by omega)).2 ?_
    have : -B * d ≤ -B * 1 := by
      have : B * 1 ≤ B * d := Int.mul_le_mul_of_nonneg_left hd hB
      rw [Int.neg_mul, Int.neg_mul]; omega
    omega
  · refine Int.lt_add_one_iff.1 ((Int.ediv_lt_iff_lt_mul (by omega)).2 ?_)
    have : (B + 1) * 1 ≤ (B + 1) * d := Int.mul_le_mul_of_nonneg_left hd (by omega)
    omega
theorem ret_two {a b a' b' : Int} (h1 : a = a') (h2 : b = b') : Ending.returned (.tuple #[.int .i64 a, .int .i64 b]) = .returned (.tuple #[.int .i64 a', .int .i64 b']) := by rw [h1, h2]

set_option maxHeartbeats 400000 in
theorem floor_any (n d : Int) (w : World) (h1 : -1000000000000000000 ≤ n) (h2 : n ≤ 1000000000000000000) (h3 : 1 ≤ d) (h4 : d ≤ 1000000000000000000) :
    Calls Try.prog 96 #[.agg #[.int .i64 n, .int .i64 d]] w fun e w' => e = .returned (.tuple #[.int .i64 (n / d), .int .i64 (n % d)]) ∧ Below w.heap.size w w' := by
  obtain ⟨t1, t2⟩ := tdm (n := n) h3
  obtain ⟨b1, b2⟩ := div_bd (B := 1000000000000000000) h3 h1 h2 (by omega)
  have m1 := Int.emod_nonneg n (show d ≠ 0 by omega)
  have m2 := Int.emod_lt_of_pos n (show 0 < d by omega)
  by_cases hr : n.tmod d < 0
  · obtain ⟨e1, e2⟩ := t2 hr
    have c1 : -1000000000000000000 ≤ n.tdiv d - 1 := by omega
    have c2 : n.tdiv d - 1 ≤ 1000000000000000000 := by omega
    have c3 : 0 ≤ n.tmod d + d := by omega
    have c4 : n.tmod d + d ≤ 1000000000000000000 := by omega
    have E1 := Lib.hid e1
    have E2 := Lib.hid e2
    clear t1 t2 b1 b2 m1 m2 e1 e2
    go_enter Try.func96, Try.ntmps96
    go_wp2
    go_quiet (fail)
    go_wp2
    go_quiet (fail)
    go_wp2
    go_ret2
    exact ⟨ret_two E1.out E2.out, ext_trans ((Below.refl _ _).alloc (Nat.le_refl _) _) (ext_trans (ext_drewN _ _) (ext_drewN _ _))⟩
  · obtain ⟨e1, e2⟩ := t1 (by omega)
    have E1 := Lib.hid e1
    have E2 := Lib.hid e2
    clear t1 t2 b1 b2 m1 m2 e1 e2
    go_enter Try.func96, Try.ntmps96
    go_wp2
    go_quiet (fail)
    go_wp2
    go_ret2
    exact ⟨ret_two E1.out E2.out, ext_trans ((Below.refl _ _).alloc (Nat.le_refl _) _) (ext_drewN _ _)⟩

set_option maxHeartbeats 400000 in
theorem of_ratio (n d : Int) (w : World) : Calls Try.prog 91 #[frv n d] w fun e w' => e = .returned (frv n d) ∧ Below w.heap.size w w' := by
  unfold frv
  go_enter Try.func91, Try.ntmps91
  go_wp2
  refine bodyPost_ret (v := .agg #[.int .i64 n, .int .i64 d]) (by simp [results, Try.results91, go_sem]) rfl ?_
  exact ⟨rfl, ((Below.refl _ _).alloc (Nat.le_refl _) _).alloc (by simp) _⟩

set_option maxHeartbeats 400000 in
theorem off_any (n D a b c e : Int) (w : World) (h1 : -1000000000000000000 ≤ n * b) (h2 : n * b ≤ 1000000000000000000) (h3 : -2000000000000000000 ≤ a * D) (h4 : a * D ≤ 2000000000000000000)
    (h5 : -2000000000000000000 ≤ c * D) (h6 : c * D ≤ 2000000000000000000) (h7 : -1000000000000000000 ≤ n * e) (h8 : n * e ≤ 1000000000000000000) :
    Calls Try.prog 98 #[.agg #[.int .i64 a, .int .i64 b, .int .i64 c, .int .i64 e], frv n D] w fun x w' => x = .returned (.tuple #[.int .i64 (n * b - a * D), .int .i64 (c * D - n * e)]) ∧ Below w.heap.size w w' := by
  unfold frv
  go_enter Try.func98, Try.ntmps98
  go_wp2
  go_quiet (fail)
  go_wp2
  go_ret2
  exact ⟨rfl, ext_trans (((Below.refl _ _).alloc (Nat.le_refl _) _).alloc (by simp) _) (ext_drewN _ _)⟩
end Go.Proofs.Ythkoblnfeebafaa
