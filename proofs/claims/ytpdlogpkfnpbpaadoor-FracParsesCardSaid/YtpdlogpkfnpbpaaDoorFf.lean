/- Walks of the law's awake; of the reference's Valid. Conditions: the arguments are within their kinds. -/
import Derived.Test.YtpdlogpkfnpbpaaDoorFe
namespace Go.Proofs.YtpdlogpkfnpbpaaDoor
open Go.RowKit

theorem half_third : rat 1 2 + rat 1 3 = mkRat 5 6 := by
  unfold rat
  rw [Rat.mkRat_eq_div]
  grind
theorem two_awake : two 1 2 1 3 (rat 1 2 + rat 1 3) = (5, 6, 0) := by
  have hv : (vldB 1 2 && vldB 1 3) = true := by decide
  unfold two
  rw [if_pos hv, half_third]
  have h : mkRat 5 6 = ⟨5, 6, by decide, by decide⟩ := by rfl
  rw [h, ans_yes ⟨by decide, by decide⟩]
  rfl

set_option maxHeartbeats 400000 in
theorem awake_any (w : World) : Calls Tryd.prog 7 #[] w fun e w' => e = .returned (.bool true) ∧ Below w.heap.size w w' := by
  have hz := fun W => add_any 1 2 1 3 W ⟨by decide, by decide⟩ ⟨by decide, by decide⟩ ⟨by decide, by decide⟩ ⟨by decide, by decide⟩
  rw [two_awake] at hz
  unfold frv at hz
  have HZ := Lib.hid hz
  clear hz
  go_enter Tryd.func7, Tryd.ntmps7
  go_wp2_with (go_at_call 13; refine (HZ.out _).mono ?_; unfold RetA frv; rintro e w1 ⟨rfl, hx1⟩)
  go_ret
  exact ⟨rfl, hx1.alloc hx1.size _⟩

/-- the reference's test of a fraction is the same -/
theorem rat_parts {n d : Int} (hd : 1 ≤ d) : (rat n d).num = n / (Int.gcd n d : Int) ∧ (rat n d).den = d.toNat / Int.gcd n d := by
  have h0 : d.natAbs ≠ 0 := by omega
  have h1 := qdiv (n := n) (d := d) (by omega)
  have h2 := mk_num_eq (neg := decide (n < 0)) (n := n.natAbs) h0
  have h3 := Q.mk_den' (neg := decide (n < 0)) (n := n.natAbs) h0
  rw [h1] at h2 h3
  have hg : n.natAbs.gcd d.natAbs = Int.gcd n d := rfl
  rw [hg] at h2 h3
  refine ⟨?_, ?_⟩
  · show ((n : Rat) / (d : Rat)).num = _
    rw [h2]
    by_cases h : n < 0
    · have e : n = -(n.natAbs : Int) := by omega
      have hdvd : (Int.gcd n d : Int) ∣ (n.natAbs : Int) := Int.natCast_dvd_natCast.2 (Int.gcd_dvd_natAbs_left n d)
      simp only [h, decide_true, if_true]
      conv => rhs; rw [e]
      rw [Int.natCast_ediv]
      conv => rhs; rw [← e]
      conv => rhs; lhs; rw [e]
      rw [Int.neg_ediv_of_dvd hdvd]
    · have e : n = (n.natAbs : Int) := by omega
      simp only [h, decide_false, Bool.false_eq_true, if_false]
      rw [Int.natCast_ediv, ← e]
  · show ((n : Rat) / (d : Rat)).den = _
    rw [h3]
    congr 1
    omega
end Go.Proofs.YtpdlogpkfnpbpaaDoor
