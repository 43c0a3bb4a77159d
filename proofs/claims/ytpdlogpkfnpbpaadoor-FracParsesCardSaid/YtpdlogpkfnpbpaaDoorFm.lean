/- Walks of frac's Div, Cmp, Neg, Abs. Conditions: the arguments are within their kinds. -/
import Derived.Test.YtpdlogpkfnpbpaaDoorFi
import Derived.Test.YtpdlogpkfnpbpaaDoorFh
import Derived.Test.YtpdlogpkfnpbpaaDoorFf
namespace Go.Proofs.YtpdlogpkfnpbpaaDoor
open Go.RowKit

/-- what Div, Neg, Abs and Cmp answer -/
noncomputable def divA (an ad bn bd : Int) : Int × Int × Int := if (vldB an ad && vldB bn bd) = true then (if bn = 0 then (0, 0, 4) else ans (rat an ad / rat bn bd)) else (0, 0, 2)
def negA (n d : Int) : Int × Int × Int := if vldB n d = true then (-n, d, 0) else (0, 0, 2)
def absA (n d : Int) : Int × Int × Int := if vldB n d = true then (if n < -n then -n else n, d, 0) else (0, 0, 2)
def cmpA (an ad bn bd : Int) : Int × Int := if (vldB an ad && vldB bn bd) = true then ((rat an ad - rat bn bd).num.sign, 0) else (0, 2)

theorem rat_sign {n d : Int} (hd : 0 < d) : ((n : Rat) / (d : Rat)).num.sign = n.sign := by
  have h1 := (rat_parts (n := n) (d := d) (by omega)).1
  unfold rat at h1
  rw [h1]
  have hg : 0 < Int.gcd n d := Int.gcd_pos_of_ne_zero_right _ (by omega)
  have hdv : (Int.gcd n d : Int) ∣ n := Int.gcd_dvd_left _ _
  obtain ⟨c, hc⟩ := hdv
  have hg' : (0 : Int) < (Int.gcd n d : Int) := by omega
  generalize (Int.gcd n d : Int) = g at *
  subst hc
  rw [Int.mul_ediv_cancel_left _ (by omega), Int.sign_mul, Int.sign_eq_one_of_pos hg', Int.one_mul]
theorem cmp_sign {an ad bn bd : Int} (h1 : 1 ≤ ad) (h2 : 1 ≤ bd) : (rat an ad - rat bn bd).num.sign = (an * bd - bn * ad).sign := by
  have e1 := cast_ne h1
  have e2 := cast_ne h2
  rw [← sub_rat h1 h2]
  have hd : 0 < ad * bd := Int.mul_pos (by omega) (by omega)
  generalize an * bd - bn * ad = n at *
  generalize ad * bd = d at *
  exact rat_sign hd

theorem div_newA {an ad bn bd : Int} (h1 : 1 ≤ ad) (h2 : 1 ≤ bd) : newA (an * bd) (ad * bn) = if bn = 0 then (0, 0, 4) else ans (rat an ad / rat bn bd) := by
  unfold newA
  by_cases h : bn = 0
  · subst h
    rw [if_pos (by simp), if_pos rfl]
  · have h0 : ad * bn ≠ 0 := Int.mul_ne_zero (by omega) h
    rw [if_neg h0, if_neg h]
    unfold rat at *
    rw [div_rat h1 h2 h]
    rfl

end Go.Proofs.YtpdlogpkfnpbpaaDoor
