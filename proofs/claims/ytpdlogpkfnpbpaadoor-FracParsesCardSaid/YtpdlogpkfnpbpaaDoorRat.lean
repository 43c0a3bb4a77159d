/- Plain facts on rational numbers in lowest terms: no program in sight. No conditions. -/
import Derived.Test.YtpdlogpkfnpbpaaDoorNum
namespace Go.Proofs.YtpdlogpkfnpbpaaDoor
namespace Q

/-- the rational of a sign, a numerator and a denominator -/
def mk (neg : Bool) (n d : Nat) : Rat := mkRat (if neg then -(n : Int) else n) d

theorem mk_num {a : Int} {d : Nat} (hd : d ≠ 0) : (mkRat a d).num = a / ((a.natAbs.gcd d : Nat) : Int) := by
  unfold mkRat
  rw [dif_neg hd, Rat.normalize_eq]
theorem mk_den {a : Int} {d : Nat} (hd : d ≠ 0) : (mkRat a d).den = d / a.natAbs.gcd d := by
  unfold mkRat
  rw [dif_neg hd, Rat.normalize_eq]
theorem mk_abs {neg : Bool} {n d : Nat} (hd : d ≠ 0) : (mk neg n d).num.natAbs = n / n.gcd d := by
  unfold mk
  rw [mk_num hd]
  cases neg
  · simp only [Bool.false_eq_true, if_false, Int.natAbs_natCast]
    rw [← Int.natCast_ediv, Int.natAbs_natCast]
  · simp only [if_true, Int.natAbs_neg, Int.natAbs_natCast]
    rw [Int.neg_ediv_of_dvd (Int.natCast_dvd_natCast.2 (Nat.gcd_dvd_left n d)), Int.natAbs_neg, ← Int.natCast_ediv, Int.natAbs_natCast]
theorem mk_den' {neg : Bool} {n d : Nat} (hd : d ≠ 0) : (mk neg n d).den = d / n.gcd d := by
  unfold mk
  rw [mk_den hd]
  cases neg <;> simp
theorem mk_neg {neg : Bool} {n d : Nat} (hd : d ≠ 0) (hn : n ≠ 0) : decide ((mk neg n d).num < 0) = neg := by
  unfold mk
  rw [mk_num hd]
  have hg : 0 < n.gcd d := Nat.gcd_pos_of_pos_left _ (by omega)
  have hq : 0 < n / n.gcd d := Nat.div_pos (Nat.gcd_le_left _ (by omega)) hg
  cases neg
  · simp only [Bool.false_eq_true, if_false, Int.natAbs_natCast]
    rw [← Int.natCast_ediv]
    simp; omega
  · simp only [if_true, Int.natAbs_neg, Int.natAbs_natCast]
    rw [Int.neg_ediv_of_dvd (Int.natCast_dvd_natCast.2 (Nat.gcd_dvd_left n d)), ← Int.natCast_ediv]
    simp; omega
theorem mk_zero (neg : Bool) (d : Nat) : mk neg 0 d = 0 := by
  unfold mk
  cases neg <;> simp
theorem sign_num (q : Rat) : q.num = if decide (q.num < 0) then -(q.num.natAbs : Int) else q.num.natAbs := by
  by_cases h : q.num < 0 <;> simp [h] <;> omega
/-- every rational is made of its own parts -/
theorem mk_self (q : Rat) : mk (decide (q.num < 0)) q.num.natAbs q.den = q := by
  unfold mk
  rw [← sign_num, Rat.mkRat_self]
theorem neg_parts (q : Rat) (h : q.num ≠ 0) : decide ((-q).num < 0) = !decide (q.num < 0) := by
  rw [Rat.neg_num]
  by_cases h1 : q.num < 0
  · simp [h1]; omega
  · simp [h1]; omega

theorem mk_add (a b : Rat) : a + b = mkRat (a.num * b.den + b.num * a.den) (a.den * b.den) := Rat.add_def' a b
/-- the sum, as the reference reckons it: equal signs -/
theorem add_same {a b : Rat} (h : decide (a.num < 0) = decide (b.num < 0)) : a + b = mk (decide (a.num < 0)) (a.num.natAbs * b.den + b.num.natAbs * a.den) (a.den * b.den) := by
  rw [mk_add]; unfold mk
  congr 1
  by_cases h1 : a.num < 0
  · have h2 : b.num < 0 := by simpa [h1] using h
    simp only [h1, decide_true, if_true]
    have e1 : a.num = -(a.num.natAbs : Int) := by omega
    have e2 : b.num = -(b.num.natAbs : Int) := by omega
    rw [e1, e2]; simp; grind
  · have h2 : ¬ b.num < 0 := by simpa [h1] using h
    simp only [h1, decide_false, Bool.false_eq_true, if_false]
    have e1 : a.num = (a.num.natAbs : Int) := by omega
    have e2 : b.num = (b.num.natAbs : Int) := by omega
    rw [e1, e2]; simp
theorem add_ge {a b : Rat} (h : decide (a.num < 0) ≠ decide (b.num < 0)) (hge : b.num.natAbs * a.den ≤ a.num.natAbs * b.den) : a + b = mk (decide (a.num < 0)) (a.num.natAbs * b.den - b.num.natAbs * a.den) (a.den * b.den) := by
  rw [mk_add]; unfold mk
  congr 1
  by_cases h1 : a.num < 0
  · have h2 : ¬ b.num < 0 := by simpa [h1] using h
    simp only [h1, decide_true, if_true]
    have e1 : a.num = -(a.num.natAbs : Int) := by omega
    have e2 : b.num = (b.num.natAbs : Int) := by omega
    rw [Int.natCast_sub hge]
    simp only [Int.natCast_mul]
    rw [e1, e2]; simp; grind
  · have h2 : b.num < 0 := by
      by_cases h3 : b.num < 0
      · exact h3
      · rw [decide_eq_false h1, decide_eq_false h3] at h; exact absurd rfl h
    simp only [h1, decide_false, Bool.false_eq_true, if_false]
    have e1 : a.num = (a.num.natAbs : Int) := by omega
    have e2 : b.num = -(b.num.natAbs : Int) := by omega
    rw [Int.natCast_sub hge]
    simp only [Int.natCast_mul]
    rw [e1, e2]; simp; grind
theorem add_lt {a b : Rat} (h : decide (a.num < 0) ≠ decide (b.num < 0)) (hlt : a.num.natAbs * b.den ≤ b.num.natAbs * a.den) : a + b = mk (decide (b.num < 0)) (b.num.natAbs * a.den - a.num.natAbs * b.den) (a.den * b.den) := by
  rw [Rat.add_comm, Nat.mul_comm a.den]
  exact add_ge (Ne.symm h) hlt
theorem sign_mul' (x y : Int) : (if (decide (x < 0) != decide (y < 0)) = true then -((x.natAbs * y.natAbs : Nat) : Int) else ((x.natAbs * y.natAbs : Nat) : Int)) = x * y := by
  rw [Int.natCast_mul]
  by_cases h1 : x < 0 <;> by_cases h2 : y < 0
  · obtain ⟨p, rfl⟩ : ∃ p : Nat, x = -(p : Int) := ⟨x.natAbs, by omega⟩
    obtain ⟨q, rfl⟩ : ∃ q : Nat, y = -(q : Int) := ⟨y.natAbs, by omega⟩
    rw [decide_eq_true h1, decide_eq_true h2]
    simp only [bne_self_eq_false, Bool.false_eq_true, if_false, Int.natAbs_neg, Int.natAbs_natCast, Int.neg_mul_neg]
  · obtain ⟨p, rfl⟩ : ∃ p : Nat, x = -(p : Int) := ⟨x.natAbs, by omega⟩
    obtain ⟨q, rfl⟩ : ∃ q : Nat, y = (q : Int) := ⟨y.natAbs, by omega⟩
    rw [decide_eq_true h1, decide_eq_false h2]
    simp only [Bool.bne_false, if_true, Int.natAbs_neg, Int.natAbs_natCast, Int.neg_mul]
  · obtain ⟨p, rfl⟩ : ∃ p : Nat, x = (p : Int) := ⟨x.natAbs, by omega⟩
    obtain ⟨q, rfl⟩ : ∃ q : Nat, y = -(q : Int) := ⟨y.natAbs, by omega⟩
    rw [decide_eq_false h1, decide_eq_true h2]
    simp only [Bool.false_bne, if_true, Int.natAbs_neg, Int.natAbs_natCast, Int.mul_neg]
  · obtain ⟨p, rfl⟩ : ∃ p : Nat, x = (p : Int) := ⟨x.natAbs, by omega⟩
    obtain ⟨q, rfl⟩ : ∃ q : Nat, y = (q : Int) := ⟨y.natAbs, by omega⟩
    rw [decide_eq_false h1, decide_eq_false h2]
    simp only [bne_self_eq_false, Bool.false_eq_true, if_false, Int.natAbs_natCast]
theorem mul_mk (a b : Rat) : a * b = mk (decide (a.num < 0) != decide (b.num < 0)) (a.num.natAbs * b.num.natAbs) (a.den * b.den) := by
  unfold mk
  rw [sign_mul' a.num b.num, Rat.mul_def']
theorem inv_mk (b : Rat) : b⁻¹ = mk (decide (b.num < 0)) b.den b.num.natAbs := by
  rw [Rat.inv_def]
  unfold mk
  generalize b.num = x
  by_cases h2 : x < 0
  · obtain ⟨q, rfl⟩ : ∃ q : Nat, x = -(q : Int) := ⟨x.natAbs, by omega⟩
    rw [decide_eq_true h2, Rat.divInt_neg', Int.natAbs_neg, Int.natAbs_natCast, ← Rat.divInt_ofNat]
    rfl
  · obtain ⟨q, rfl⟩ : ∃ q : Nat, x = (q : Int) := ⟨x.natAbs, by omega⟩
    rw [decide_eq_false h2, Int.natAbs_natCast, ← Rat.divInt_ofNat]
    rfl
theorem div_mk (a b : Rat) : a / b = mk (decide (a.num < 0) != decide (b.num < 0)) (a.num.natAbs * b.den) (a.den * b.num.natAbs) := by
  rw [Rat.div_def, inv_mk]
  unfold mk
  conv => lhs; rw [← Rat.mkRat_self a]
  rw [Rat.mkRat_mul_mkRat]
  congr 1
  have h1 := sign_mul' a.num (if decide (b.num < 0) = true then -(b.den : Int) else b.den)
  rw [← h1]
  have hd := b.den_pos
  by_cases h2 : b.num < 0
  · rw [decide_eq_true h2]
    have : decide (-(b.den : Int) < 0) = true := by simp; omega
    simp only [if_true, this, Int.natAbs_neg, Int.natAbs_natCast]
  · rw [decide_eq_false h2]
    have : decide ((b.den : Int) < 0) = false := by simp
    simp only [Bool.false_eq_true, if_false, this, Int.natAbs_natCast]
end Q
end Go.Proofs.YtpdlogpkfnpbpaaDoor
