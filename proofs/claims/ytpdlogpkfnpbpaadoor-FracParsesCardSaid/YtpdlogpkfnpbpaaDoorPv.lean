/- Plain law of Parse: which fraction a string is. No conditions. -/
import Derived.Test.YtpdlogpkfnpbpaaDoorFi
import Derived.Test.YtpdlogpkfnpbpaaDoorFg
import Derived.Test.YtpdlogpkfnpbpaaDoorPs
import Derived.Test.YtpdlogpkfnpbpaaDoorPr
namespace Go.Proofs.YtpdlogpkfnpbpaaDoor
open Go.RowKit

def sgI (neg : Bool) (n : Int) : Int := if neg = true then -n else n
theorem rat_mk (n : Int) (d : Nat) : rat n (d : Int) = mkRat n d := by
  unfold rat
  rw [Rat.mkRat_eq_div]; rfl
theorem rat_eq {n m : Int} {d e : Nat} (hd : 1 ≤ d) (he : 1 ≤ e) (h : n * (e : Int) = m * (d : Int)) : rat n (d : Int) = rat m (e : Int) := by
  rw [rat_mk, rat_mk]
  exact (Rat.mkRat_eq_iff (by omega) (by omega)).2 h
theorem rat_selfp (q : Rat) : rat q.num (q.den : Int) = q := by
  rw [rat_mk, Rat.mkRat_self]
theorem inq_vld {q : Rat} (h : InQ q) : vldB q.num (q.den : Int) = true := by
  obtain ⟨h1, h2⟩ := h
  have h3 := q.den_pos
  refine decide_eq_true ⟨by omega, by omega, by omega, by omega, ?_⟩
  have := q.reduced
  unfold Nat.Coprime at this
  show Nat.gcd q.num.natAbs (q.den : Int).natAbs = 1
  rw [Int.natAbs_natCast]
  exact this
/-- the parts of a string -/
def whL (s : List UInt8) : List UInt8 := (wpP (sgnP s).2).1
def nuL (s : List UInt8) : List UInt8 := (ndP (wpP (sgnP s).2).2).1
def deL (s : List UInt8) : List UInt8 := (ndP (wpP (sgnP s).2).2).2
def wN (s : List UInt8) : Nat := (numV (whL s)).1
def xN (s : List UInt8) : Nat := (numV (nuL s)).1
def yN (s : List UInt8) : Nat := (numV (deL s)).1
def okN (s : List UInt8) : Prop := (numV (whL s)).2 = true ∧ (numV (nuL s)).2 = true ∧ (numV (deL s)).2 = true
noncomputable def qN (s : List UInt8) : Rat := rat (sgI (sgnP s).1 ((xN s : Int) + (wN s : Int) * (yN s : Int))) (yN s : Int)
theorem print_parse {q : Rat} (hq : InQ q) {s : List UInt8} (h : printP q.num q.den = s) : okN s ∧ 1 ≤ yN s ∧ yN s ≤ 1000000000 ∧ wN s ≤ 1000000000 ∧ xN s ≤ 1000000000 ∧ qN s = q := by
  obtain ⟨h1, h2⟩ := hq
  obtain ⟨w, x, y, hc, y1, y2, w1, x1, he⟩ := cand_print (a := q.num) (d := q.den) q.den_pos h2 h1
  rw [h] at hc
  unfold candP at hc
  injection hc with c1 hc
  injection hc with c2 hc
  injection hc with c3 c4
  have v1 := numV_some (l := whL s) c2
  have v2 := numV_some (l := nuL s) c3
  have v3 := numV_some (l := deL s) c4
  unfold okN qN wN xN yN
  rw [v1, v2, v3, c1]
  refine ⟨⟨rfl, rfl, rfl⟩, y1, y2, w1, x1, ?_⟩
  conv => rhs; rw [← rat_selfp q]
  refine rat_eq y1 q.den_pos ?_
  have he2 : ((x : Int) + (w : Int) * (y : Int)) * (q.den : Int) = (q.num.natAbs : Int) * (y : Int) := by
    have := congrArg (fun k : Nat => (k : Int)) he
    push_cast at this
    rw [Int.add_comm]; exact this
  unfold sgI
  by_cases hn : q.num < 0
  · rw [decide_eq_true hn, if_pos rfl, Int.neg_mul, he2, show q.num = -(q.num.natAbs : Int) by omega, Int.neg_mul, Int.natAbs_neg, Int.natAbs_natCast]
  · rw [decide_eq_false hn, if_neg (by decide), he2, show (q.num.natAbs : Int) = q.num by omega]
/-- what Parse answers -/
def PaR (s : List UInt8) (t : Int × Int × Int) : Prop := (∃ q, InQ q ∧ printP q.num q.den = s ∧ t = (q.num, (q.den : Int), 0)) ∨ ((∀ q, InQ q → printP q.num q.den ≠ s) ∧ t = (0, 0, 6))
theorem paR_uniq {s : List UInt8} {t t' : Int × Int × Int} (h : PaR s t) (h' : PaR s t') : t = t' := by
  rcases h with ⟨q, hq, hs, rfl⟩ | ⟨hn, rfl⟩ <;> rcases h' with ⟨q', hq', hs', rfl⟩ | ⟨hn', rfl⟩
  · have e1 := (print_parse hq hs).2.2.2.2.2
    have e2 := (print_parse hq' hs').2.2.2.2.2
    rw [e1] at e2
    rw [e2]
  · exact absurd hs (hn' q hq)
  · exact absurd hs' (hn q' hq')
  · rfl
theorem paR_bad {s : List UInt8} (h : ¬ (okN s ∧ 1 ≤ yN s ∧ yN s ≤ 1000000000 ∧ wN s ≤ 1000000000 ∧ xN s ≤ 1000000000)) : PaR s (0, 0, 6) :=
  .inr ⟨fun q hq hs => h (by obtain ⟨a, b, c, d, e, _⟩ := print_parse hq hs; exact ⟨a, b, c, d, e⟩), rfl⟩
theorem paR_far {s : List UInt8} (h : ¬ InQ (qN s)) : PaR s (0, 0, 6) :=
  .inr ⟨fun q hq hs => h (by rw [(print_parse hq hs).2.2.2.2.2]; exact hq), rfl⟩
theorem paR_other {s : List UInt8} (h : printP (qN s).num (qN s).den ≠ s) : PaR s (0, 0, 6) :=
  .inr ⟨fun q hq hs => h (by rw [(print_parse hq hs).2.2.2.2.2]; exact hs), rfl⟩
theorem paR_yes {s : List UInt8} (hq : InQ (qN s)) (h : printP (qN s).num (qN s).den = s) : PaR s ((qN s).num, ((qN s).den : Int), 0) := .inl ⟨_, hq, h, rfl⟩
theorem prS_q {q : Rat} (h : InQ q) : prS q.num q.den = printP q.num q.den := by
  unfold prS; rw [if_pos (inq_vld h), Int.toNat_natCast]
end Go.Proofs.YtpdlogpkfnpbpaaDoor
