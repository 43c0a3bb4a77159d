/- The reference's FromTerms walked. Conditions: the slice reads as a list of ints. -/
import Derived.Test.YthkoblnfeebafaaTa
import Derived.Test.YthkoblnfeebafaaCc
namespace Go.Proofs.Ythkoblnfeebafaa
open Go.RowKit

open Classical in
noncomputable def rtA (l : List Int) : Int × Int × Int := if 64 < l.length then (0, 0, 3) else if Bad l ∨ l = [] then (0, 0, 2) else ans (Cf.val l)
theorem rtA_long {l : List Int} (h : 64 < l.length) : rtA l = (0, 0, 3) := by unfold rtA; rw [if_pos h]
theorem rtA_bad {l : List Int} (h : ¬ 64 < l.length) (hb : Bad l ∨ l = []) : rtA l = (0, 0, 2) := by unfold rtA; rw [if_neg h, if_pos hb]
theorem rtA_ok {l : List Int} (h : ¬ 64 < l.length) (hb : ¬ (Bad l ∨ l = [])) : rtA l = ans (Cf.val l) := by unfold rtA; rw [if_neg h, if_neg hb]
theorem tail_of {a : Int} {l : List Int} (h : ¬ Bad (a :: l)) : Cf.Tail l := by
  induction l generalizing a with
  | nil => trivial
  | cons b l ih =>
    have hb : ¬ Bad (b :: l) := by
      rintro ⟨i, hi, h0, h1⟩
      refine h ⟨i + 1, by simpa using hi, by omega, ?_⟩
      simpa using h1
    have h1 := bad_pos (i := 1) h (by simp) (by omega)
    simp at h1
    cases l with
    | nil =>
      unfold Cf.Tail
      refine Int.not_lt.1 fun hlt => h ⟨1, by simp, by omega, .inr ⟨?_, by simp⟩⟩
      simp; omega
    | cons c l => exact ⟨h1, ih hb⟩
theorem rtA_ftA (l : List Int) : rtA l = ftA l := by
  unfold rtA ftA
  split
  · rfl
  · split
    · rfl
    · rename_i h
      cases l with
      | nil => exact absurd (.inr rfl) h
      | cons a l => rw [Cf.conv_ans a l (tail_of fun hb => h (.inl hb))]

/-- the value reckoned back, one step -/
theorem val_step {l : List Int} {m : Nat} (h : m + 1 < l.length) : Cf.val (l.drop m) = ((l[m] : Int) : Rat) + ((1 : Int) : Rat) / Cf.val (l.drop (m + 1)) := by
  rw [List.drop_eq_getElem_cons (by omega : m < l.length), List.drop_eq_getElem_cons h]
  rfl
theorem val_last {l : List Int} {m : Nat} (h : m + 1 = l.length) : Cf.val (l.drop m) = ((l[m] : Int) : Rat) := by
  rw [List.drop_eq_getElem_cons (by omega : m < l.length), List.drop_eq_nil_of_le (by omega)]
  rfl
theorem val_drop_pos {l : List Int} {m : Nat} (h : ¬ Bad l) (hm : m < l.length) (h0 : 0 < m) : 0 < Cf.val (l.drop m) := by
  refine Cf.val_pos _ (fun he => ?_) fun x hx => ?_
  · have := congrArg List.length he
    simp at this; omega
  · obtain ⟨j, hj, rfl⟩ := List.mem_iff_getElem.1 hx
    rw [List.getElem_drop]
    rw [List.length_drop] at hj
    exact bad_pos h _ (by omega)
/-- at most k digits in both parts -/
def Dg (q : Rat) (k : Nat) : Prop := (Num.dig q.num.natAbs).length ≤ k ∧ (Num.dig q.den).length ≤ k
theorem Dg.ok {q : Rat} {k : Nat} (h : Dg q k) (hk : k ≤ 4000) : QOk q := ⟨by have := h.1; omega, by have := h.2; omega⟩
theorem Dg.step {a : Int} {q : Rat} {k : Nat} (ha : IsI a) (h : Dg q k) (hq : 0 < q) : Dg ((a : Rat) + ((1 : Int) : Rat) / q) (k + 3) := by
  obtain ⟨h1, h2⟩ := h
  have hn : 0 < q.num := rat_num_pos hq
  have e : (a : Rat) + ((1 : Int) : Rat) / q = mkRat (a * q.num + q.den) q.num.natAbs := by
    have e1 : ((q.num.natAbs : Nat) : Int) = q.num := by omega
    have e2 : ((q.num.natAbs : Nat) : Rat) = (q.num : Rat) := by rw [← Rat.intCast_natCast, e1]
    rw [Rat.mkRat_eq_div, e2, Rat.intCast_add, Rat.intCast_mul]
    have e3 : (q.num : Rat) ≠ 0 := by intro h0; have := Rat.intCast_eq_zero_iff.1 h0; omega
    have e4 : q = (q.num : Rat) / ((q.den : Int) : Rat) := by
      rw [← Rat.divInt_eq_div, Rat.num_divInt_den]
    have e5 : ((q.den : Int) : Rat) ≠ 0 := by intro h0; have := Rat.intCast_eq_zero_iff.1 h0; have := q.den_pos; omega
    have e6 : ((1 : Int) : Rat) = 1 := rfl
    conv => lhs; rw [e4]
    rw [e6]
    generalize (q.num : Rat) = x at *
    generalize ((q.den : Int) : Rat) = y at *
    generalize (a : Rat) = z at *
    clear e4 h1 h2 hn e2
    have i1 : (1 : Rat) / (x / y) = y / x := by grind
    rw [i1]
    grind
  obtain ⟨m1, m2⟩ := mkRat_le (a * q.num + q.den) q.num.natAbs (by omega)
  rw [← e] at m1 m2
  have l1 : a.natAbs < 18446744073709551616 := abs_small ha.1 ha.2
  have l2 := len_small l1
  have l3 := dig_mul a.natAbs q.num.natAbs
  have l4 := dig_add (a.natAbs * q.num.natAbs) q.den (k := k + 2) (by omega) (by omega)
  refine ⟨?_, ?_⟩
  · refine Nat.le_trans (Num.len_mono (Nat.le_trans m1 ?_)) l4
    have := Int.natAbs_add_le (a * q.num) q.den
    rw [Int.natAbs_mul, Int.natAbs_natCast] at this
    exact this
  · exact Nat.le_trans (Num.len_mono m2) (by omega)
theorem val_dg {l : List Int} (h : ¬ Bad l) (hi : ∀ x ∈ l, IsI x) : ∀ (k m : Nat), m < l.length → l.length = m + 1 + k → Dg (Cf.val (l.drop m)) (2 + 3 * k)
  | 0, m, hm, hk => by
    rw [val_last (by omega)]
    obtain ⟨h1, h2⟩ := hi l[m] (List.getElem_mem _)
    have := len_small (abs_small h1 h2)
    refine ⟨by rw [Rat.num_intCast]; omega, by rw [Rat.den_intCast, dig_one]; simp⟩
  | k + 1, m, hm, hk => by
    rw [val_step (by omega)]
    exact (val_dg h hi k (m + 1) (by omega) (by omega)).step (hi _ (List.getElem_mem _)) (val_drop_pos h (by omega) (by omega))
theorem val_ok {l : List Int} (h : ¬ Bad l) (hi : ∀ x ∈ l, IsI x) (hl : l.length ≤ 64) {m : Nat} (hm : m < l.length) : QOk (Cf.val (l.drop m)) :=
  (val_dg h hi (l.length - m - 1) m hm (by omega)).ok (by omega)
end Go.Proofs.Ythkoblnfeebafaa
