/- Walks of the reference's Down, Whole, Frac, answer, Of on rationals. Conditions: the parts lie in memory as naturals of at most 4,000 digits. -/
import Derived.Test.YthkoblnfeebafaaQe
namespace Go.Proofs.Ythkoblnfeebafaa
open Go.RowKit

/-- the first two blocks that a call has made, seen later -/
theorem two_cells {w w' : World} {cs ds : Array Value} {T U : TypeId} (hb : Below ((w.alloc (.cells cs T)).alloc (.cells ds U)).heap.size ((w.alloc (.cells cs T)).alloc (.cells ds U)) w') :
    (∀ i, w'.cell? ⟨w.heap.size, i, none⟩ = cs[i]?) ∧ (∀ i, w'.cell? ⟨w.heap.size + 1, i, none⟩ = ds[i]?) ∧ (∀ i, w'.frozen? ⟨w.heap.size + 1, i, none⟩ = false) ∧ w.heap.size + 1 < w'.heap.size ∧ Typ w' (w.heap.size + 1) U := by
  have hsz : ((w.alloc (.cells cs T)).alloc (.cells ds U)).heap.size = w.heap.size + 2 := by simp
  have hsz1 : (w.alloc (.cells cs T)).heap.size = w.heap.size + 1 := by simp
  have ht : Typ ((w.alloc (.cells cs T)).alloc (.cells ds U)) (w.heap.size + 1) U := by rw [← hsz1]; exact Typ.new _ _ _
  refine ⟨fun i => ?_, fun i => ?_, fun i => ?_, by have := hb.size; omega, ht.ext hb⟩
  · rw [hb.cell (p := ⟨w.heap.size, i, none⟩) (by rw [hsz]; exact Nat.lt_add_of_pos_right (by omega))]; simp [go_sem]
  · rw [hb.cell (p := ⟨w.heap.size + 1, i, none⟩) (by rw [hsz]; exact Nat.lt_succ_self _)]; simp [go_sem]
  · rw [hb.frozen (p := ⟨w.heap.size + 1, i, none⟩) (by rw [hsz]; exact Nat.lt_succ_self _)]; simp [go_sem]
theorem succ_le_of {a b : Nat} (h : a + 1 < b) : a ≤ b := by omega

set_option maxHeartbeats 1000000 in
theorem down_q (v : Value) (q : Rat) (w : World) (hq : QAt w v q) (z : QOk q) : Calls Try.prog 97 #[v] w (RetQ w (q.floor : Rat)) := by
  obtain ⟨s, A, n, c, A', n', c', rfl⟩ := q_form hq
  obtain ⟨hs, h1, h2⟩ := q_parts hq
  obtain ⟨z1, z2⟩ := z
  have zd := Num.len_mono (Nat.div_le_self q.num.natAbs q.den)
  have zd1 := dig_add (q.num.natAbs / q.den) 1 (k := 4000) (by omega) len_one'
  have hx0 : ∀ x y, Below w.heap.size w ((w.alloc x).alloc y) := fun x y => ((Below.refl _ _).alloc (Nat.le_refl _) _).alloc (by simp) _
  have HX0 := Lib.hid hx0
  have H1 := Lib.hid h1
  have H2 := Lib.hid h2
  clear hx0 h1 h2 hq
  have hdp := q.den_pos
  by_cases hneg : q.num < 0
  · rw [decide_eq_true hneg] at hs
    subst hs
    have HM := Lib.hid (down_neg hneg)
    by_cases hr : q.num.natAbs % q.den = 0
    · have hm := HM.out
      rw [if_pos hr, Nat.add_zero] at hm
      have HM := Lib.hid hm
      have hl : (Num.dig (q.num.natAbs % q.den)).length = 0 := by rw [hr, Num.dig_zero]; rfl
      have HL := Lib.hid hl
      have HR := Lib.hid hr
      clear hm hr hl
      go_enter Try.func97, Try.ntmps97
      go_wp2_with (first
        | (go_at_call 107; refine (divided_any _ _ _ _ _ (H1.out.ext (HX0.out _ _)) (H2.out.ext (HX0.out _ _)) (by omega) (by omega) hdp).mono ?_; rintro e w1 ⟨v1, u1, rfl, hn1, hm1, hb1⟩; obtain ⟨A1, c1, rfl⟩ := natAt_len hn1; obtain ⟨B1, d1, rfl⟩ := natAt_len hm1; have hl0 := HL.out; rw [hl0] at hm1 ⊢; clear hl0; obtain ⟨k1, k2, k3, k4, k5⟩ := two_cells hb1)
        | (go_at_call 85; refine (made_any true _ _ (q.num.natAbs / q.den) 1 _ (hn1.ext ((Below.refl _ _).alloc (Nat.le_refl _) _)) (one_new _) (by omega) len_one (by omega)).mono ?_; rintro e w3 ⟨v3, rfl, hq3, hb3⟩; obtain ⟨s3, A3, n3, c3, B3, m3, d3, rfl⟩ := q_form hq3; have E3 := ext_trans hb1 (ext_trans ((Below.refl _ _).alloc (Nat.le_refl _) _) hb3); obtain ⟨k1, k2, k3, k4, k5⟩ := two_cells E3))
      refine bodyPost_ret (v := .agg #[.bool s3, .slice A3 n3 c3, .slice B3 m3 d3]) (by simp [results, Try.results97, go_sem, k2]) rfl ?_
      rw [HM.out] at hq3
      exact ⟨_, rfl, hq3.off3 k5 (by decide) _ _ _, below3 (ext_trans (HX0.out _ _) E3) (Nat.le_succ _) _ _ _⟩
    · have hl : 0 < (Num.dig (q.num.natAbs % q.den)).length := by
        rcases Nat.eq_zero_or_pos (Num.dig (q.num.natAbs % q.den)).length with h | h
        · exact absurd (Num.dig_len_zero.1 h) hr
        · exact h
      have hm := HM.out
      rw [if_neg hr] at hm
      have HM := Lib.hid hm
      clear hm hr
      go_enter Try.func97, Try.ntmps97
      go_wp2_with (first
        | (go_at_call 107; refine (divided_any _ _ _ _ _ (H1.out.ext (HX0.out _ _)) (H2.out.ext (HX0.out _ _)) (by omega) (by omega) hdp).mono ?_; rintro e w1 ⟨v1, u1, rfl, hn1, hm1, hb1⟩; obtain ⟨A1, c1, rfl⟩ := natAt_len hn1; obtain ⟨B1, d1, rfl⟩ := natAt_len hm1; obtain ⟨k1, k2, k3, k4, k5⟩ := two_cells hb1)
        | (go_at_call 87; refine (plus_any _ _ _ 1 _ (hn1.ext ((Below.refl _ _).alloc (Nat.le_refl _) _)) (one_new _) (by omega) (by rw [dig_one]; simp)).mono ?_; rintro e w2 ⟨v2, rfl, hn2, hb2⟩; obtain ⟨A2, c2, rfl⟩ := natAt_len hn2; have E2 := ext_trans hb1 (ext_trans ((Below.refl _ _).alloc (Nat.le_refl _) _) hb2); obtain ⟨k1, k2, k3, k4, k5⟩ := two_cells E2)
        | (go_at_call 85; refine (made_any true _ _ (q.num.natAbs / q.den + 1) 1 _ (hn2.ext ((Below.refl _ _).alloc (Nat.le_refl _) _)) (one_new _) (by omega) len_one (by omega)).mono ?_; rintro e w3 ⟨v3, rfl, hq3, hb3⟩; obtain ⟨s3, A3, n3, c3, B3, m3, d3, rfl⟩ := q_form hq3; have E3 := ext_trans E2 (ext_trans ((Below.refl _ _).alloc (Nat.le_refl _) _) hb3); obtain ⟨k1, k2, k3, k4, k5⟩ := two_cells E3))
      refine bodyPost_ret (v := .agg #[.bool s3, .slice A3 n3 c3, .slice B3 m3 d3]) (by simp [results, Try.results97, go_sem, k2]) rfl ?_
      rw [HM.out] at hq3
      exact ⟨_, rfl, hq3.off3 k5 (by decide) _ _ _, below3 (ext_trans (HX0.out _ _) E3) (Nat.le_succ _) _ _ _⟩
  · rw [decide_eq_false hneg] at hs
    subst hs
    have HM := Lib.hid (down_pos hneg)
    clear hneg
    · go_enter Try.func97, Try.ntmps97
      go_wp2_with (first
        | (go_at_call 107; refine (divided_any _ _ _ _ _ (H1.out.ext (HX0.out _ _)) (H2.out.ext (HX0.out _ _)) (by omega) (by omega) hdp).mono ?_; rintro e w1 ⟨v1, u1, rfl, hn1, hm1, hb1⟩; obtain ⟨A1, c1, rfl⟩ := natAt_len hn1; obtain ⟨B1, d1, rfl⟩ := natAt_len hm1; obtain ⟨k1, k2, k3, k4, k5⟩ := two_cells hb1)
        | (go_at_call 85; refine (made_any false _ _ (q.num.natAbs / q.den) 1 _ (hn1.ext ((Below.refl _ _).alloc (Nat.le_refl _) _)) (one_new _) (by omega) len_one (by omega)).mono ?_; rintro e w3 ⟨v3, rfl, hq3, hb3⟩; obtain ⟨s3, A3, n3, c3, B3, m3, d3, rfl⟩ := q_form hq3; have E3 := ext_trans hb1 (ext_trans ((Below.refl _ _).alloc (Nat.le_refl _) _) hb3); obtain ⟨k1, k2, k3, k4, k5⟩ := two_cells E3))
      refine bodyPost_ret (v := .agg #[.bool s3, .slice A3 n3 c3, .slice B3 m3 d3]) (by simp [results, Try.results97, go_sem, k2]) rfl ?_
      rw [HM.out] at hq3
      exact ⟨_, rfl, hq3.off3 k5 (by decide) _ _ _, below3 (ext_trans (HX0.out _ _) E3) (Nat.le_succ _) _ _ _⟩
end Go.Proofs.Ythkoblnfeebafaa
