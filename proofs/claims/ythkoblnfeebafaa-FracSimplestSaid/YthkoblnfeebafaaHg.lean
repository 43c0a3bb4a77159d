/- The reference's simple walked: the whole interval lies below zero. Condition: the recursion's contract. -/
import Derived.Test.YthkoblnfeebafaaHd
namespace Go.Proofs.Ythkoblnfeebafaa
open Go.RowKit

/-- with a result of any content -/
def SR (w : World) (p r : QV) (a b : Rat) (wx : World) : Prop :=
  Below w.heap.size w wx ∧ QB wx w.heap.size p a ∧ QB wx (w.heap.size + 1) r b ∧ Res3 44 wx (w.heap.size + 1 + 1)
theorem SR.call {w : World} {p r : QV} {a b : Rat} {wx wy : World} (h : SR w p r a b wx) (hb : Below wx.heap.size wx wy) : SR w p r a b wy := by
  obtain ⟨h1, h2, h3, h4⟩ := h
  exact ⟨bext h1 hb (Nat.le_of_lt h2.1.lt), h2.ext hb, h3.ext hb, h4.ext hb⟩
theorem SR.drew {w : World} {p r : QV} {a b : Rat} {wx : World} (h : SR w p r a b wx) : SR w p r a b wx.drew := h.call (ext_drew _)
theorem SR.store {w : World} {p r : QV} {a b : Rat} {wx : World} (h : SR w p r a b wx) (x y z : Value) :
    SR w p r a b (((wx.setCell ⟨w.heap.size + 1 + 1, 0, none⟩ x).setCell ⟨w.heap.size + 1 + 1, 1, none⟩ y).setCell ⟨w.heap.size + 1 + 1, 2, none⟩ z) := by
  obtain ⟨h1, h2, h3, h4⟩ := h
  exact ⟨below3 h1 (by omega) _ _ _, h2.set_ne (by omega) h4.typ _ _ _, h3.set_ne (by omega) h4.typ _ _ _, h4.set3 _ _ _⟩

set_option maxRecDepth 100000 in
set_option maxHeartbeats 4000000 in
theorem simple_neg (va vb : Value) (a b : Rat) (w : World) (ha : QAt w va a) (hb : QAt w vb b) (h1 : a.num < 0) (h2 : b.num < 0)
    (IH : ∀ va vb W, QAt W va (-b) → QAt W vb (-a) → Calls Try.prog 95 #[va, vb] W (RetSQ W (-b) (-a))) :
    Calls Try.prog 95 #[va, vb] w (RetSQ w a b) := by
  obtain ⟨p, rfl, hp⟩ := q_formV ha
  obtain ⟨r, rfl, hr⟩ := q_formV hb
  have hs := SB.start hp hr
  have HS := Lib.hid hs
  have hsa := fun W (h : QAt W (.agg #[.bool p.s, .slice p.A p.n p.c, .slice p.B p.m p.d]) a) => sign_any _ a W h
  have hsb := fun W (h : QAt W (.agg #[.bool r.s, .slice r.A r.n r.c, .slice r.B r.m r.d]) b) => sign_any _ b W h
  rw [Int.sign_eq_neg_one_of_neg h1] at hsa
  rw [Int.sign_eq_neg_one_of_neg h2] at hsb
  have HM1 := Lib.hid (fun v W (h : QAt W v b) => minus_any v b W h)
  have HM2 := Lib.hid (fun v W (h : QAt W v a) => minus_any v a W h)
  have HM3 := Lib.hid (fun v q W (h : QAt W v q) => minus_any v q W h)
  have HSA := Lib.hid hsa
  have HSB := Lib.hid hsb
  have HIH := Lib.hid IH
  have HN := Lib.hid h1
  clear ha hb hp hr h1 h2 hs hsa hsb IH
  go_enter Try.func95, Try.ntmps95
  go_upto_region 4 with (first
    | (go_at_call 35; ((with_reducible refine (HSA.out _ ?_).mono ?_)); exact HS.out.2.1.2; rintro e w1 ⟨rfl, hx1⟩; have S1 := HS.out.call hx1; obtain ⟨a1, a2, a3⟩ := S1.2.1.1.facts; obtain ⟨b1, b2, b3⟩ := S1.2.2.1.1.facts; obtain ⟨c1, c2, c3⟩ := S1.2.2.2.facts)
    | (go_at_call 35; ((with_reducible refine (HSB.out _ ?_).mono ?_)); exact S1.2.2.1.2; rintro e w2 ⟨rfl, hx2⟩; have S2 := S1.call hx2; obtain ⟨a1, a2, a3⟩ := S2.2.1.1.facts; obtain ⟨b1, b2, b3⟩ := S2.2.2.1.1.facts; obtain ⟨c1, c2, c3⟩ := S2.2.2.2.facts)
    | (go_at_call 35; ((with_reducible refine (HSB.out _ ?_).mono ?_)); exact S2.2.2.1.2; rintro e w3 ⟨rfl, hx3⟩; have S3 := S2.call hx3; obtain ⟨a1, a2, a3⟩ := S3.2.1.1.facts; obtain ⟨b1, b2, b3⟩ := S3.2.2.1.1.facts; obtain ⟨c1, c2, c3⟩ := S3.2.2.2.facts))
  have HR := Lib.hid (show SR w p r a b w3 from ⟨S3.1, S3.2.1, S3.2.2.1, S3.2.2.2.res⟩)
  clear a1 a2 a3 b1 b2 b3 c1 c2 c3 S1 S2 S3 hx1 hx2 hx3
  have hSS : ∀ wx, SR w p r a b wx → (SR w p r a b wx ∧ (wx.cell? ⟨w.heap.size, 0, none⟩ = some (.bool p.s) ∧ wx.cell? ⟨w.heap.size, 1, none⟩ = some (.slice p.A p.n p.c) ∧ wx.cell? ⟨w.heap.size, 2, none⟩ = some (.slice p.B p.m p.d)) ∧
      (wx.cell? ⟨w.heap.size + 1, 0, none⟩ = some (.bool r.s) ∧ wx.cell? ⟨w.heap.size + 1, 1, none⟩ = some (.slice r.A r.n r.c) ∧ wx.cell? ⟨w.heap.size + 1, 2, none⟩ = some (.slice r.B r.m r.d))) := fun wx h => ⟨h, h.2.1.1.cells, h.2.2.1.1.cells⟩
  have HSS := Lib.hid hSS
  clear hSS
  go_region_held3 (fun wx => SR w p r a b wx ∧ (wx.cell? ⟨w.heap.size, 0, none⟩ = some (.bool p.s) ∧ wx.cell? ⟨w.heap.size, 1, none⟩ = some (.slice p.A p.n p.c) ∧ wx.cell? ⟨w.heap.size, 2, none⟩ = some (.slice p.B p.m p.d)) ∧
      (wx.cell? ⟨w.heap.size + 1, 0, none⟩ = some (.bool r.s) ∧ wx.cell? ⟨w.heap.size + 1, 1, none⟩ = some (.slice r.A r.n r.c) ∧ wx.cell? ⟨w.heap.size + 1, 2, none⟩ = some (.slice r.B r.m r.d)))
    (first | exact HSS.out _ (SR.call (And.left (by assumption)) (by assumption)) | exact HSS.out _ HR.out.drew | exact HSS.out _ (SR.store (And.left (by assumption)) _ _ _))
    (first
      | (go_at_call 36; refine (HM1.out _ _ ?_).mono ?_; exact (And.left (by assumption) : SR w p r a b _).2.2.1.2; rintro e w4 ⟨v4, rfl, hq4, hx4⟩; obtain ⟨p4, rfl, hp4⟩ := q_formV hq4; clear hq4)
      | (go_at_call 36; refine (HM2.out _ _ ?_).mono ?_; exact (And.left (by assumption) : SR w p r a b _).2.1.2; rintro e w5 ⟨v5, rfl, hq5, hx5⟩; obtain ⟨p5, rfl, hp5⟩ := q_formV hq5; clear hq5; have P5 := hp4.ext hx5)
      | (go_at_call 95; refine (HIH.out _ _ _ P5 hp5).mono ?_; rintro e w6 ⟨q6, v6, rfl, hq6, hw6, -, hx6⟩; obtain ⟨p6, rfl, hp6⟩ := q_formV hq6; clear hq6; have HWK := Lib.hid hw6; clear hw6)
      | (go_at_call 36; refine (HM3.out _ _ _ hp6).mono ?_; rintro e w7 ⟨v7, rfl, hq7, hx7⟩; obtain ⟨p7, rfl, hp7⟩ := q_formV hq7; clear hq7; have S7 := SR.call (And.left (by assumption)) hx7; obtain ⟨r0, r1, r2, hc, hf, hz⟩ := S7.2.2.2.facts))
  all_goals
    go_wp2
    refine bodyPost_ret (v := .agg #[.bool p7.s, .slice p7.A p7.n p7.c, .slice p7.B p7.m p7.d]) (by simp [results, Try.results95, go_sem, hc]) rfl ?_
    refine ⟨-q6, _, rfl, hp7.off3 S7.2.2.2.typ (by decide) _ _ _, ?_, fun h => by have := HN.out; omega, below3 S7.1 (by omega) _ _ _⟩
    have hwk := HWK.out
    rw [Rat.neg_num, Rat.neg_den, Rat.neg_num, Rat.neg_den] at hwk
    have hwk2 := hwk.flip
    rw [Int.neg_neg, Int.neg_neg] at hwk2
    rw [Rat.neg_num, Rat.neg_den]
    exact hwk2
end Go.Proofs.Ythkoblnfeebafaa
