/- The reference's simple walked. Conditions: an interval of rationals whose parts are within the limits. UNFINISHED. -/
import Derived.Test.YthkoblnfeebafaaHc
import Derived.Test.YthkoblnfeebafaaGd
import Derived.Deep.DeepCutAuto
namespace Go.Proofs.Ythkoblnfeebafaa
open Go.RowKit

/-- parts within the limits -/
def Lim (q : Rat) : Prop := q.num.natAbs ≤ 1000000000 ∧ q.den ≤ 1000000000
theorem Lim.ok {q : Rat} (h : Lim q) : QOk q := qok_small (by have := h.1; omega) (by have := h.2; omega)
def RetSQ (w : World) (a b : Rat) (e : Ending) (w' : World) : Prop :=
  ∃ (q : Rat) (v : Value), e = .returned v ∧ QAt w' v q ∧ Sp.Weak a.num a.den b.num b.den q.num q.den ∧ (1 ≤ a.num → Sp.Strong a.num a.den b.num b.den q.num q.den) ∧ Below w.heap.size w w'
/-- what simple knows of its own blocks: the arguments, the result -/
def SB (w : World) (p r : QV) (a b : Rat) (wx : World) : Prop :=
  Below w.heap.size w wx ∧ QB wx w.heap.size p a ∧ QB wx (w.heap.size + 1) r b ∧ C3 44 wx (w.heap.size + 1 + 1) (.bool false) (.slice none 0 0) (.slice none 0 0)
theorem SB.call {w : World} {p r : QV} {a b : Rat} {wx wy : World} (h : SB w p r a b wx) (hb : Below wx.heap.size wx wy) : SB w p r a b wy := by
  obtain ⟨h1, h2, h3, h4⟩ := h
  exact ⟨bext h1 hb (Nat.le_of_lt h2.1.lt), h2.ext hb, h3.ext hb, h4.ext hb⟩
theorem SB.start {w : World} {p r : QV} {a b : Rat} (hp : QP w p a) (hr : QP w r b) :
    SB w p r a b (((w.alloc (.cells #[.bool p.s, .slice p.A p.n p.c, .slice p.B p.m p.d] 44)).alloc (.cells #[.bool r.s, .slice r.A r.n r.c, .slice r.B r.m r.d] 44)).alloc (.cells #[.bool false, .slice none 0 0, .slice none 0 0] 44)) := by
  have x1 := (Below.refl w.heap.size w).alloc (Nat.le_refl _) (.cells #[.bool p.s, .slice p.A p.n p.c, .slice p.B p.m p.d] 44)
  have x3 := (x1.alloc (by simp) (.cells #[.bool r.s, .slice r.A r.n r.c, .slice r.B r.m r.d] 44)).alloc (by simp; omega) (.cells #[.bool false, .slice none 0 0, .slice none 0 0] 44)
  have p1 := CQ.new (w.alloc (.cells #[.bool p.s, .slice p.A p.n p.c, .slice p.B p.m p.d] 44)) r
  rw [show (w.alloc (.cells #[.bool p.s, .slice p.A p.n p.c, .slice p.B p.m p.d] 44)).heap.size = w.heap.size + 1 by simp] at p1
  have p2 := C3.new (T := 44) ((w.alloc (.cells #[.bool p.s, .slice p.A p.n p.c, .slice p.B p.m p.d] 44)).alloc (.cells #[.bool r.s, .slice r.A r.n r.c, .slice r.B r.m r.d] 44)) (.bool false) (.slice none 0 0) (.slice none 0 0)
  rw [show ((w.alloc (.cells #[.bool p.s, .slice p.A p.n p.c, .slice p.B p.m p.d] 44)).alloc (.cells #[.bool r.s, .slice r.A r.n r.c, .slice r.B r.m r.d] 44)).heap.size = w.heap.size + 1 + 1 by simp] at p2
  exact ⟨x3, ⟨((CQ.new w p).alloc _).alloc _, hp.ext x3⟩, ⟨p1.alloc _, hr.ext x3⟩, p2⟩

theorem sgn_cases (x : Int) : (x < 0 ∧ x.sign = -1) ∨ (x = 0 ∧ x.sign = 0) ∨ (0 < x ∧ x.sign = 1) := by
  rcases Int.lt_trichotomy x 0 with h | h | h
  · exact .inl ⟨h, Int.sign_eq_neg_one_of_neg h⟩
  · exact .inr (.inl ⟨h, by rw [h]; rfl⟩)
  · exact .inr (.inr ⟨h, Int.sign_eq_one_of_pos h⟩)

set_option maxRecDepth 100000 in
set_option maxHeartbeats 4000000 in
/-- zero lies in the interval -/
theorem simple_zero (va vb : Value) (a b : Rat) (w : World) (ha : QAt w va a) (hb : QAt w vb b) (h1 : a.num ≤ 0) (h2 : 0 ≤ b.num) :
    Calls Try.prog 95 #[va, vb] w (RetSQ w a b) := by
  obtain ⟨p, rfl, hp⟩ := q_formV ha
  obtain ⟨r, rfl, hr⟩ := q_formV hb
  have HW := Lib.hid (Sp.whole_zero (an := a.num) (ad := a.den) (bn := b.num) (bd := b.den) h1 h2)
  have HN := Lib.hid (show ¬ 1 ≤ a.num by omega)
  have hs := SB.start hp hr
  have HS := Lib.hid hs
  have hsa := fun W (h : QAt W (.agg #[.bool p.s, .slice p.A p.n p.c, .slice p.B p.m p.d]) a) => sign_any _ a W h
  have hsb := fun W (h : QAt W (.agg #[.bool r.s, .slice r.A r.n r.c, .slice r.B r.m r.d]) b) => sign_any _ b W h
  have HI := Lib.hid (fun W => int_any 0 W (by decide) (by decide))
  have ca : a.num.sign = -1 ∨ a.num.sign = 0 := by rcases sgn_cases a.num with h | h | h <;> omega
  have cb : b.num.sign = 0 ∨ b.num.sign = 1 := by rcases sgn_cases b.num with h | h | h <;> omega
  clear ha hb hp hr h1 h2 hs
  generalize a.num.sign = sa at *
  generalize b.num.sign = sb at *
  have HSA := Lib.hid hsa
  have HSB := Lib.hid hsb
  clear hsa hsb
  rcases ca with rfl | rfl <;> rcases cb with rfl | rfl
  all_goals
    go_enter Try.func95, Try.ntmps95
    go_wp2_with (first
      | (go_at_call 35; ((with_reducible refine (HSA.out _ ?_).mono ?_)); exact HS.out.2.1.2; rintro e w1 ⟨rfl, hx1⟩; have S1 := HS.out.call hx1; obtain ⟨a1, a2, a3⟩ := S1.2.1.1.facts; obtain ⟨b1, b2, b3⟩ := S1.2.2.1.1.facts; obtain ⟨c1, c2, c3⟩ := S1.2.2.2.facts)
      | (go_at_call 35; ((with_reducible refine (HSB.out _ ?_).mono ?_)); exact S1.2.2.1.2; rintro e w2 ⟨rfl, hx2⟩; have S2 := S1.call hx2; obtain ⟨a1, a2, a3⟩ := S2.2.1.1.facts; obtain ⟨b1, b2, b3⟩ := S2.2.2.1.1.facts; obtain ⟨c1, c2, c3⟩ := S2.2.2.2.facts)
      | (go_at_call 80; refine (HI.out _).mono ?_; rintro e w3 ⟨v3, rfl, hq3, hx3⟩; obtain ⟨o, rfl, ho⟩ := q_formV hq3; clear hq3; have S3 := S2.call hx3; obtain ⟨c1, c2, c3⟩ := S3.2.2.2.facts))
    refine bodyPost_ret (v := .agg #[.bool o.s, .slice o.A o.n o.c, .slice o.B o.m o.d]) (by simp [results, Try.results95, go_sem, c1]) rfl ?_
    exact ⟨_, _, rfl, ho.off3 S3.2.2.2.typ (by decide) _ _ _, HW.out, fun h => by have := HN.out; omega, below3 S3.1 (by omega) _ _ _⟩
end Go.Proofs.Ythkoblnfeebafaa
