/- Walks of the reference's made, Int, Minus, Sign on rationals. Conditions: the parts lie in memory as naturals of at most 20,000 digits. -/
import Derived.Test.YtpdlogpkfnpbpaaDoorNatG
import Derived.Test.YtpdlogpkfnpbpaaDoorRat
namespace Go.Proofs.YtpdlogpkfnpbpaaDoor
open Go.RowKit

/-- a rational in memory: its sign, numerator, denominator -/
def QAt (w : World) (v : Value) (q : Rat) : Prop :=
  ∃ s vn vd, v = .agg #[.bool s, vn, vd] ∧ s = decide (q.num < 0) ∧ NatAt w vn q.num.natAbs ∧ NatAt w vd q.den
def RetQ (w : World) (q : Rat) (e : Ending) (w' : World) : Prop := ∃ v, e = .returned v ∧ QAt w' v q ∧ Below w.heap.size w w'
theorem QAt.ext {w w' : World} {v : Value} {q : Rat} (h : QAt w v q) (hb : Below w.heap.size w w') : QAt w' v q := by
  obtain ⟨s, vn, vd, h1, h2, h3, h4⟩ := h
  exact ⟨s, vn, vd, h1, h2, h3.ext hb, h4.ext hb⟩

/-- block g is one of cells of type T -/
def Typ (w : World) (g : Nat) (T : TypeId) : Prop := ∃ cs, w.heap[g]? = some (.cells cs T (0, 0))
theorem Typ.set {w : World} {g : Nat} {T : TypeId} (h : Typ w g T) (a : Addr) (u : Value) : Typ (w.setCell a u) g T := by
  obtain ⟨cs, h⟩ := h
  unfold Typ
  simp only [World.setCell, Array.getElem?_modify, h]
  split
  · exact ⟨_, rfl⟩
  · exact ⟨_, rfl⟩
theorem Typ.ext {w w' : World} {g : Nat} {T : TypeId} (h : Typ w g T) (hb : Below w.heap.size w w') : Typ w' g T := by
  obtain ⟨cs, h⟩ := h
  exact ⟨cs, (hb.block g (lt_of_block h)).trans h⟩
theorem Typ.new (w : World) (cs : Array Value) (T : TypeId) : Typ (w.alloc (.cells cs T)) w.heap.size T := ⟨cs, heap_alloc_new w _⟩
theorem NatAt.off {w : World} {v : Value} {n g : Nat} {T' : TypeId} (h : NatAt w v n) (hg : Typ w g T') (hT : 70 ≠ T') (j : Nat) (u : Value) : NatAt (w.setCell ⟨g, j, none⟩ u) v n := by
  obtain ⟨cs, hg⟩ := hg
  exact h.far hg hT
theorem QAt.off {w : World} {v : Value} {q : Rat} {g : Nat} {T' : TypeId} (h : QAt w v q) (hg : Typ w g T') (hT : 70 ≠ T') (j : Nat) (u : Value) : QAt (w.setCell ⟨g, j, none⟩ u) v q := by
  obtain ⟨s, vn, vd, h1, h2, h3, h4⟩ := h
  exact ⟨s, vn, vd, h1, h2, h3.off hg hT j u, h4.off hg hT j u⟩
/-- three cells of a block of another type are written -/
theorem QAt.off3 {w : World} {v : Value} {q : Rat} {g : Nat} {T' : TypeId} (h : QAt w v q) (hg : Typ w g T') (hT : 70 ≠ T') (x y z : Value) :
    QAt (((w.setCell ⟨g, 0, none⟩ x).setCell ⟨g, 1, none⟩ y).setCell ⟨g, 2, none⟩ z) v q :=
  ((h.off hg hT 0 x).off (hg.set _ _) hT 1 y).off ((hg.set _ _).set _ _) hT 2 z
theorem below3 {w0 w : World} {g : Nat} {B : Nat} (h : Below B w0 w) (hB : B ≤ g) (x y z : Value) : Below B w0 (((w.setCell ⟨g, 0, none⟩ x).setCell ⟨g, 1, none⟩ y).setCell ⟨g, 2, none⟩ z) :=
  ((h.setCell hB _).setCell hB _).setCell hB _
/-- a block that the call itself has made, seen later -/
theorem new_cell {w w' : World} {cs : Array Value} {T : TypeId} (hb : Below (w.alloc (.cells cs T)).heap.size (w.alloc (.cells cs T)) w') :
    (∀ i, w'.cell? ⟨w.heap.size, i, none⟩ = cs[i]?) ∧ (∀ i, w'.frozen? ⟨w.heap.size, i, none⟩ = false) ∧ w.heap.size < w'.heap.size := by
  have hlt : w.heap.size < (w.alloc (.cells cs T)).heap.size := by simp
  refine ⟨fun i => ?_, fun i => ?_, Nat.lt_of_lt_of_le hlt hb.size⟩
  · rw [hb.cell (p := ⟨w.heap.size, i, none⟩) hlt]; simp
  · rw [hb.frozen (p := ⟨w.heap.size, i, none⟩) hlt]; simp
theorem gcd_len {a b : Nat} (h : b ≠ 0) : (Num.dig (Nat.gcd a b)).length ≤ (Num.dig b).length := Num.len_mono (Nat.gcd_le_right _ (by omega))

set_option maxHeartbeats 1000000 in
theorem made_any (s : Bool) (va vb : Value) (a b : Nat) (w : World) (ha : NatAt w va a) (hb : NatAt w vb b) (za : (Num.dig a).length ≤ 20000) (zb : (Num.dig b).length ≤ 20000) (h0 : b ≠ 0) :
    Calls Tryd.prog 38 #[.bool s, va, vb] w (RetQ w (Q.mk s a b)) := by
  by_cases h1 : a = 0
  · subst h1
    obtain ⟨A, c, rfl⟩ := natAt_len ha
    rw [Num.dig_zero, Q.mk_zero]
    go_enter Tryd.func38, Tryd.ntmps38
    go_wp2
    go_returns
    exact ⟨_, rfl, ⟨false, _, _, rfl, by simp, zero_nil _, by simpa using one_new (w.alloc _)⟩, ((Below.refl _ _).alloc (Nat.le_refl _) _).alloc (by simp) _⟩
  · have ha' := ha
    obtain ⟨A, c, rfl⟩ := natAt_len ha
    have h2 : 0 < (Num.dig a).length := by
      rcases Nat.eq_zero_or_pos (Num.dig a).length with h | h
      · exact absurd (Num.dig_len_zero.1 h) h1
      · exact h
    have HA := Lib.hid ha'
    have HB := Lib.hid hb
    have zg := gcd_len (a := a) h0
    clear ha ha' hb
    go_enter Tryd.func38, Tryd.ntmps38
    go_wp2_with (first
      | (go_at_call 57; refine (divisor_any _ _ a b _ (HA.out.ext ?_) (HB.out.ext ?_) za zb).mono ?_; exact (Below.refl _ _).alloc (Nat.le_refl _) _; exact (Below.refl _ _).alloc (Nat.le_refl _) _; rintro e w1 ⟨v1, rfl, hg, hb1⟩)
      | (go_at_call_of 58 (Value.slice A (Num.dig a).length c); refine (divided_any _ _ a _ _ (HA.out.ext ?_) hg za (Nat.le_trans zg zb) ?_).mono ?_; exact ext_trans ((Below.refl _ _).alloc (Nat.le_refl _) _) hb1; exact Nat.gcd_pos_of_pos_left _ (by omega); rintro e w2 ⟨v2, u2, rfl, hn2, hm2, hb2⟩; obtain ⟨A2, c2, rfl⟩ := natAt_len hn2; have E2 := ext_trans hb1 hb2)
      | (go_at_call_of 58 vb; refine (divided_any _ _ b _ _ (HB.out.ext ?_) (hg.ext hb2) zb (Nat.le_trans zg zb) ?_).mono ?_; exact ext_trans ((Below.refl _ _).alloc (Nat.le_refl _) _) E2; exact Nat.gcd_pos_of_pos_left _ (by omega); rintro e w3 ⟨v3, u3, rfl, hn3, hm3, hb3⟩; obtain ⟨A3, c3, rfl⟩ := natAt_len hn3; have E3 := ext_trans E2 hb3; obtain ⟨hc3, hf3, hz3⟩ := new_cell E3))
    refine bodyPost_ret (v := .agg #[.bool s, .slice A2 (Num.dig (a / a.gcd b)).length c2, .slice A3 (Num.dig (b / a.gcd b)).length c3]) (by simp [results, Tryd.results38, go_sem, hc3]) rfl ?_
    have ht := (Typ.new w _ _).ext E3
    have hq : QAt w3 (.agg #[.bool s, .slice A2 (Num.dig (a / a.gcd b)).length c2, .slice A3 (Num.dig (b / a.gcd b)).length c3]) (Q.mk s a b) :=
      ⟨s, _, _, rfl, (Q.mk_neg h0 h1).symm, by rw [Q.mk_abs h0]; exact hn2.ext hb3, by rw [Q.mk_den' h0]; exact hn3⟩
    exact ⟨_, rfl, hq.off3 ht (by decide) _ _ _, below3 (ext_trans ((Below.refl _ _).alloc (Nat.le_refl _) _) E3) (Nat.le_refl _) _ _ _⟩
end Go.Proofs.YtpdlogpkfnpbpaaDoor
