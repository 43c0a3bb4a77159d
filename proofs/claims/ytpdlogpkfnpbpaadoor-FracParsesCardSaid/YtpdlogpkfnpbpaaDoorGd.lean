/- Rationals in variables of a call's own. No conditions. -/
import Derived.Test.YtpdlogpkfnpbpaaDoorCc
namespace Go.Proofs.YtpdlogpkfnpbpaaDoor
open Go.RowKit

/-- the parts of a rational's value -/
structure QV where
  s : Bool
  A : Option Addr
  n : Nat
  c : Nat
  B : Option Addr
  m : Nat
  d : Nat
def QP (w : World) (p : QV) (q : Rat) : Prop := QAt w (.agg #[.bool p.s, .slice p.A p.n p.c, .slice p.B p.m p.d]) q
def CQ (w : World) (g : Nat) (p : QV) : Prop := C3 45 w g (.bool p.s) (.slice p.A p.n p.c) (.slice p.B p.m p.d)
/-- the variable in block g holds q -/
def QB (w : World) (g : Nat) (p : QV) (q : Rat) : Prop := CQ w g p ∧ QP w p q
theorem q_formV {w : World} {v : Value} {q : Rat} (h : QAt w v q) : ∃ p : QV, v = .agg #[.bool p.s, .slice p.A p.n p.c, .slice p.B p.m p.d] ∧ QP w p q := by
  obtain ⟨s, A, n, c, B, m, d, rfl⟩ := q_form h
  exact ⟨⟨s, A, n, c, B, m, d⟩, rfl, h⟩
theorem QP.ext {w w' : World} {p : QV} {q : Rat} (h : QP w p q) (hb : Below w.heap.size w w') : QP w' p q := QAt.ext h hb
theorem QP.off3 {w : World} {p : QV} {q : Rat} {g : Nat} {T' : TypeId} (h : QP w p q) (hg : Typ w g T') (hT : 70 ≠ T') (x y z : Value) :
    QP (((w.setCell ⟨g, 0, none⟩ x).setCell ⟨g, 1, none⟩ y).setCell ⟨g, 2, none⟩ z) p q := QAt.off3 h hg hT x y z
theorem CQ.ext {w w' : World} {g : Nat} {p : QV} (h : CQ w g p) (hb : Below w.heap.size w w') : CQ w' g p := C3.ext h hb
theorem CQ.facts {w : World} {g : Nat} {p : QV} (h : CQ w g p) : (∀ i, w.cell? ⟨g, i, none⟩ = #[Value.bool p.s, .slice p.A p.n p.c, .slice p.B p.m p.d][i]?) ∧ (∀ i, w.frozen? ⟨g, i, none⟩ = false) ∧ g < w.heap.size := C3.facts h
theorem CQ.cells {w : World} {g : Nat} {p : QV} (h : CQ w g p) : w.cell? ⟨g, 0, none⟩ = some (.bool p.s) ∧ w.cell? ⟨g, 1, none⟩ = some (.slice p.A p.n p.c) ∧ w.cell? ⟨g, 2, none⟩ = some (.slice p.B p.m p.d) := by
  obtain ⟨h1, _, _⟩ := h.facts
  exact ⟨h1 0, h1 1, h1 2⟩
theorem CQ.lt {w : World} {g : Nat} {p : QV} (h : CQ w g p) : g < w.heap.size := h.facts.2.2
theorem CQ.new (w : World) (p : QV) : CQ (w.alloc (.cells #[.bool p.s, .slice p.A p.n p.c, .slice p.B p.m p.d] 45)) w.heap.size p := C3.new _ _ _ _
theorem CQ.alloc {w : World} {g : Nat} {p : QV} (h : CQ w g p) (o : Obj) : CQ (w.alloc o) g p := C3.alloc h o
theorem CQ.set_ne {w : World} {g k : Nat} {p : QV} (h : CQ w g p) (hk : g ≠ k) (a b c : Value) : CQ (((w.setCell ⟨k, 0, none⟩ a).setCell ⟨k, 1, none⟩ b).setCell ⟨k, 2, none⟩ c) g p := C3.set_ne h hk a b c
theorem CQ.typ {w : World} {g : Nat} {p : QV} (h : CQ w g p) : Typ w g 45 := C3.typ h
theorem CQ.res {w : World} {g : Nat} {p : QV} (h : CQ w g p) : Res3 45 w g := C3.res h
theorem Res3.set {w : World} {g : Nat} (h : Res3 45 w g) (p : QV) :
    CQ (((w.setCell ⟨g, 0, none⟩ (.bool p.s)).setCell ⟨g, 1, none⟩ (.slice p.A p.n p.c)).setCell ⟨g, 2, none⟩ (.slice p.B p.m p.d)) g p := by
  obtain ⟨x, y, z, h⟩ := h
  exact C3.set3 h _ _ _
theorem QB.ext {w w' : World} {g : Nat} {p : QV} {q : Rat} (h : QB w g p q) (hb : Below w.heap.size w w') : QB w' g p q := ⟨h.1.ext hb, h.2.ext hb⟩
theorem QB.set_ne {w : World} {g k : Nat} {p : QV} {q : Rat} (h : QB w g p q) (hk : g ≠ k) (ht : Typ w k 45) (a b c : Value) : QB (((w.setCell ⟨k, 0, none⟩ a).setCell ⟨k, 1, none⟩ b).setCell ⟨k, 2, none⟩ c) g p q :=
  ⟨h.1.set_ne hk a b c, h.2.off3 ht (by decide) a b c⟩
theorem QB.new {w : World} {p : QV} {q : Rat} (h : QP w p q) : QB (w.alloc (.cells #[.bool p.s, .slice p.A p.n p.c, .slice p.B p.m p.d] 45)) w.heap.size p q :=
  ⟨CQ.new w p, h.ext ((Below.refl _ _).alloc (Nat.le_refl _) _)⟩
theorem Res3.setQ {w : World} {g : Nat} {p : QV} {q : Rat} (h : Res3 45 w g) (hq : QP w p q) :
    QB (((w.setCell ⟨g, 0, none⟩ (.bool p.s)).setCell ⟨g, 1, none⟩ (.slice p.A p.n p.c)).setCell ⟨g, 2, none⟩ (.slice p.B p.m p.d)) g p q :=
  ⟨h.set p, hq.off3 h.typ (by decide) _ _ _⟩

/-- small parts -/
theorem qok_small {q : Rat} (h1 : q.num.natAbs < 18446744073709551616) (h2 : q.den < 18446744073709551616) : QOk q :=
  ⟨Nat.le_trans (len_small h1) (by omega), Nat.le_trans (len_small h2) (by omega)⟩
theorem qok_rat {n d : Int} (h1 : n.natAbs < 18446744073709551616) (h2 : 1 ≤ d) (h3 : d.natAbs < 18446744073709551616) : QOk (rat n d) := by
  have e : rat n d = mkRat n d.natAbs := by
    unfold rat
    rw [Rat.mkRat_eq_div, ← Rat.intCast_natCast]
    congr 2; omega
  obtain ⟨m1, m2⟩ := mkRat_le n d.natAbs (by omega)
  rw [← e] at m1 m2
  exact qok_small (by omega) (by omega)
end Go.Proofs.YtpdlogpkfnpbpaaDoor
