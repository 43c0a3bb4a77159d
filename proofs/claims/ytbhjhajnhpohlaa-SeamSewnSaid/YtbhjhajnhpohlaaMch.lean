/- The machine's state, plain and in memory; need and use walked. No conditions. -/
import Derived.Test.YtbhjhajnhpohlaaMv
import Derived.Test.YtbhjhajnhpohlaaOpm
import Derived.Test.YtbhjhajnhpohlaaSwP
import Derived.StillTailTactics
namespace Go.Proofs.Ytbhjhajnhpohlaa
open Go.RowKit

/-- the machine's state but its fault -/
structure Mc where
  s : Int
  a : Int
  h : Int
  k : Int
  sw : Nat → Int
  us : Nat → Int
/-- thread used -/
def Mc.use (m : Mc) (x : Int) : Mc := { m with us := upd m.us m.h.toNat (wrap64 (m.us m.h.toNat + x)) }
/-- the length of a move's seam -/
def Mv.len (m : Mv) (l : List Sm) : Int := match l[m.k.toNat]? with | some s => s.n | none => 0
/-- one op but a repeat: the number of its fault, or 0, and the state behind it -/
def pst (N : Int) (l : List Sm) (o : Opr) (m : Mc) : Int × Mc :=
  if o.c = 0 then (if 0 ≤ m.h then (1, m) else (0, { m with h := o.g }))
  else if o.c = 1 then (if 0 ≤ m.h then (2, m) else if N ≤ o.g then (3, m) else (0, { m with a := o.g }))
  else if m.h < 0 then (4, m)
  else if o.c = 2 then (0, m.use 4)
  else if o.c = 4 then (0, { m.use 2 with h := -1, k := wrap64 (m.k + 1) })
  else if (l.length : Int) ≤ o.g then (5, m)
  else if (⟨o.g, o.b⟩ : Mv).thr l ≠ m.h then (6, m)
  else if m.a ≠ (⟨o.g, o.b⟩ : Mv).from l then (7, m)
  else (0, { m.use (wrap64 (3 * (⟨o.g, o.b⟩ : Mv).len l)) with sw := upd m.sw o.g.toNat (wrap64 (m.sw o.g.toNat + 1)), a := (⟨o.g, o.b⟩ : Mv).to_ l })
/-- the machine's own blocks: g itself, bs the seams' counts, bu the threads' use -/
def PmS (g bs bu n : Nat) (N : Int) (A : Option Addr) (cap : Nat) (fuel f : Int) (m : Mc) (w : World) : Prop :=
  Bk 126 w g #[.int .i64 f, .int .i64 m.s, .int .i64 m.a, .int .i64 m.h, .int .i64 m.k, .slice (some ⟨bs, 0, none⟩) n n, .slice (some ⟨bu, 0, none⟩) 8 8, .int .i64 N, .slice A n cap, .int .i64 fuel] ∧ Ow 3 bs n m.sw w ∧ Ow 3 bu 8 m.us w
/-- the blocks differ and lie above B -/
def Ap (B g bs bu : Nat) : Prop := B ≤ g ∧ B ≤ bs ∧ B ≤ bu ∧ g ≠ bs ∧ g ≠ bu ∧ bs ≠ bu
/-- all blocks but three are as they were -/
structure But3 (g bs bu : Nat) (w w' : World) : Prop where
  os : w'.os = w.os
  tape : w'.tape = w.tape
  output : w'.output = w.output
  size : w.heap.size ≤ w'.heap.size
  block : ∀ k, k < w.heap.size → k ≠ g → k ≠ bs → k ≠ bu → w'.heap[k]? = w.heap[k]?
section
variable {g bs bu n : Nat} {N : Int} {A : Option Addr} {cap : Nat} {fuel f : Int} {m : Mc} {w w' w'' : World} {B : Nat}
theorem But3.refl (g bs bu : Nat) (w : World) : But3 g bs bu w w := ⟨rfl, rfl, rfl, Nat.le_refl _, fun _ _ _ _ _ => rfl⟩
theorem But3.trans (h : But3 g bs bu w w') (k : But3 g bs bu w' w'') : But3 g bs bu w w'' :=
  ⟨k.os.trans h.os, k.tape.trans h.tape, k.output.trans h.output, Nat.le_trans h.size k.size, fun i hi h1 h2 h3 => (k.block i (Nat.lt_of_lt_of_le hi h.size) h1 h2 h3).trans (h.block i hi h1 h2 h3)⟩
theorem But3.of (h : Below w.heap.size w w') : But3 g bs bu w w' := ⟨h.os, h.tape, h.output, h.size, fun k hk _ _ _ => h.block k hk⟩
theorem But3.below (h : But3 g bs bu w w') (ha : Ap B g bs bu) (hB : B ≤ w.heap.size) : Below B w w' :=
  ⟨h.os, h.tape, h.output, h.size, fun k hk => h.block k (by omega) (by have := ha.1; omega) (by have := ha.2.1; omega) (by have := ha.2.2.1; omega)⟩
theorem But3.set (h : But3 g bs bu w w') {k j : Nat} (hk : k = g ∨ k = bs ∨ k = bu) (u : Value) : But3 g bs bu w (w'.setCell ⟨k, j, none⟩ u) := by
  have hs : (w'.setCell ⟨k, j, none⟩ u).heap.size = w'.heap.size := by simp
  refine ⟨h.os, h.tape, h.output, by rw [hs]; exact h.size, fun i hi h1 h2 h3 => ?_⟩
  exact (Below.heap_setCell w' _ u i (by show i ≠ k; omega)).trans (h.block i hi h1 h2 h3)
theorem But3.bk {T : TypeId} {b : Nat} {cs : Array Value} (h : But3 g bs bu w w') (hb : Bk T w b cs) (h1 : b ≠ g) (h2 : b ≠ bs) (h3 : b ≠ bu) : Bk T w' b cs := (h.block b hb.lt h1 h2 h3).trans hb
theorem PmS.ext (h : PmS g bs bu n N A cap fuel f m w) (hb : Below w.heap.size w w') : PmS g bs bu n N A cap fuel f m w' := ⟨h.1.ext hb, h.2.1.ext hb, h.2.2.ext hb⟩
end
section
variable {g bs bu n : Nat} {N : Int} {A : Option Addr} {cap : Nat} {fuel f : Int} {m : Mc} {w : World} {B : Nat}
theorem PmS.setF (h : PmS g bs bu n N A cap fuel f m w) (ha : Ap B g bs bu) (x : Int) : PmS g bs bu n N A cap fuel x m (w.setCell ⟨g, 0, none⟩ (.int .i64 x)) := ⟨h.1.set 0 _, h.2.1.set_ne (Ne.symm ha.2.2.2.1) _, h.2.2.set_ne (Ne.symm ha.2.2.2.2.1) _⟩
theorem PmS.setS (h : PmS g bs bu n N A cap fuel f m w) (ha : Ap B g bs bu) (x : Int) : PmS g bs bu n N A cap fuel f { m with s := x } (w.setCell ⟨g, 1, none⟩ (.int .i64 x)) := ⟨h.1.set 1 _, h.2.1.set_ne (Ne.symm ha.2.2.2.1) _, h.2.2.set_ne (Ne.symm ha.2.2.2.2.1) _⟩
theorem PmS.setA (h : PmS g bs bu n N A cap fuel f m w) (ha : Ap B g bs bu) (x : Int) : PmS g bs bu n N A cap fuel f { m with a := x } (w.setCell ⟨g, 2, none⟩ (.int .i64 x)) := ⟨h.1.set 2 _, h.2.1.set_ne (Ne.symm ha.2.2.2.1) _, h.2.2.set_ne (Ne.symm ha.2.2.2.2.1) _⟩
theorem PmS.setH (h : PmS g bs bu n N A cap fuel f m w) (ha : Ap B g bs bu) (x : Int) : PmS g bs bu n N A cap fuel f { m with h := x } (w.setCell ⟨g, 3, none⟩ (.int .i64 x)) := ⟨h.1.set 3 _, h.2.1.set_ne (Ne.symm ha.2.2.2.1) _, h.2.2.set_ne (Ne.symm ha.2.2.2.2.1) _⟩
theorem PmS.setK (h : PmS g bs bu n N A cap fuel f m w) (ha : Ap B g bs bu) (x : Int) : PmS g bs bu n N A cap fuel f { m with k := x } (w.setCell ⟨g, 4, none⟩ (.int .i64 x)) := ⟨h.1.set 4 _, h.2.1.set_ne (Ne.symm ha.2.2.2.1) _, h.2.2.set_ne (Ne.symm ha.2.2.2.2.1) _⟩
theorem PmS.setW (h : PmS g bs bu n N A cap fuel f m w) (ha : Ap B g bs bu) (i : Nat) (x : Int) : PmS g bs bu n N A cap fuel f { m with sw := upd m.sw i x } (w.setCell ⟨bs, i, none⟩ (.int .i64 x)) := ⟨h.1.set_ne ha.2.2.2.1 _, h.2.1.set _ _, h.2.2.set_ne (Ne.symm ha.2.2.2.2.2) _⟩
end
theorem ap0 {B g bs bu : Nat} (h : Ap B g bs bu) : Ap 0 g bs bu := ⟨Nat.zero_le _, Nat.zero_le _, Nat.zero_le _, h.2.2.2⟩
theorem need_yes (f : Int) (w : World) : Calls Try.prog 82 #[.bool true, .int .i64 f] w fun e w' => e = .returned (.tuple #[]) ∧ w' = w := by
  go_enter Try.func82, Try.ntmps82
  go_wp2
  go_end0
  simp
theorem need_no (f : Int) (w : World) : Calls Try.prog 82 #[.bool false, .int .i64 f] w fun e w' => e = .panicked [{ v := .iface 141 (.int .i64 f), recovered := false }] ∧ w' = w := by
  go_enter Try.func82, Try.ntmps82
  go_wp2
  exact ⟨rfl, rfl, rfl⟩
theorem need_yes' {b : Bool} (hb : b = true) (f : Int) (w : World) : Calls Try.prog 82 #[.bool b, .int .i64 f] w fun e w' => e = .returned (.tuple #[]) ∧ w' = w := by subst hb; exact need_yes f w
theorem need_no' {b : Bool} (hb : b = false) (f : Int) (w : World) : Calls Try.prog 82 #[.bool b, .int .i64 f] w fun e w' => e = .panicked [{ v := .iface 141 (.int .i64 f), recovered := false }] ∧ w' = w := by subst hb; exact need_no f w
theorem PmS.use {g bs bu n : Nat} {N : Int} {A : Option Addr} {cap : Nat} {fuel f : Int} {m : Mc} {w : World} (h : PmS g bs bu n N A cap fuel f m w) (ha : Ap 0 g bs bu) (x : Int) : PmS g bs bu n N A cap fuel f (m.use x) (w.setCell ⟨bu, m.h.toNat, none⟩ (.int .i64 (wrap64 (m.us m.h.toNat + x)))) :=
  ⟨h.1.set_ne (by have := ha.2.2.2; omega) _, h.2.1.set_ne (by have := ha.2.2.2; omega) _, h.2.2.set _ _⟩
set_option maxRecDepth 100000 in
set_option maxHeartbeats 2000000 in
theorem use_any {g bs bu n : Nat} {N : Int} {A : Option Addr} {cap : Nat} {fuel f : Int} {m : Mc} {w : World} (x : Int) (h : PmS g bs bu n N A cap fuel f m w) (ha : Ap 0 g bs bu) (h0 : 0 ≤ m.h) (h8 : m.h < 8) :
    Calls Try.prog 93 #[.pointer (some ⟨g, 0, none⟩), .int .i64 x] w fun e w' => e = .returned (.tuple #[]) ∧ PmS g bs bu n N A cap fuel f (m.use x) w' ∧ But3 g bs bu w w' := by
  have HU := Lib.hid (h.use ha x)
  have HB := Lib.hid ((But3.refl g bs bu w).set (k := bu) (j := m.h.toNat) (.inr (.inr rfl)) (.int .i64 (wrap64 (m.us m.h.toNat + x))))
  obtain ⟨f1, f2, f3⟩ := h.1.facts
  obtain ⟨q, hq⟩ := Int.eq_ofNat_of_zero_le h0
  have e1 := h.2.2.cell (i := q) (by omega)
  have e2 := h.2.2.frozen q
  have e3 := h.2.2.lt
  obtain ⟨ms, ma, mh, mk, msw, mus⟩ := m
  dsimp only at f1 e1 e2 e3 hq h0 h8 HU HB
  subst hq
  rw [Int.toNat_natCast] at HU HB
  have q8 : (q : Int) < 8 := by omega
  have q9 : q < 8 := by omega
  clear h ha
  go_enter Try.func93, Try.ntmps93
  go_still_tail 14, (by kernel_rfl)
  go_wp2
  go_end0
  first
    | exact ⟨rfl, HU.out, HB.out⟩
    | exact ⟨rfl, HU.out.ext (ext_drewN _ _), HB.out.trans (But3.of (ext_drewN _ _))⟩
end Go.Proofs.Ytbhjhajnhpohlaa
