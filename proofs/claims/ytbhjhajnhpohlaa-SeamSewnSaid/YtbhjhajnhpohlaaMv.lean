/- Moves and runs in memory; ends walked, the program's and the reference's. Conditions: the move's seam is one of the graph. -/
import Derived.Test.YtbhjhajnhpohlaaWe
namespace Go.Proofs.Ytbhjhajnhpohlaa
open Go.RowKit

/-- a move: its seam, its way -/
structure Mv where
  k : Int
  r : Bool
deriving DecidableEq
instance : Inhabited Mv := ⟨⟨0, false⟩⟩
def Mv.val (m : Mv) : Value := .agg #[.int .i64 m.k, .bool m.r]
/-- a slice of moves -/
def MSl (w : World) (A : Option Addr) (l : List Mv) : Prop :=
  l = [] ∨ ∃ b off, A = some ⟨b, off, none⟩ ∧ b < w.heap.size ∧ ∀ j (h : j < l.length), w.cell? ⟨b, off + j * 2, none⟩ = some (.int .i64 l[j].k) ∧ w.cell? ⟨b, off + j * 2 + 1, none⟩ = some (.bool l[j].r)
theorem MSl.ext {w w' : World} {A : Option Addr} {l : List Mv} (h : MSl w A l) (hb : Below w.heap.size w w') : MSl w' A l := by
  rcases h with h | ⟨b, off, hA, hlt, hc⟩
  · exact .inl h
  · refine .inr ⟨b, off, hA, Nat.lt_of_lt_of_le hlt hb.size, fun j hj => ?_⟩
    obtain ⟨c1, c2⟩ := hc j hj
    exact ⟨(hb.cell (p := ⟨b, _, none⟩) hlt).trans c1, (hb.cell (p := ⟨b, _, none⟩) hlt).trans c2⟩
/-- a slice of slices of moves -/
def RSl (w : World) (A : Option Addr) (ls : List (List Mv)) : Prop :=
  ls = [] ∨ ∃ b off, A = some ⟨b, off, none⟩ ∧ b < w.heap.size ∧ ∀ j (h : j < ls.length), ∃ A' c', w.cell? ⟨b, off + j, none⟩ = some (.slice A' ls[j].length c') ∧ ls[j].length ≤ c' ∧ c' ≤ 9223372036854775807 ∧ MSl w A' ls[j]
theorem RSl.ext {w w' : World} {A : Option Addr} {ls : List (List Mv)} (h : RSl w A ls) (hb : Below w.heap.size w w') : RSl w' A ls := by
  rcases h with h | ⟨b, off, hA, hlt, hc⟩
  · exact .inl h
  · refine .inr ⟨b, off, hA, Nat.lt_of_lt_of_le hlt hb.size, fun j hj => ?_⟩
    obtain ⟨A', c', c1, c2, c3, c4⟩ := hc j hj
    exact ⟨A', c', (hb.cell (p := ⟨b, _, none⟩) hlt).trans c1, c2, c3, c4.ext hb⟩
/-- where a move begins and ends -/
def Mv.from (m : Mv) (l : List Sm) : Int := match l[m.k.toNat]? with | some s => if m.r then s.b else s.a | none => 0
def Mv.to_ (m : Mv) (l : List Sm) : Int := match l[m.k.toNat]? with | some s => if m.r then s.a else s.b | none => 0

set_option maxRecDepth 100000 in
set_option maxHeartbeats 2000000 in
theorem ends_any (N : Int) (A : Option Addr) (cap : Nat) (l : List Sm) (m : Mv) (w : World) (_hc : l.length ≤ cap) (_hcm : cap ≤ 9223372036854775807) (h : SSl w A l) (hk : 0 ≤ m.k ∧ m.k < l.length) :
    Calls Try.prog 73 #[.agg #[.int .i64 N, .slice A l.length cap], m.val] w fun e w' => e = .returned (.tuple #[.int .i64 (m.from l), .int .i64 (m.to_ l)]) ∧ Below w.heap.size w w' := by
  obtain ⟨k, r⟩ := m
  obtain ⟨hk1, hk2⟩ := hk
  dsimp only at hk1 hk2
  obtain ⟨q, rfl⟩ := Int.eq_ofNat_of_zero_le hk1
  have hq : q < l.length := by omega
  rcases h with h | ⟨b, off, rfl, hblt, hc⟩
  · rw [h] at hq; simp at hq
  · obtain ⟨c1, c2, c3, c4⟩ := hc q hq
    have e1 : (⟨(q : Int), r⟩ : Mv).from l = if r then l[q].b else l[q].a := by unfold Mv.from; rw [Int.toNat_natCast, List.getElem?_eq_getElem hq]
    have e2 : (⟨(q : Int), r⟩ : Mv).to_ l = if r then l[q].a else l[q].b := by unfold Mv.to_; rw [Int.toNat_natCast, List.getElem?_eq_getElem hq]
    obtain ⟨s, hs⟩ : ∃ s, s = l[q] := ⟨_, rfl⟩
    rw [← hs] at c1 c2 c3 c4 e1 e2
    rw [e1, e2]
    clear hs hc e1 e2 hk1
    obtain ⟨a, b', n, t⟩ := s
    dsimp only at c1 c2 c3 c4
    show Calls Try.prog 73 #[.agg #[.int .i64 N, .slice (some ⟨b, off, none⟩) l.length cap], .agg #[.int .i64 (q : Int), .bool r]] w _
    have i0 : (0 : Int) ≤ (q : Int) := by omega
    cases r
    all_goals
      go_enter Try.func73, Try.ntmps73
      go_wp2
      go_quiet (fail)
      go_wp2
      go_ret2
      exact ⟨rfl, bdrewN ((((Below.refl _ _).alloc (Nat.le_refl _) _).alloc (by simp) _).alloc (by simp; omega) _) _⟩
end Go.Proofs.Ytbhjhajnhpohlaa
