/- Plain: squares, the great ones first; what Largest and Square answer is one thing. No conditions. -/
import Derived.Test.YtmgofdgbenfjmaaDoorBrP
namespace Go.Proofs.YtmgofdgbenfjmaaDoor
open Go.RowKit

/-- squares ahead of a place in the scan -/
def sqB (s : Rn) (n y x : Nat) : Prop := n < s.a ∨ (s.a = n ∧ (s.y < y ∨ (s.y = y ∧ s.x < x)))
def SqI (us : Int × Int → Bool) (n y x : Nat) : Prop := ∀ s, UsR us true s → ¬ sqB s n y x
section
variable {us : Int × Int → Bool} {n y x w h : Nat}
theorem SqI.start (hi : Inn us w h) : SqI us (min w h) 0 0 := fun s hs hb => by
  have := UsR.inn hi hs
  have := hs.2.2.2 rfl
  unfold sqB at hb; omega
theorem SqI.no (k : SqI us n y x) (hn : ¬ UsR us true ⟨x, y, n, n⟩) : SqI us n y (x + 1) := fun s hs hb => by
  have h1 := k s hs
  have h2 := hs.2.2.2 rfl
  by_cases he : s.a = n ∧ s.y = y ∧ s.x = x
  · refine hn ?_
    have e : s = ⟨x, y, n, n⟩ := Rn.ext' he.2.2 he.2.1 he.1 (by show s.b = n; omega)
    rw [← e]; exact hs
  · refine h1 ?_
    unfold sqB at hb ⊢; omega
theorem SqI.nextY (hi : Inn us w h) (k : SqI us n y x) (hx : w < x + n) : SqI us n (y + 1) 0 := fun s hs hb => by
  have h1 := k s hs
  have := UsR.inn hi hs
  refine h1 ?_
  unfold sqB at hb ⊢; omega
theorem SqI.nextN (hi : Inn us w h) (k : SqI us (n + 1) y 0) (hx : h < y + (n + 1)) : SqI us n 0 0 := fun s hs hb => by
  have h1 := k s hs
  have := UsR.inn hi hs
  have h2 := hs.2.2.2 rfl
  refine h1 ?_
  unfold sqB at hb ⊢; omega
theorem SqI.none (k : SqI us 0 0 0) : ∀ s, ¬ UsR us true s := fun s hs => k s hs (.inl hs.1)
theorem SqI.hit (k : SqI us n y x) (hu : UsR us true ⟨x, y, n, n⟩) : BestR us true ⟨x, y, n, n⟩ := ⟨hu, fun s hs hb => by
  have h1 := k s hs
  have h2 := hs.2.2.2 rfl
  unfold btr at hb
  rw [← h2] at hb
  dsimp only at hb
  refine h1 ?_
  unfold sqB
  rcases Nat.lt_trichotomy s.a n with h3 | h3 | h3
  · have : s.a * s.a < n * n := Nat.mul_lt_mul_of_lt_of_le h3 (by omega) (by omega)
    omega
  · rw [h3] at hb
    omega
  · exact .inl h3⟩
end
/-- what is answered -/
def LgOk (l : List ByteArray) (g : Int) (sq : Bool) (m : Rn) (er : Int) : Prop := (¬ PsOk l g ∧ m = noR ∧ er = 2) ∨ (PsOk l g ∧ (∀ s, ¬ UsR (usb l g) sq s) ∧ m = noR ∧ er = 7) ∨ (PsOk l g ∧ BestR (usb l g) sq m ∧ er = 0)
theorem LgOk.uniq {l : List ByteArray} {g : Int} {sq : Bool} {m m' : Rn} {er er' : Int} (h : LgOk l g sq m er) (h' : LgOk l g sq m' er') : m = m' ∧ er = er' := by
  rcases h with ⟨a1, a2, a3⟩ | ⟨a1, a2, a3, a4⟩ | ⟨a1, a2, a3⟩ <;> rcases h' with ⟨b1, b2, b3⟩ | ⟨b1, b2, b3, b4⟩ | ⟨b1, b2, b3⟩
  · exact ⟨a2.trans b2.symm, a3.trans b3.symm⟩
  · exact absurd b1 a1
  · exact absurd b1 a1
  · exact absurd a1 b1
  · exact ⟨a3.trans b3.symm, a4.trans b4.symm⟩
  · exact absurd b2.1 (a2 _)
  · exact absurd a1 b1
  · exact absurd a2.1 (b2 _)
  · exact ⟨BestR.uniq a2 b2, a3.trans b3.symm⟩
theorem lg_same {w : World} {l : List ByteArray} {g : Int} {sq : Bool} {e : Ending} {w' : World} (h : RetLg w l g sq e w') : ∃ m er, LgOk l g sq m er ∧ e = .returned (.tuple #[.agg #[.int .i64 (m.x : Int), .int .i64 (m.y : Int), .int .i64 (m.a : Int), .int .i64 (m.b : Int)], .int .i64 er]) ∧ Below w.heap.size w w' := by
  obtain ⟨hb, ⟨h1, rfl⟩ | ⟨h1, h2, rfl⟩ | ⟨h1, m, h2, rfl⟩⟩ := h
  · exact ⟨noR, 2, .inl ⟨h1, rfl, rfl⟩, rfl, hb⟩
  · exact ⟨noR, 7, .inr (.inl ⟨h1, h2, rfl, rfl⟩), rfl, hb⟩
  · exact ⟨m, 0, .inr (.inr ⟨h1, h2, rfl⟩), rfl, hb⟩
end Go.Proofs.YtmgofdgbenfjmaaDoor
