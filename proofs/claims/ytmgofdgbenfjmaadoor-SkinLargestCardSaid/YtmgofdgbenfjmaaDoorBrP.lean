/- Plain: the best rectangle so far, in the order of the scan. No conditions. -/
import Derived.Test.YtmgofdgbenfjmaaDoorLp
import Derived.Test.YtmgofdgbenfjmaaDoorRm
namespace Go.Proofs.YtmgofdgbenfjmaaDoor

def noR : Rn := ⟨0, 0, 0, 0⟩
/-- the best so far; none is the zero rectangle -/
def BrI (us : Int × Int → Bool) (sq : Bool) (p m : Rn) : Prop := (m = noR ∧ ∀ s, UsR us sq s → ¬ rlt s p) ∨ (UsR us sq m ∧ rlt m p ∧ ∀ s, UsR us sq s → rlt s p → ¬ btr s m)
/-- when the reference takes a rectangle -/
def updR (r m : Rn) : Prop := m.a * m.b < r.a * r.b ∨ (r.a * r.b = m.a * m.b ∧ r.y = m.y ∧ r.x = m.x ∧ m.a < r.a)
section
variable {us : Int × Int → Bool} {sq : Bool} {p q m : Rn} {n k x y a b : Nat}
theorem BrI.start (us : Int × Int → Bool) (sq : Bool) : BrI us sq ⟨0, 0, 1, 1⟩ noR := .inl ⟨rfl, fun s hs => by
  have := hs.1; have := hs.2.1
  unfold rlt; dsimp only; omega⟩
theorem BrI.move (h : BrI us sq p m) (hq : ∀ s, UsR us sq s → (rlt s p ↔ rlt s q)) : BrI us sq q m := by
  rcases h with ⟨h1, h2⟩ | ⟨h1, h2, h3⟩
  · exact .inl ⟨h1, fun s hs hr => h2 s hs ((hq s hs).2 hr)⟩
  · exact .inr ⟨h1, (hq m h1).1 h2, fun s hs hr => h3 s hs ((hq s hs).2 hr)⟩
theorem BrI.no (h : BrI us sq ⟨x, y, a, b⟩ m) (hn : ¬ UsR us sq ⟨x, y, a, b⟩) : BrI us sq ⟨x, y, a, b + 1⟩ m := h.move fun s hs => by
  rw [rlt_next]
  exact ⟨.inl, fun h => h.elim id fun e => absurd (e ▸ hs) hn⟩
theorem BrI.upd (h : BrI us sq ⟨x, y, a, b⟩ m) (hu : UsR us sq ⟨x, y, a, b⟩) (hp : updR ⟨x, y, a, b⟩ m) : BrI us sq ⟨x, y, a, b + 1⟩ ⟨x, y, a, b⟩ := by
  refine .inr ⟨hu, rlt_next.2 (.inr rfl), fun s hs hr hbt => ?_⟩
  rcases rlt_next.1 hr with hr | rfl
  · rcases h with ⟨h1, h2⟩ | ⟨h1, h2, h3⟩
    · exact h2 s hs hr
    · refine h3 s hs hr ?_
      unfold updR at hp
      unfold btr at hbt ⊢
      dsimp only at hp hbt ⊢
      omega
  · exact btr_irr _ hbt
theorem BrI.keep (h : BrI us sq ⟨x, y, a, b⟩ m) (hu : UsR us sq ⟨x, y, a, b⟩) (hp : ¬ updR ⟨x, y, a, b⟩ m) : BrI us sq ⟨x, y, a, b + 1⟩ m := by
  rcases h with ⟨rfl, h2⟩ | ⟨h1, h2, h3⟩
  · refine absurd (.inl ?_) hp
    have := Nat.mul_pos (show 0 < a from hu.1) (show 0 < b from hu.2.1)
    show 0 * 0 < a * b
    omega
  · refine .inr ⟨h1, rlt_next.2 (.inl h2), fun s hs hr hbt => ?_⟩
    rcases rlt_next.1 hr with hr | rfl
    · exact h3 s hs hr hbt
    · unfold updR at hp
      unfold btr at hbt
      unfold rlt at h2
      dsimp only at hp hbt h2
      omega
variable (hi : Inn us n k)
include hi
theorem UsR.inn {s : Rn} (hs : UsR us sq s) : s.x + s.a ≤ n ∧ s.y + s.b ≤ k ∧ 1 ≤ s.a ∧ 1 ≤ s.b := by
  have := Fu.inn hi hs.1 hs.2.1 hs.2.2.1
  exact ⟨this.1, this.2, hs.1, hs.2.1⟩
theorem BrI.nextA (h : BrI us sq ⟨x, y, a, b⟩ m) (hb : k < y + b) : BrI us sq ⟨x, y, a + 1, 1⟩ m := h.move fun s hs => by
  have := UsR.inn hi hs
  unfold rlt; dsimp only; omega
theorem BrI.nextX (h : BrI us sq ⟨x, y, a, 1⟩ m) (hb : n < x + a) : BrI us sq ⟨x + 1, y, 1, 1⟩ m := h.move fun s hs => by
  have := UsR.inn hi hs
  unfold rlt; dsimp only; omega
theorem BrI.nextY (h : BrI us sq ⟨x, y, 1, 1⟩ m) (hb : n ≤ x) : BrI us sq ⟨0, y + 1, 1, 1⟩ m := h.move fun s hs => by
  have := UsR.inn hi hs
  unfold rlt; dsimp only; omega
theorem BrI.all (h : BrI us sq ⟨0, y, 1, 1⟩ m) (hb : k ≤ y) : (m = noR ∧ ∀ s, ¬ UsR us sq s) ∨ (1 ≤ m.a ∧ BestR us sq m) := by
  have hr : ∀ s, UsR us sq s → rlt s ⟨0, y, 1, 1⟩ := fun s hs => by
    have := UsR.inn hi hs
    unfold rlt; dsimp only; omega
  rcases h with ⟨h1, h2⟩ | ⟨h1, h2, h3⟩
  · exact .inl ⟨h1, fun s hs => h2 s hs (hr s hs)⟩
  · exact .inr ⟨h1.1, h1, fun s hs => h3 s hs (hr s hs)⟩
theorem BrI.sm (h : BrI us sq p m) (hn : n ≤ 100) (hk : k ≤ 100) : SmR m := by
  rcases h with ⟨rfl, _⟩ | ⟨h1, _⟩
  · unfold SmR noR; dsimp only; omega
  · have := UsR.inn hi h1
    unfold SmR; omega
end
end Go.Proofs.YtmgofdgbenfjmaaDoor
