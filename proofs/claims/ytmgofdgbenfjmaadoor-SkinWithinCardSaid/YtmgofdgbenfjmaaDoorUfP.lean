/- Plain: the scan that joins neighbours, under way. No conditions. -/
import Derived.Test.YtmgofdgbenfjmaaDoorUf
namespace Go.Proofs.YtmgofdgbenfjmaaDoor

/-- the neighbours joined so far: rows above y, cells left of x, d of the two at x -/
def CjD (us : Cel → Bool) (n : Nat) (J : Nat → Nat → Prop) (y x d : Nat) : Prop := ∀ a b : Nat, us ((a : Int), (b : Int)) = true →
  ((b < y ∨ (b = y ∧ (a < x ∨ (a = x ∧ 0 < d)))) → us ((a : Int) + 1, (b : Int)) = true → J (n * b + a) (n * b + a + 1)) ∧
  ((b < y ∨ (b = y ∧ (a < x ∨ (a = x ∧ 1 < d)))) → us ((a : Int), (b : Int) + 1) = true → J (n * b + a) (n * (b + 1) + a))
def UcI (us : Cel → Bool) (n : Nat) (up : Nat → Nat) (y x d : Nat) : Prop :=
  ∃ J, UfI (fun a b => Rch sidesL us (celK n a) (celK n b)) (fun a => us (celK n a) = true) J up ∧ CjD us n J y x d
section
variable {us : Cel → Bool} {n h : Nat} {up : Nat → Nat} {y x d : Nat}
theorem UcI.start (us : Cel → Bool) (n : Nat) : UcI us n (fun i => i) 0 0 0 := ⟨_, UfI.start fun _ _ => .refl, fun a b _ => ⟨fun hh => by omega, fun hh => by omega⟩⟩
theorem UcI.le (k : UcI us n up y x d) : ∀ i, up i ≤ i := by obtain ⟨J, h, _⟩ := k; exact h.le
theorem UcI.cell (k : UcI us n up y x 2) : UcI us n up y (x + 1) 0 := by
  obtain ⟨J, h1, h2⟩ := k
  exact ⟨J, h1, fun a b hu => ⟨fun hh => (h2 a b hu).1 (by omega), fun hh => (h2 a b hu).2 (by omega)⟩⟩
theorem UcI.row (hg : ∀ c, us c = true → 0 ≤ c.1 ∧ c.1 < n ∧ 0 ≤ c.2 ∧ c.2 < h) (k : UcI us n up y n 0) : UcI us n up (y + 1) 0 0 := by
  obtain ⟨J, h1, h2⟩ := k
  refine ⟨J, h1, fun a b hu => ?_⟩
  have := hg _ hu
  dsimp only at this
  exact ⟨fun hh => (h2 a b hu).1 (by omega), fun hh => (h2 a b hu).2 (by omega)⟩
theorem UcI.skip0 (k : UcI us n up y x 0) (hn : ¬ (us ((x : Int), (y : Int)) = true ∧ us ((x : Int) + 1, (y : Int)) = true)) : UcI us n up y x 1 := by
  obtain ⟨J, h1, h2⟩ := k
  refine ⟨J, h1, fun a b hu => ⟨fun hh hu2 => ?_, fun hh => (h2 a b hu).2 (by omega)⟩⟩
  by_cases e : b = y ∧ a = x
  · obtain ⟨rfl, rfl⟩ := e; exact absurd ⟨hu, hu2⟩ hn
  · exact (h2 a b hu).1 (by omega) hu2
theorem UcI.skip1 (k : UcI us n up y x 1) (hn : ¬ (us ((x : Int), (y : Int)) = true ∧ us ((x : Int), (y : Int) + 1) = true)) : UcI us n up y x 2 := by
  obtain ⟨J, h1, h2⟩ := k
  refine ⟨J, h1, fun a b hu => ⟨fun hh => (h2 a b hu).1 (by omega), fun hh hu2 => ?_⟩⟩
  by_cases e : b = y ∧ a = x
  · obtain ⟨rfl, rfl⟩ := e; exact absurd ⟨hu, hu2⟩ hn
  · exact (h2 a b hu).2 (by omega) hu2
variable (hg : ∀ c, us c = true → 0 ≤ c.1 ∧ c.1 < n ∧ 0 ≤ c.2 ∧ c.2 < h)
include hg
theorem UcI.join0 (k : UcI us n up y x 0) (hu : us ((x : Int), (y : Int)) = true) (hv : us ((x : Int) + 1, (y : Int)) = true) :
    UcI us n (updN up (max (rtU up (n * y + x)) (rtU up (n * y + x + 1))) (min (rtU up (n * y + x)) (rtU up (n * y + x + 1)))) y x 1 := by
  obtain ⟨J, h1, h2⟩ := k
  have g1 := hg _ hu
  have g2 := hg _ hv
  dsimp only at g1 g2
  have e1 : celK n (n * y + x) = ((x : Int), (y : Int)) := celK_at (by omega)
  have e2 : celK n (n * y + x + 1) = ((x : Int) + 1, (y : Int)) := (celK_at (x := x + 1) (by omega)).trans (by push_cast; rfl)
  refine ⟨_, h1.add (fun a b ha hab => hab.symm sides_symm ha) (fun a b c hab hbc => hab.trans hbc) (a := n * y + x) (b := n * y + x + 1) ?_ ?_ ?_, fun a b hua => ⟨fun hh hu2 => ?_, fun hh hu2 => .inl ((h2 a b hua).2 (by omega) hu2)⟩⟩
  · rw [e1]; exact hu
  · rw [e2]; exact hv
  · rw [e1, e2]; exact .step .refl (by simp [sidesL]) hv
  · by_cases e : b = y ∧ a = x
    · obtain ⟨rfl, rfl⟩ := e; exact .inr ⟨rfl, rfl⟩
    · exact .inl ((h2 a b hua).1 (by omega) hu2)
theorem UcI.join1 (k : UcI us n up y x 1) (hu : us ((x : Int), (y : Int)) = true) (hv : us ((x : Int), (y : Int) + 1) = true) :
    UcI us n (updN up (max (rtU up (n * y + x)) (rtU up (n * (y + 1) + x))) (min (rtU up (n * y + x)) (rtU up (n * (y + 1) + x)))) y x 2 := by
  obtain ⟨J, h1, h2⟩ := k
  have g1 := hg _ hu
  have g2 := hg _ hv
  dsimp only at g1 g2
  have e1 : celK n (n * y + x) = ((x : Int), (y : Int)) := celK_at (by omega)
  have e2 : celK n (n * (y + 1) + x) = ((x : Int), (y : Int) + 1) := (celK_at (by omega)).trans (by push_cast; rfl)
  refine ⟨_, h1.add (fun a b ha hab => hab.symm sides_symm ha) (fun a b c hab hbc => hab.trans hbc) (a := n * y + x) (b := n * (y + 1) + x) ?_ ?_ ?_, fun a b hua => ⟨fun hh hu2 => .inl ((h2 a b hua).1 (by omega) hu2), fun hh hu2 => ?_⟩⟩
  · rw [e1]; exact hu
  · rw [e2]; exact hv
  · rw [e1, e2]; exact .step .refl (by simp [sidesL]) hv
  · by_cases e : b = y ∧ a = x
    · obtain ⟨rfl, rfl⟩ := e; exact .inr ⟨rfl, rfl⟩
    · exact .inl ((h2 a b hua).2 (by omega) hu2)
theorem UcI.ok (k : UcI us n up h 0 0) : RtOk us (boxCells ⟨0, 0, (n : Int) - 1, (h : Int) - 1⟩) (fun c => celK n (rtU up (idxC n c))) := by
  obtain ⟨J, h1, h2⟩ := k
  refine rt_ok hg h1 fun a b hu => ?_
  have := hg _ hu
  dsimp only at this
  exact ⟨(h2 a b hu).1 (by omega), (h2 a b hu).2 (by omega)⟩
end
/-- the class of the k-th cell -/
def clsK (us : Cel → Bool) (n : Nat) (up : Nat → Nat) (k : Nat) : Int := if us (celK n k) then (rtU up k : Int) else -1
end Go.Proofs.YtmgofdgbenfjmaaDoor
