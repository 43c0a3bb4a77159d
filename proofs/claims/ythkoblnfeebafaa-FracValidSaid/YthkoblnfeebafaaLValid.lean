/- FracValid walked: the law returns true for every fraction value, and turns nothing that was there. No conditions but that the parts are within int. -/
import Derived.Test.YthkoblnfeebafaaFg
namespace Go.Proofs.Ythkoblnfeebafaa
open Go.RowKit

set_option maxRecDepth 100000 in
set_option maxHeartbeats 2000000 in
theorem law_valid (n d : Int) (w : World) (hn : IsI n) (hd : IsI d) : Calls Try.prog 3 #[frv n d] w fun e w' => e = .returned (.bool true) ∧ Below w.heap.size w w' := by
  have h1 := fun W => valid_any n d W hn hd
  have h2 := fun W => rvalid_any n d W hn hd
  clear hn hd
  obtain ⟨W0, hW0⟩ : ∃ W0, W0 = w.alloc (.cells #[.int .i64 n, .int .i64 d] 23) := ⟨_, rfl⟩
  have hw0 : Below w.heap.size w W0 := by rw [hW0]; exact (Below.refl _ _).alloc (Nat.le_refl _) _
  have hS : ∀ w', Below W0.heap.size W0 w' → (Below W0.heap.size W0 w' ∧ w'.cell? ⟨w.heap.size, 0, none⟩ = some (.int .i64 n) ∧ w'.cell? ⟨w.heap.size, 1, none⟩ = some (.int .i64 d)) := by
    intro w' h
    obtain ⟨b1, b2⟩ := bcell h
    refine ⟨h, ?_, ?_⟩ <;> (rw [b1 _ _ (by rw [hW0]; simp), hW0]; simp [go_sem])
  have HSS := Lib.hid hS
  have HW0 := Lib.hid hW0
  clear hS
  unfold frv at h1 h2 ⊢
  cases hv : vldB n d
  all_goals
    rw [hv] at h1 h2
    have H1 := Lib.hid h1
    have H2 := Lib.hid h2
    clear h1 h2 hv
    go_enter Try.func3, Try.ntmps3
    go_wp2
    rw [← HW0.out]
    clear hW0
    go_region_held3 (fun w' => Below W0.heap.size W0 w' ∧ w'.cell? ⟨w.heap.size, 0, none⟩ = some (.int .i64 n) ∧ w'.cell? ⟨w.heap.size, 1, none⟩ = some (.int .i64 d))
      (first | exact HSS.out _ (ext_trans (And.left (by assumption)) (by assumption)) | exact HSS.out _ (ext_drew _))
      (first
        | (go_at_call 20; refine (H1.out _).mono ?_; rintro e w1 ⟨rfl, hx1⟩)
        | (go_at_call 21; refine (H2.out _).mono ?_; rintro e w1 ⟨rfl, hx2⟩)
        | (go_at_call 22; refine (awake_any _).mono ?_; rintro e w1 ⟨rfl, hx3⟩))
    all_goals
      go_wp2
      go_ret
      exact ⟨rfl, ext_trans hw0 (And.left (by assumption))⟩
end Go.Proofs.Ythkoblnfeebafaa
