/- FracTerms walked. No conditions but that the parts are within int. -/
import Derived.Test.YthkoblnfeebafaaJc
import Derived.Test.YthkoblnfeebafaaJd
namespace Go.Proofs.Ythkoblnfeebafaa
open Go.RowKit

set_option maxRecDepth 100000 in
set_option maxHeartbeats 4000000 in
theorem law_terms (n D : Int) (w : World) (hn : IsI n) (hD : IsI D) :
    Calls Try.prog 16 #[frv n D] w fun e w' => e = .returned (.bool true) ∧ Below w.heap.size w w' := by
  have h1 := fun W => terms_any n D W hn hD
  have h2 := fun W => rterms_any n D W hn hD
  have hx0 : ∀ x, Below w.heap.size w (w.alloc x) := fun x => (Below.refl _ _).alloc (Nat.le_refl _) _
  have HX0 := Lib.hid hx0
  have sz0 : ∀ x : Obj, (w.alloc x).heap.size = w.heap.size + 1 := by intro x; simp
  have SZ0 := Lib.hid sz0
  by_cases hv : Vld n D
  · have g1 : ∀ W, Calls Try.prog 65 #[frv n D] W fun e w' => ∃ (A : Option Addr) (cap : Nat) (l : List Int), e = .returned (.tuple #[.slice A l.length cap, .int .i64 0]) ∧ l.length ≤ maxLen ∧ ISl w' A l ∧ Cf.fr n D l ∧ Below W.heap.size W w' := fun W =>
      (h1 W).mono fun e w' ⟨A, cap, l, er, he, l1, l2, l3, h, hb⟩ => by
        rcases h with ⟨h, _⟩ | ⟨_, h, rfl⟩
        · exact absurd hv h
        · exact ⟨A, cap, l, he, by omega, l3, h, hb⟩
    have g2 : ∀ W, Calls Try.prog 66 #[frv n D] W fun e w' => ∃ (A : Option Addr) (cap : Nat) (l : List Int), e = .returned (.tuple #[.slice A l.length cap, .int .i64 0]) ∧ ISl w' A l ∧ Cf.fr n D l ∧ Below W.heap.size W w' := fun W =>
      (h2 W).mono fun e w' ⟨A, cap, l, er, he, l1, l2, l3, h, hb⟩ => by
        rcases h with ⟨h, _⟩ | ⟨_, h, rfl⟩
        · exact absurd hv h
        · exact ⟨A, cap, l, he, l3, h, hb⟩
    have h3 := fun A cap l W (h0 : l.length ≤ maxLen) (h : ISl W A l) (hf : Cf.fr n D l) => (show Calls Try.prog 30 #[.slice A l.length cap] W (RetA W (n, D, 0)) from by
      have h5 := fromterms_any A cap l W (by unfold maxLen at h0; omega) h (fun x hx => by
        have := Cf.fr_bd l n D 1000000000 hv.1 hv.2.1 hv.2.2.1 hv.2.2.2.1 hf x hx
        exact ⟨by omega, by omega⟩)
      rwa [fr_ft hv hf] at h5)
    have h4 := fun A B c c' l W (h0 : l.length ≤ maxLen) (h : ISl W A l) (h' : ISl W B l) => equal_same A B c c' l W (by unfold maxLen at h0; omega) h h'
    unfold RetA frv at *
    have H1 := Lib.hid g1
    have H2 := Lib.hid g2
    have H3 := Lib.hid h3
    have H4 := Lib.hid h4
    clear hx0 h1 h2 g1 g2 h3 h4 hn hD sz0 hv
    go_enter Try.func16, Try.ntmps16
    go_wp2_with (first
      | (go_at_call 65; refine (H1.out _).mono ?_; rintro r w1 ⟨A, cap, l, rfl, hlm, hil, hfr, hx1⟩; have HFR := Lib.hid hfr; have HLM := Lib.hid hlm; clear hfr hlm; have B1 := bext (HX0.out _) hx1 (by rw [SZ0.out]; omega); have F1 := (Ce.new w _ _).ext hx1; obtain ⟨f1, f2, f3⟩ := F1.facts)
      | (go_at_call 66; refine (H2.out _).mono ?_; rintro r w2 ⟨B, cap2, l2, rfl, him, hfr2, hx2⟩; obtain rfl := Cf.fr_same _ _ _ _ HFR.out hfr2; clear hfr2; have B2 := bext B1 hx2 B1.size; have F2 := F1.ext hx2; have I2 := hil.ext hx2)
      | (go_at_call 67; refine (H4.out _ _ _ _ _ _ HLM.out I2 him).mono ?_; rintro r w3 ⟨rfl, hx3⟩; have B3 := bext B2 hx3 B2.size; have F3 := F2.ext hx3; have I3 := I2.ext hx3)
      | (go_at_call 22; refine (awake_any _).mono ?_; rintro r w4 ⟨rfl, hx4⟩; have B4 := bext B3 hx4 B3.size; have F4 := F3.ext hx4; have I4 := I3.ext hx4)
      | (go_at_call 30; refine (H3.out _ _ _ _ HLM.out I4 HFR.out).mono ?_; rintro r w5 ⟨rfl, hx5⟩; have B5 := bext B4 hx5 B4.size; have F5 := F4.ext hx5; obtain ⟨f1, f2, f3⟩ := F5.facts))
    go_ret
    exact ⟨rfl, B5.alloc B5.size _⟩
  · have g1 : ∀ W, Calls Try.prog 65 #[frv n D] W fun e w' => ∃ (A : Option Addr) (cap : Nat), e = .returned (.tuple #[.slice A 0 cap, .int .i64 2]) ∧ Below W.heap.size W w' := fun W =>
      (h1 W).mono fun e w' ⟨A, cap, l, er, he, l1, l2, l3, h, hb⟩ => by
        rcases h with ⟨_, rfl, rfl⟩ | ⟨h, _⟩
        · exact ⟨A, cap, he, hb⟩
        · exact absurd h hv
    have g2 : ∀ W, Calls Try.prog 66 #[frv n D] W fun e w' => ∃ (A : Option Addr) (cap : Nat), e = .returned (.tuple #[.slice A 0 cap, .int .i64 2]) ∧ Below W.heap.size W w' := fun W =>
      (h2 W).mono fun e w' ⟨A, cap, l, er, he, l1, l2, l3, h, hb⟩ => by
        rcases h with ⟨_, rfl, rfl⟩ | ⟨h, _⟩
        · exact ⟨A, cap, he, hb⟩
        · exact absurd h hv
    have h3 : ∀ A cap W, Calls Try.prog 30 #[.slice A 0 cap] W (RetA W (ftA [])) := fun A cap W => fromterms_any A cap [] W (by simp) (.inl rfl) (by simp)
    have h4 : ∀ A B c c' W, Calls Try.prog 67 #[.slice A 0 c, .slice B 0 c'] W fun e w' => e = .returned (.bool true) ∧ Below W.heap.size W w' := fun A B c c' W => equal_same A B c c' [] W (by simp) (.inl rfl) (.inl rfl)
    generalize ftA [] = x at *
    unfold RetA frv at *
    have H1 := Lib.hid g1
    have H2 := Lib.hid g2
    have H3 := Lib.hid h3
    have H4 := Lib.hid h4
    clear hx0 h1 h2 g1 g2 h3 h4 hn hD sz0 hv
    go_enter Try.func16, Try.ntmps16
    go_wp2_with (first
      | (go_at_call 65; refine (H1.out _).mono ?_; rintro r w1 ⟨A, cap, rfl, hx1⟩; have B1 := bext (HX0.out _) hx1 (by rw [SZ0.out]; omega); have F1 := (Ce.new w _ _).ext hx1; obtain ⟨f1, f2, f3⟩ := F1.facts)
      | (go_at_call 66; refine (H2.out _).mono ?_; rintro r w2 ⟨B, cap2, rfl, hx2⟩; have B2 := bext B1 hx2 B1.size)
      | (go_at_call 67; refine (H4.out _ _ _ _ _).mono ?_; rintro r w3 ⟨rfl, hx3⟩; have B3 := bext B2 hx3 B2.size)
      | (go_at_call 22; refine (awake_any _).mono ?_; rintro r w4 ⟨rfl, hx4⟩; have B4 := bext B3 hx4 B3.size)
      | (go_at_call 30; refine (H3.out _ _ _).mono ?_; rintro r w5 ⟨rfl, hx5⟩; have B5 := bext B4 hx5 B4.size))
    go_ret
    exact ⟨rfl, B5.alloc B5.size _⟩
end Go.Proofs.Ythkoblnfeebafaa
