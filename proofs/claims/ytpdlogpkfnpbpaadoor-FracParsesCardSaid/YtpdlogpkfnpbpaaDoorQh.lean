/- Walks of the reference's Frac, answer, Of on rationals. Conditions: the parts lie in memory as naturals of at most 4,000 digits. -/
import Derived.Test.YtpdlogpkfnpbpaaDoorQg
namespace Go.Proofs.YtpdlogpkfnpbpaaDoor
open Go.RowKit

/-- a fraction's value -/
def frv (n d : Int) : Value := .agg #[.int .i64 n, .int .i64 d]
/-- the parts are within the limits -/
def InQ (q : Rat) : Prop := q.num.natAbs ≤ 1000000000 ∧ q.den ≤ 1000000000

set_option maxHeartbeats 1000000 in
theorem rfrac_yes (v : Value) (q : Rat) (w : World) (hq : QAt w v q) (h : InQ q) :
    Calls Tryd.prog 24 #[v] w fun e w' => e = .returned (.tuple #[frv q.num q.den, .bool true]) ∧ Below w.heap.size w w' := by
  obtain ⟨s, A, n, c, A', n', c', rfl⟩ := q_form hq
  obtain ⟨hs, hn, hd⟩ := q_parts hq
  obtain ⟨h1, h2⟩ := h
  have hx0 : ∀ x y, Below w.heap.size w ((w.alloc x).alloc y) := fun x y => ((Below.refl _ _).alloc (Nat.le_refl _) _).alloc (by simp) _
  have HX0 := Lib.hid hx0
  have HN := Lib.hid hn
  have HD := Lib.hid hd
  clear hx0 hn hd hq
  unfold frv
  by_cases hneg : q.num < 0
  · rw [decide_eq_true hneg] at hs
    subst hs
    have E := Lib.hid (show (q.num.natAbs : Int) = -q.num by omega)
    have H3 := Lib.hid (show q.num ≥ -1000000000 by omega)
    clear h1
    have H1 := Lib.hid (show q.num.natAbs ≤ 4611686018427387904 by have := H3.out; omega)
    go_enter Tryd.func24, Tryd.ntmps24
    go_wp2_with (first
      | (go_at_call_of 43 (Value.slice A n c); refine (small_yes _ _ _ (HN.out.ext (HX0.out _ _)) H1.out).mono ?_; rintro e w1 ⟨rfl, rfl⟩; rw [E.out]; have h3 := H3.out)
      | (go_at_call_of 43 (Value.slice A' n' c'); refine (small_yes _ _ _ (HD.out.ext (HX0.out _ _)) (by omega)).mono ?_; rintro e w2 ⟨rfl, rfl⟩))
    go_returns
    exact ⟨by simp, HX0.out _ _⟩
  · rw [decide_eq_false hneg] at hs
    subst hs
    have E := Lib.hid (show (q.num.natAbs : Int) = q.num by omega)
    have H3 := Lib.hid (show q.num ≤ 1000000000 by omega)
    clear h1
    have H1 := Lib.hid (show q.num.natAbs ≤ 4611686018427387904 by have := H3.out; omega)
    go_enter Tryd.func24, Tryd.ntmps24
    go_wp2_with (first
      | (go_at_call_of 43 (Value.slice A n c); refine (small_yes _ _ _ (HN.out.ext (HX0.out _ _)) H1.out).mono ?_; rintro e w1 ⟨rfl, rfl⟩; rw [E.out]; have h3 := H3.out)
      | (go_at_call_of 43 (Value.slice A' n' c'); refine (small_yes _ _ _ (HD.out.ext (HX0.out _ _)) (by omega)).mono ?_; rintro e w2 ⟨rfl, rfl⟩))
    go_returns
    exact ⟨rfl, HX0.out _ _⟩

set_option maxHeartbeats 1000000 in
theorem rfrac_no (v : Value) (q : Rat) (w : World) (hq : QAt w v q) (h : ¬ InQ q) :
    Calls Tryd.prog 24 #[v] w fun e w' => e = .returned (.tuple #[frv 0 0, .bool false]) ∧ Below w.heap.size w w' := by
  have ho := hq
  obtain ⟨s, A, n, c, A', n', c', rfl⟩ := q_form hq
  obtain ⟨hs, hn, hd⟩ := q_parts hq
  have hx0 : ∀ x y, Below w.heap.size w ((w.alloc x).alloc y) := fun x y => ((Below.refl _ _).alloc (Nat.le_refl _) _).alloc (by simp) _
  have HX0 := Lib.hid hx0
  have HN := Lib.hid hn
  have HD := Lib.hid hd
  have H := Lib.hid h
  clear hx0 hn hd hq ho hs h
  unfold frv
  by_cases h1 : q.num.natAbs ≤ 4611686018427387904
  · by_cases h2 : q.den ≤ 4611686018427387904
    · by_cases h3 : q.num.natAbs ≤ 1000000000
      · have h4 : ¬ q.den ≤ 1000000000 := fun h4 => H.out ⟨h3, h4⟩
        obtain ⟨k, hk⟩ : ∃ k, k = q.num.natAbs := ⟨_, rfl⟩
        rw [← hk] at h1 h3 HN
        clear hk
        go_enter Tryd.func24, Tryd.ntmps24
        go_wp2_with (first
          | (go_at_call_of 43 (Value.slice A n c); refine (small_yes _ _ _ (HN.out.ext (HX0.out _ _)) h1).mono ?_; rintro e w1 ⟨rfl, rfl⟩)
          | (go_at_call_of 43 (Value.slice A' n' c'); refine (small_yes _ _ _ (HD.out.ext (HX0.out _ _)) h2).mono ?_; rintro e w2 ⟨rfl, rfl⟩))
        go_returns
        exact ⟨rfl, HX0.out _ _⟩
      · obtain ⟨k, hk⟩ : ∃ k, k = q.num.natAbs := ⟨_, rfl⟩
        rw [← hk] at h1 h3 HN
        clear hk
        go_enter Tryd.func24, Tryd.ntmps24
        go_wp2_with (first
          | (go_at_call_of 43 (Value.slice A n c); refine (small_yes _ _ _ (HN.out.ext (HX0.out _ _)) h1).mono ?_; rintro e w1 ⟨rfl, rfl⟩)
          | (go_at_call_of 43 (Value.slice A' n' c'); refine (small_yes _ _ _ (HD.out.ext (HX0.out _ _)) h2).mono ?_; rintro e w2 ⟨rfl, rfl⟩))
        go_returns
        exact ⟨rfl, HX0.out _ _⟩
    · obtain ⟨k, hk⟩ : ∃ k, k = q.num.natAbs := ⟨_, rfl⟩
      rw [← hk] at h1 HN
      clear hk
      have H2 := Lib.hid h2
      clear h2
      go_enter Tryd.func24, Tryd.ntmps24
      go_wp2_with (first
        | (go_at_call_of 43 (Value.slice A n c); refine (small_yes _ _ _ (HN.out.ext (HX0.out _ _)) h1).mono ?_; rintro e w1 ⟨rfl, rfl⟩)
        | (go_at_call_of 43 (Value.slice A' n' c'); refine (small_no _ _ _ (HD.out.ext (HX0.out _ _)) H2.out).mono ?_; rintro e w2 ⟨rfl, rfl⟩))
      go_returns
      exact ⟨rfl, HX0.out _ _⟩
  · have H1 := Lib.hid h1
    clear h1
    go_enter Tryd.func24, Tryd.ntmps24
    go_wp2_with (first
      | (go_at_call_of 43 (Value.slice A n c); refine (small_no _ _ _ (HN.out.ext (HX0.out _ _)) H1.out).mono ?_; rintro e w1 ⟨rfl, rfl⟩)
      | (go_at_call_of 43 (Value.slice A' n' c'); refine (small_any _ _ _ (HD.out.ext (HX0.out _ _))).mono ?_; rintro e w2 ⟨⟨x, b, rfl⟩, rfl⟩))
    go_returns
    exact ⟨rfl, HX0.out _ _⟩
end Go.Proofs.YtpdlogpkfnpbpaaDoor
