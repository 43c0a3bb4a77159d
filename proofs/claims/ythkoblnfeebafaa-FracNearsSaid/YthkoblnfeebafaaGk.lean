/- Walks of frac's Below, Above; the law's under. Conditions: the arguments are within their kinds. -/
import Derived.Test.YthkoblnfeebafaaGh
import Derived.Test.YthkoblnfeebafaaGd
namespace Go.Proofs.Ythkoblnfeebafaa
open Go.RowKit

/-- Below's and Above's answer -/
def NOk (n D d : Int) : Prop := Vld n D ∧ 1 ≤ d ∧ d ≤ 1000000000
def LoA (n D d : Int) (x : Int × Int × Int) : Prop := (¬ NOk n D d ∧ x = (0, 0, 2)) ∨ (NOk n D d ∧ ∃ a b c e, Around n D d a b c e ∧ x = (a, b, 0))
def HiA (n D d : Int) (x : Int × Int × Int) : Prop := (¬ NOk n D d ∧ x = (0, 0, 2)) ∨ (NOk n D d ∧ ∃ a b c e, Around n D d a b c e ∧ x = (c, e, 0))

/-- the result's block and the two ends' blocks, behind the call -/
theorem near_cells {w w2 : World} {n D : Value} (x y u v : Value) (E : Below ((w.alloc (.cells #[n, D] 23)).alloc (.cells #[.int .i64 0, .int .i64 0] 23)).heap.size ((w.alloc (.cells #[n, D] 23)).alloc (.cells #[.int .i64 0, .int .i64 0] 23)) w2) :
    Ce 23 ((w2.alloc (.cells #[x, y] 23)).alloc (.cells #[u, v] 23)) (w.heap.size + 1) (.int .i64 0) (.int .i64 0) ∧ Ce 23 ((w2.alloc (.cells #[x, y] 23)).alloc (.cells #[u, v] 23)) w2.heap.size x y ∧
      Ce 23 ((w2.alloc (.cells #[x, y] 23)).alloc (.cells #[u, v] 23)) (w2.heap.size + 1) u v ∧ Below w.heap.size w ((w2.alloc (.cells #[x, y] 23)).alloc (.cells #[u, v] 23)) := by
  have p1 := (Ce.new (T := 23) (w.alloc (.cells #[n, D] 23)) (.int .i64 0) (.int .i64 0)).ext E
  rw [show (w.alloc (.cells #[n, D] 23)).heap.size = w.heap.size + 1 by simp] at p1
  have p3 := Ce.new (T := 23) (w2.alloc (.cells #[x, y] 23)) u v
  rw [show (w2.alloc (.cells #[x, y] 23)).heap.size = w2.heap.size + 1 by simp] at p3
  exact ⟨(p1.alloc _).alloc _, (Ce.new w2 x y).alloc _, p3, ext_trans (ext_trans (ext_trans (((Below.refl _ _).alloc (Nat.le_refl _) _).alloc (by simp) _) E) ((Below.refl _ _).alloc (Nat.le_refl _) _)) ((Below.refl _ _).alloc (Nat.le_refl _) _)⟩

set_option maxRecDepth 100000 in
set_option maxHeartbeats 1000000 in
theorem below_any (n D d : Int) (w : World) (hn : IsI n) (hD : IsI D) (_hd : IsI d) :
    Calls Try.prog 41 #[frv n D, .int .i64 d] w fun e w' => ∃ x, LoA n D d x ∧ RetA w x e w' := by
  have hv' := fun W => valid_any n D W hn hD
  cases hv : vldB n D
  · rw [hv] at hv'
    have HV := Lib.hid hv'
    have hbad : ¬ NOk n D d := fun h => by
      have := vldB_yes h.1
      rw [hv] at this; exact absurd this (by decide)
    have HB := Lib.hid hbad
    unfold frv at *
    clear hv hv' hn hD hbad
    go_enter Try.func41, Try.ntmps41
    go_wp2_with (go_at_call 20; refine (HV.out _).mono ?_; rintro e w1 ⟨rfl, hx1⟩; obtain ⟨k1, k2, k3, k4, k5⟩ := two_cells hx1)
    refine bodyPost_ret (v := .tuple #[.agg #[.int .i64 0, .int .i64 0], .int .i64 2]) (by simp [results, Try.results41, go_sem, k2]) rfl ?_
    exact ⟨_, .inl ⟨HB.out, rfl⟩, rfl, below2 (ext_trans (((Below.refl _ _).alloc (Nat.le_refl _) _).alloc (by simp) _) hx1) (by omega) _ _⟩
  · rw [hv] at hv'
    have HV := Lib.hid hv'
    obtain ⟨a1, a2, a3, a4, a5⟩ := of_decide_eq_true hv
    by_cases hd2 : d < 1 ∨ 1000000000 < d
    · have hbad : ¬ NOk n D d := fun h => by have := h.2; omega
      have HB := Lib.hid hbad
      unfold frv at *
      clear hv hv' hn hD hbad a1 a2 a3 a4 a5
      have hd3 : d < 1 ∨ (1 ≤ d ∧ 1000000000 < d) := by omega
      clear hd2
      rcases hd3 with h | ⟨h, h'⟩
      all_goals
        go_enter Try.func41, Try.ntmps41
        go_wp2_with (go_at_call 20; refine (HV.out _).mono ?_; rintro e w1 ⟨rfl, hx1⟩; obtain ⟨k1, k2, k3, k4, k5⟩ := two_cells hx1)
        refine bodyPost_ret (v := .tuple #[.agg #[.int .i64 0, .int .i64 0], .int .i64 2]) (by simp [results, Try.results41, go_sem, k2]) rfl ?_
        exact ⟨_, .inl ⟨HB.out, rfl⟩, rfl, below2 (ext_trans (((Below.refl _ _).alloc (Nat.le_refl _) _).alloc (by simp) _) hx1) (by omega) _ _⟩
    · have d1 : 1 ≤ d := by omega
      have d2 : d ≤ 1000000000 := by omega
      have HOK := Lib.hid (show NOk n D d from ⟨⟨a1, a2, a3, a4, a5⟩, d1, d2⟩)
      have hnb := fun W => neighbours_any n D d W a3 a4 a1 a2 d1 d2 a5
      have HN := Lib.hid hnb
      unfold frv at *
      clear hv hv' hn hD hd2 a1 a2 a3 a4 a5 hnb
      go_enter Try.func41, Try.ntmps41
      go_upto_region 4 with (first
        | (go_at_call 20; refine (HV.out _).mono ?_; rintro e w1 ⟨rfl, hx1⟩; obtain ⟨k1, k2, k3, k4, k5⟩ := two_cells hx1)
        | (go_at_call 90; refine (HN.out _).mono ?_; unfold RetN frv; rintro e w2 ⟨a, b, c, e2, rfl, har, hx2⟩; have E2 := ext_trans hx1 hx2; obtain ⟨k1, k2, k3, k4, k5⟩ := two_cells E2))
      obtain ⟨R3, L3, H3, B3⟩ := near_cells (.int .i64 a) (.int .i64 b) (.int .i64 c) (.int .i64 e2) E2
      generalize (w2.alloc (.cells #[.int .i64 a, .int .i64 b] 23)).alloc (.cells #[.int .i64 c, .int .i64 e2] 23) = wl at *
      generalize w2.heap.size = g2 at *
      clear k1 k2 k3 k4 k5 hx1 hx2 E2
      obtain ⟨r1, r2, r3⟩ := R3.facts
      obtain ⟨l1, l2, l3⟩ := L3.facts
      obtain ⟨h1, h2, h3⟩ := H3.facts
      go_wp2
      refine bodyPost_ret (v := .tuple #[.agg #[.int .i64 a, .int .i64 b], .int .i64 0]) (by simp [results, Try.results41, go_sem, r1]) rfl ?_
      exact ⟨_, .inr ⟨HOK.out, a, b, c, e2, har, rfl⟩, rfl, below2 B3 (by omega) _ _⟩

set_option maxRecDepth 100000 in
set_option maxHeartbeats 1000000 in
theorem above_any (n D d : Int) (w : World) (hn : IsI n) (hD : IsI D) (_hd : IsI d) :
    Calls Try.prog 42 #[frv n D, .int .i64 d] w fun e w' => ∃ x, HiA n D d x ∧ RetA w x e w' := by
  have hv' := fun W => valid_any n D W hn hD
  cases hv : vldB n D
  · rw [hv] at hv'
    have HV := Lib.hid hv'
    have hbad : ¬ NOk n D d := fun h => by
      have := vldB_yes h.1
      rw [hv] at this; exact absurd this (by decide)
    have HB := Lib.hid hbad
    unfold frv at *
    clear hv hv' hn hD hbad
    go_enter Try.func42, Try.ntmps42
    go_wp2_with (go_at_call 20; refine (HV.out _).mono ?_; rintro e w1 ⟨rfl, hx1⟩; obtain ⟨k1, k2, k3, k4, k5⟩ := two_cells hx1)
    refine bodyPost_ret (v := .tuple #[.agg #[.int .i64 0, .int .i64 0], .int .i64 2]) (by simp [results, Try.results42, go_sem, k2]) rfl ?_
    exact ⟨_, .inl ⟨HB.out, rfl⟩, rfl, below2 (ext_trans (((Below.refl _ _).alloc (Nat.le_refl _) _).alloc (by simp) _) hx1) (by omega) _ _⟩
  · rw [hv] at hv'
    have HV := Lib.hid hv'
    obtain ⟨a1, a2, a3, a4, a5⟩ := of_decide_eq_true hv
    by_cases hd2 : d < 1 ∨ 1000000000 < d
    · have hbad : ¬ NOk n D d := fun h => by have := h.2; omega
      have HB := Lib.hid hbad
      unfold frv at *
      clear hv hv' hn hD hbad a1 a2 a3 a4 a5
      have hd3 : d < 1 ∨ (1 ≤ d ∧ 1000000000 < d) := by omega
      clear hd2
      rcases hd3 with h | ⟨h, h'⟩
      all_goals
        go_enter Try.func42, Try.ntmps42
        go_wp2_with (go_at_call 20; refine (HV.out _).mono ?_; rintro e w1 ⟨rfl, hx1⟩; obtain ⟨k1, k2, k3, k4, k5⟩ := two_cells hx1)
        refine bodyPost_ret (v := .tuple #[.agg #[.int .i64 0, .int .i64 0], .int .i64 2]) (by simp [results, Try.results42, go_sem, k2]) rfl ?_
        exact ⟨_, .inl ⟨HB.out, rfl⟩, rfl, below2 (ext_trans (((Below.refl _ _).alloc (Nat.le_refl _) _).alloc (by simp) _) hx1) (by omega) _ _⟩
    · have d1 : 1 ≤ d := by omega
      have d2 : d ≤ 1000000000 := by omega
      have HOK := Lib.hid (show NOk n D d from ⟨⟨a1, a2, a3, a4, a5⟩, d1, d2⟩)
      have hnb := fun W => neighbours_any n D d W a3 a4 a1 a2 d1 d2 a5
      have HN := Lib.hid hnb
      unfold frv at *
      clear hv hv' hn hD hd2 a1 a2 a3 a4 a5 hnb
      go_enter Try.func42, Try.ntmps42
      go_upto_region 4 with (first
        | (go_at_call 20; refine (HV.out _).mono ?_; rintro e w1 ⟨rfl, hx1⟩; obtain ⟨k1, k2, k3, k4, k5⟩ := two_cells hx1)
        | (go_at_call 90; refine (HN.out _).mono ?_; unfold RetN frv; rintro e w2 ⟨a, b, c, e2, rfl, har, hx2⟩; have E2 := ext_trans hx1 hx2; obtain ⟨k1, k2, k3, k4, k5⟩ := two_cells E2))
      obtain ⟨R3, L3, H3, B3⟩ := near_cells (.int .i64 a) (.int .i64 b) (.int .i64 c) (.int .i64 e2) E2
      generalize (w2.alloc (.cells #[.int .i64 a, .int .i64 b] 23)).alloc (.cells #[.int .i64 c, .int .i64 e2] 23) = wl at *
      generalize w2.heap.size = g2 at *
      clear k1 k2 k3 k4 k5 hx1 hx2 E2
      obtain ⟨r1, r2, r3⟩ := R3.facts
      obtain ⟨l1, l2, l3⟩ := L3.facts
      obtain ⟨h1, h2, h3⟩ := H3.facts
      go_wp2
      refine bodyPost_ret (v := .tuple #[.agg #[.int .i64 c, .int .i64 e2], .int .i64 0]) (by simp [results, Try.results42, go_sem, r1]) rfl ?_
      exact ⟨_, .inr ⟨HOK.out, a, b, c, e2, har, rfl⟩, rfl, below2 B3 (by omega) _ _⟩

theorem under_any (p q r s : Int) (w : World) (h1 : -1000000000 ≤ p) (h2 : p ≤ 1000000000) (h3 : 1 ≤ q) (h4 : q ≤ 1000000000) (h5 : -1000000000 ≤ r) (h6 : r ≤ 1000000000) (h7 : 1 ≤ s) (h8 : s ≤ 1000000000) :
    Calls Try.prog 43 #[frv p q, frv r s] w fun e w' => e = .returned (.bool (decide (p * s ≤ r * q))) ∧ Below w.heap.size w w' := by
  obtain ⟨m1, m2⟩ := mul_bd h1 h2 h7 h8
  obtain ⟨m3, m4⟩ := mul_bd h5 h6 h3 h4
  unfold frv
  go_enter Try.func43, Try.ntmps43
  go_wp2
  go_ret
  exact ⟨rfl, ((Below.refl _ _).alloc (Nat.le_refl _) _).alloc (by simp) _⟩
theorem around_same {n D d a b c e a' b' c' e' : Int} (h : Around n D d a b c e) (h' : Around n D d a' b' c' e') : a = a' ∧ b = b' ∧ c = c' ∧ e = e' := by
  rcases h with ⟨h0, rfl, rfl, rfl, rfl⟩ | ⟨h0, h1, h2⟩
  · rcases h' with ⟨_, rfl, rfl, rfl, rfl⟩ | ⟨h3, _, _⟩
    · exact ⟨rfl, rfl, rfl, rfl⟩
    · omega
  · rcases h' with ⟨h3, _, _, _, _⟩ | ⟨_, h4, h5⟩
    · omega
    · exact Nb.same h0 h1 h4 h2 h5
end Go.Proofs.Ythkoblnfeebafaa
