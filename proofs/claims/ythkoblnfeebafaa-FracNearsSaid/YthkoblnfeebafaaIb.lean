/- Walk of frac.Near. Conditions: the arguments are within their kinds. -/
import Derived.Test.YthkoblnfeebafaaGk
import Derived.Test.YthkoblnfeebafaaIa
namespace Go.Proofs.Ythkoblnfeebafaa
open Go.RowKit

theorem fless_int (x b y e : Int) (w : World) (x0 : 0 ≤ x) (hx : x ≤ 1000000000) (b0 : 0 ≤ b) (hb : b ≤ 1000000000) (y0 : 0 ≤ y) (hy : y ≤ 1000000000) (e0 : 0 ≤ e) (he : e ≤ 1000000000) :
    Calls Try.prog 99 #[.int .i64 x, .int .i64 b, .int .i64 y, .int .i64 e] w fun r w' => r = .returned (.bool (decide (x * e < y * b))) ∧ w' = w := by
  obtain ⟨x, rfl⟩ := Int.eq_ofNat_of_zero_le x0
  obtain ⟨b, rfl⟩ := Int.eq_ofNat_of_zero_le b0
  obtain ⟨y, rfl⟩ := Int.eq_ofNat_of_zero_le y0
  obtain ⟨e, rfl⟩ := Int.eq_ofNat_of_zero_le e0
  have h := fless_any x b y e w (by omega) (by omega) (by omega) (by omega)
  have h2 : ((x : Int) * (e : Int) < (y : Int) * (b : Int)) ↔ x * e < y * b := by
    rw [← Int.natCast_mul, ← Int.natCast_mul]
    exact Int.ofNat_lt
  rw [show decide ((x : Int) * (e : Int) < (y : Int) * (b : Int)) = decide (x * e < y * b) from decide_eq_decide.2 h2]
  exact h

theorem Around.bounds {n D d a b c e : Int} (hv : Vld n D) (d1 : 1 ≤ d) (d2 : d ≤ 1000000000) (h : Around n D d a b c e) :
    -1000000000 ≤ a ∧ a ≤ 1000000000 ∧ 1 ≤ b ∧ b ≤ 1000000000 ∧ -1000000000 ≤ c ∧ c ≤ 1000000000 ∧ 1 ≤ e ∧ e ≤ 1000000000 ∧ 0 ≤ n * b - a * D ∧ n * b - a * D ≤ 1000000000 ∧ 0 ≤ c * D - n * e ∧ c * D - n * e ≤ 1000000000 := by
  obtain ⟨v1, v2, v3, v4, v5⟩ := hv
  rcases h with ⟨h1, rfl, rfl, rfl, rfl⟩ | ⟨h1, hin, h3⟩
  · refine ⟨v3, v4, v1, v2, v3, v4, v1, v2, ?_, ?_, ?_, ?_⟩ <;> omega
  · obtain ⟨p1, p2⟩ := hin.lo_bd h1 v3 v4
    obtain ⟨p3, p4⟩ := hin.hi_bd h1 v3 v4
    obtain ⟨p5, p6⟩ := hin.x_le
    have q1 := hin.b1
    have q2 := hin.e1
    have q3 := hin.bd
    have q4 := hin.ed
    have q5 := hin.x0
    have q6 := hin.y0
    exact ⟨p1, p2, q1, by omega, p3, p4, q2, by omega, by omega, by omega, by omega, by omega⟩

/-- Near's answer -/
def nrA (n D a b c e : Int) : Int × Int × Int := if (c * D - n * e) * b < (n * b - a * D) * e then (c, e, 0) else (a, b, 0)
def NrA (n D d : Int) (x : Int × Int × Int) : Prop := (¬ NOk n D d ∧ x = (0, 0, 2)) ∨ (NOk n D d ∧ ∃ a b c e, Around n D d a b c e ∧ x = nrA n D a b c e)

set_option maxRecDepth 100000 in
set_option maxHeartbeats 2000000 in
theorem near_any (n D d : Int) (w : World) (hn : IsI n) (hD : IsI D) (_hd : IsI d) :
    Calls Try.prog 68 #[frv n D, .int .i64 d] w fun e w' => ∃ x, NrA n D d x ∧ RetA w x e w' := by
  have hv' := fun W => valid_any n D W hn hD
  cases hv : vldB n D
  · rw [hv] at hv'
    have HV := Lib.hid hv'
    have hbad : ¬ NOk n D d := fun h => by
      have := vldB_yes h.1
      rw [hv] at this; exact absurd this (by decide)
    have HB := Lib.hid hbad
    unfold frv at *
    clear hv hv' hn hD hbad
    go_enter Try.func68, Try.ntmps68
    go_wp2_with (go_at_call 20; refine (HV.out _).mono ?_; rintro e w1 ⟨rfl, hx1⟩; obtain ⟨k1, k2, k3, k4, k5⟩ := two_cells hx1)
    refine bodyPost_ret (v := .tuple #[.agg #[.int .i64 0, .int .i64 0], .int .i64 2]) (by simp [results, Try.results68, go_sem, k2]) rfl ?_
    exact ⟨_, .inl ⟨HB.out, rfl⟩, rfl, below2 (ext_trans (((Below.refl _ _).alloc (Nat.le_refl _) _).alloc (by simp) _) hx1) (by omega) _ _⟩
  · rw [hv] at hv'
    have HV := Lib.hid hv'
    obtain ⟨a1, a2, a3, a4, a5⟩ := of_decide_eq_true hv
    by_cases hd2 : d < 1 ∨ 1000000000 < d
    · have hbad : ¬ NOk n D d := fun h => by have := h.2; omega
      have HB := Lib.hid hbad
      unfold frv at *
      clear hv hv' hn hD hbad a1 a2 a3 a4 a5
      have hd3 : d < 1 ∨ (1 ≤ d ∧ 1000000000 < d) := by omega
      clear hd2
      rcases hd3 with h | ⟨h, h'⟩
      all_goals
        go_enter Try.func68, Try.ntmps68
        go_wp2_with (go_at_call 20; refine (HV.out _).mono ?_; rintro e w1 ⟨rfl, hx1⟩; obtain ⟨k1, k2, k3, k4, k5⟩ := two_cells hx1)
        refine bodyPost_ret (v := .tuple #[.agg #[.int .i64 0, .int .i64 0], .int .i64 2]) (by simp [results, Try.results68, go_sem, k2]) rfl ?_
        exact ⟨_, .inl ⟨HB.out, rfl⟩, rfl, below2 (ext_trans (((Below.refl _ _).alloc (Nat.le_refl _) _).alloc (by simp) _) hx1) (by omega) _ _⟩
    · have d1 : 1 ≤ d := by omega
      have d2 : d ≤ 1000000000 := by omega
      have hvl : Vld n D := ⟨a1, a2, a3, a4, a5⟩
      have HOK := Lib.hid (show NOk n D d from ⟨hvl, d1, d2⟩)
      have hnb := fun W => neighbours_any n D d W a3 a4 a1 a2 d1 d2 a5
      have HN := Lib.hid hnb
      have hoff : ∀ a b c e, Around n D d a b c e → (∀ W, Calls Try.prog 98 #[.agg #[.int .i64 a, .int .i64 b, .int .i64 c, .int .i64 e], frv n D] W fun x w' => x = .returned (.tuple #[.int .i64 (n * b - a * D), .int .i64 (c * D - n * e)]) ∧ Below W.heap.size W w') ∧
          (∀ W, Calls Try.prog 99 #[.int .i64 (c * D - n * e), .int .i64 e, .int .i64 (n * b - a * D), .int .i64 b] W fun r w' => r = .returned (.bool (decide ((c * D - n * e) * b < (n * b - a * D) * e))) ∧ w' = W) := by
        intro a b c e har
        obtain ⟨p1, p2, p3, p4, p5, p6, p7, p8, p9, p10, p11, p12⟩ := har.bounds hvl d1 d2
        have m1 := mul_bd2 (x := n) (y := b) a3 a4 (by omega) (by omega)
        have m2 := mul_bd2 (x := a) (y := D) p1 p2 (by omega) (by omega)
        have m3 := mul_bd2 (x := c) (y := D) p5 p6 (by omega) (by omega)
        have m4 := mul_bd2 (x := n) (y := e) a3 a4 (by omega) (by omega)
        exact ⟨fun W => off_any n D a b c e W m1.1 m1.2 (by omega) (by omega) (by omega) (by omega) m4.1 m4.2, fun W => fless_int _ _ _ _ W p11 p12 (by omega) p8 p9 p10 (by omega) p4⟩
      have HOFF := Lib.hid hoff
      unfold frv at *
      clear hv hv' hn hD hd2 a1 a2 a3 a4 a5 hnb hoff hvl
      go_enter Try.func68, Try.ntmps68
      go_upto_region 4 with (first
        | (go_at_call 20; refine (HV.out _).mono ?_; rintro e w1 ⟨rfl, hx1⟩; obtain ⟨k1, k2, k3, k4, k5⟩ := two_cells hx1)
        | (go_at_call 90; refine (HN.out _).mono ?_; unfold RetN frv; rintro e w2 ⟨a, b, c, e2, rfl, har, hx2⟩; have E2 := ext_trans hx1 hx2; obtain ⟨k1, k2, k3, k4, k5⟩ := two_cells E2))
      obtain ⟨R3, L3, H3, B3⟩ := near_cells (.int .i64 a) (.int .i64 b) (.int .i64 c) (.int .i64 e2) E2
      have N3 := (((Ce.new (T := 23) w (.int .i64 n) (.int .i64 D)).alloc (.cells #[.int .i64 0, .int .i64 0] 23)).ext E2 |>.alloc (.cells #[.int .i64 a, .int .i64 b] 23)).alloc (.cells #[.int .i64 c, .int .i64 e2] 23)
      have hg2 : w.heap.size + 1 < w2.heap.size := by omega
      generalize (w2.alloc (.cells #[.int .i64 a, .int .i64 b] 23)).alloc (.cells #[.int .i64 c, .int .i64 e2] 23) = wl at *
      generalize w2.heap.size = g2 at *
      clear k1 k2 k3 k4 k5 hx1 hx2 E2
      have HO2 := Lib.hid (HOFF.out a b c e2 har)
      have HAN := Lib.hid (show ∀ x, x = nrA n D a b c e2 → NrA n D d x from fun x hx => .inr ⟨HOK.out, a, b, c, e2, har, hx⟩)
      have HE1 := Lib.hid (show (c * D - n * e2) * b < (n * b - a * D) * e2 → (c, e2, (0 : Int)) = nrA n D a b c e2 from fun h => by unfold nrA; rw [if_pos h])
      have HE2 := Lib.hid (show ¬ (c * D - n * e2) * b < (n * b - a * D) * e2 → (a, b, (0 : Int)) = nrA n D a b c e2 from fun h => by unfold nrA; rw [if_neg h])
      clear HOFF HOK har
      obtain ⟨n1, n2, n3⟩ := N3.facts
      obtain ⟨r1, r2, r3⟩ := R3.facts
      obtain ⟨l1, l2, l3⟩ := L3.facts
      obtain ⟨h1, h2, h3⟩ := H3.facts
      by_cases hlt : (c * D - n * e2) * b < (n * b - a * D) * e2
      · rw [decide_eq_true hlt] at HO2
        generalize n * b - a * D = X at *
        generalize c * D - n * e2 = Y at *
        have HF := Lib.hid (HE1.out hlt)
        clear HE1 HE2 hlt
        go_wp2_with (first
          | (go_at_call 98; refine (HO2.out.1 _).mono ?_; rintro e1 w5 ⟨rfl, hx5⟩; have R5 := R3.ext hx5; have L5 := L3.ext hx5; have H5 := H3.ext hx5; have B5 := bext B3 hx5 (by omega); obtain ⟨r1, r2, r3⟩ := R5.facts; obtain ⟨l1, l2, l3⟩ := L5.facts; obtain ⟨h1, h2, h3⟩ := H5.facts)
          | (go_at_call 99; refine (HO2.out.2 _).mono ?_; rintro e1 w6 ⟨rfl, rfl⟩))
        refine bodyPost_ret (v := .tuple #[.agg #[.int .i64 c, .int .i64 e2], .int .i64 0]) (by simp [results, Try.results68, go_sem, r1]) rfl ?_
        exact ⟨_, HAN.out _ HF.out, rfl, below2 B5 (by omega) _ _⟩
      · rw [decide_eq_false hlt] at HO2
        generalize n * b - a * D = X at *
        generalize c * D - n * e2 = Y at *
        have HF := Lib.hid (HE2.out hlt)
        clear HE1 HE2 hlt
        go_wp2_with (first
          | (go_at_call 98; refine (HO2.out.1 _).mono ?_; rintro e1 w5 ⟨rfl, hx5⟩; have R5 := R3.ext hx5; have L5 := L3.ext hx5; have H5 := H3.ext hx5; have B5 := bext B3 hx5 (by omega); obtain ⟨r1, r2, r3⟩ := R5.facts; obtain ⟨l1, l2, l3⟩ := L5.facts; obtain ⟨h1, h2, h3⟩ := H5.facts)
          | (go_at_call 99; refine (HO2.out.2 _).mono ?_; rintro e1 w6 ⟨rfl, rfl⟩))
        refine bodyPost_ret (v := .tuple #[.agg #[.int .i64 a, .int .i64 b], .int .i64 0]) (by simp [results, Try.results68, go_sem, r1]) rfl ?_
        exact ⟨_, HAN.out _ HF.out, rfl, below2 B5 (by omega) _ _⟩
end Go.Proofs.Ythkoblnfeebafaa
