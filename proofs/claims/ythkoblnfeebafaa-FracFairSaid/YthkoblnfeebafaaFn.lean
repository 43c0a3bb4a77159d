/- Walks of the reference's Div, Cmp, Neg, Abs. Conditions: the arguments are within their kinds. -/
import Derived.Test.YthkoblnfeebafaaFl
import Derived.Test.YthkoblnfeebafaaFm
namespace Go.Proofs.Ythkoblnfeebafaa
open Go.RowKit

theorem rat_ne {n d : Int} (h : n ≠ 0) (hd : 1 ≤ d) : rat n d ≠ 0 := by
  have e1 := cast_ne hd
  have e2 : (n : Rat) ≠ 0 := by intro h0; exact h (Rat.intCast_eq_zero_iff.1 h0)
  unfold rat
  intro h0
  have := Rat.div_mul_cancel (a := (n : Rat)) e1
  rw [h0, Rat.zero_mul] at this
  exact e2 this.symm

set_option maxRecDepth 100000 in
set_option maxHeartbeats 400000 in
theorem rneg_any (n d : Int) (w : World) (ha1 : IsI n) (ha2 : IsI d) :
    Calls Try.prog 62 #[frv n d] w (RetA w (negA n d)) := by
  have HV := Lib.hid (fun W => rvalid_any n d W ha1 ha2)
  clear ha1 ha2
  have hx0 : ∀ x y, Below w.heap.size w ((w.alloc x).alloc y) := fun x y => ((Below.refl _ _).alloc (Nat.le_refl _) _).alloc (by simp) _
  have HX0 := Lib.hid hx0
  clear hx0
  unfold frv negA at *
  cases hv : vldB n d
  · rw [if_neg (by simp)]
    rw [hv] at HV
    clear hv
    go_enter Try.func62, Try.ntmps62
    go_wp2_with (first
      | (go_at_call 21; refine (HV.out _).mono ?_; rintro e w1 ⟨rfl, hx1⟩; obtain ⟨k1, k2, k3, k4, k5⟩ := two_cells hx1))
    refine bodyPost_ret (v := .tuple #[.agg #[.int .i64 0, .int .i64 0], .int .i64 2]) (by simp [results, Try.results62, go_sem, k2]) rfl ?_
    exact ⟨rfl, below2 (ext_trans (HX0.out _ _) hx1) (by omega) _ _⟩
  · rw [if_pos rfl]
    obtain ⟨a1, a2, a3, a4, _⟩ := of_decide_eq_true hv
    rw [hv] at HV
    clear hv
    go_enter Try.func62, Try.ntmps62
    go_wp2_with (first
      | (go_at_call 21; refine (HV.out _).mono ?_; rintro e w1 ⟨rfl, hx1⟩; obtain ⟨k1, k2, k3, k4, k5⟩ := two_cells hx1))
    refine bodyPost_ret (v := .tuple #[.agg #[.int .i64 (-n), .int .i64 d], .int .i64 0]) (by simp [results, Try.results62, go_sem, k2]) rfl ?_
    exact ⟨rfl, below2 (ext_trans (HX0.out _ _) hx1) (by omega) _ _⟩
set_option maxRecDepth 100000 in
set_option maxHeartbeats 400000 in
theorem rabs_any (n d : Int) (w : World) (ha1 : IsI n) (ha2 : IsI d) :
    Calls Try.prog 64 #[frv n d] w (RetA w (absA n d)) := by
  have HV := Lib.hid (fun W => rvalid_any n d W ha1 ha2)
  clear ha1 ha2
  have hx0 : ∀ x y, Below w.heap.size w ((w.alloc x).alloc y) := fun x y => ((Below.refl _ _).alloc (Nat.le_refl _) _).alloc (by simp) _
  have HX0 := Lib.hid hx0
  clear hx0
  unfold frv absA at *
  cases hv : vldB n d
  · rw [if_neg (by simp)]
    rw [hv] at HV
    clear hv
    go_enter Try.func64, Try.ntmps64
    go_wp2_with (first
      | (go_at_call 21; refine (HV.out _).mono ?_; rintro e w1 ⟨rfl, hx1⟩; obtain ⟨k1, k2, k3, k4, k5⟩ := two_cells hx1))
    refine bodyPost_ret (v := .tuple #[.agg #[.int .i64 0, .int .i64 0], .int .i64 2]) (by simp [results, Try.results64, go_sem, k2]) rfl ?_
    exact ⟨rfl, below2 (ext_trans (HX0.out _ _) hx1) (by omega) _ _⟩
  · rw [if_pos rfl]
    obtain ⟨a1, a2, a3, a4, _⟩ := of_decide_eq_true hv
    rw [hv] at HV
    clear hv
    go_enter Try.func64, Try.ntmps64
    go_wp2_with (first
      | (go_at_call 21; refine (HV.out _).mono ?_; rintro e w1 ⟨rfl, hx1⟩; obtain ⟨k1, k2, k3, k4, k5⟩ := two_cells hx1))
    · refine bodyPost_ret (v := .tuple #[.agg #[.int .i64 (-n), .int .i64 d], .int .i64 0]) (by simp [results, Try.results64, go_sem, k2]) rfl ?_
      exact ⟨rfl, below2 (ext_trans (HX0.out _ _) hx1) (by omega) _ _⟩
    · refine bodyPost_ret (v := .tuple #[.agg #[.int .i64 n, .int .i64 d], .int .i64 0]) (by simp [results, Try.results64, go_sem, k2]) rfl ?_
      exact ⟨rfl, below2 (ext_trans (HX0.out _ _) hx1) (by omega) _ _⟩
set_option maxRecDepth 100000 in
set_option maxHeartbeats 2000000 in
theorem rdiv_any (an ad bn bd : Int) (w : World) (ha1 : IsI an) (ha2 : IsI ad) (hb1 : IsI bn) (hb2 : IsI bd) :
    Calls Try.prog 61 #[frv an ad, frv bn bd] w (RetA w (divA an ad bn bd)) := by
  have h1 := fun W => rvalid_any an ad W ha1 ha2
  have h2 := fun W => rvalid_any bn bd W hb1 hb2
  have hx0 : ∀ x y z, Below w.heap.size w (((w.alloc x).alloc y).alloc z) := fun x y z => (((Below.refl _ _).alloc (Nat.le_refl _) _).alloc (by simp) _).alloc (by simp; omega) _
  have HX0 := Lib.hid hx0
  clear hx0
  unfold frv divA at *
  cases hv : vldB an ad
  · rw [if_neg (by simp)]
    rw [hv] at h1
    have H1 := Lib.hid h1
    clear h1 h2 hv ha1 ha2 hb1 hb2
    go_enter Try.func61, Try.ntmps61
    go_wp2_with (go_at_call 21; refine (H1.out _).mono ?_; rintro e w1 ⟨rfl, hx1⟩; obtain ⟨k1, k2, k3, k4, k5⟩ := three_cells hx1)
    refine bodyPost_ret (v := .tuple #[.agg #[.int .i64 0, .int .i64 0], .int .i64 2]) (by simp [results, Try.results61, go_sem, k3]) rfl ?_
    exact ⟨rfl, below2 (ext_trans (HX0.out _ _ _) hx1) (by omega) _ _⟩
  · cases hv2 : vldB bn bd
    · rw [if_neg (by simp)]
      rw [hv] at h1
      rw [hv2] at h2
      have H1 := Lib.hid h1
      have H2 := Lib.hid h2
      clear h1 h2 hv hv2 ha1 ha2 hb1 hb2
      go_enter Try.func61, Try.ntmps61
      go_wp2_with (first
        | (go_at_call_of 21 (Value.int .i64 an); refine (H1.out _).mono ?_; rintro e w1 ⟨rfl, hx1⟩; obtain ⟨k1, k2, k3, k4, k5⟩ := three_cells hx1)
        | (go_at_call_of 21 (Value.int .i64 bn); refine (H2.out _).mono ?_; rintro e w2 ⟨rfl, hx2⟩; have E2 := ext_trans hx1 hx2; obtain ⟨k1, k2, k3, k4, k5⟩ := three_cells E2))
      refine bodyPost_ret (v := .tuple #[.agg #[.int .i64 0, .int .i64 0], .int .i64 2]) (by simp [results, Try.results61, go_sem, k3]) rfl ?_
      exact ⟨rfl, below2 (ext_trans (HX0.out _ _ _) E2) (by omega) _ _⟩
    · rw [if_pos (by simp)]
      obtain ⟨a1, a2, a3, a4, _⟩ := of_decide_eq_true hv
      obtain ⟨b1, b2, b3, b4, _⟩ := of_decide_eq_true hv2
      rw [hv] at h1
      rw [hv2] at h2
      by_cases h0 : bn = 0
      · subst h0
        rw [if_pos rfl]
        have H1 := Lib.hid h1
        have H2 := Lib.hid h2
        clear h1 h2 hv hv2 ha1 ha2 hb1 hb2 a1 a2 a3 a4 b1 b2 b3 b4
        go_enter Try.func61, Try.ntmps61
        go_wp2_with (first
          | (go_at_call_of 21 (Value.int .i64 an); refine (H1.out _).mono ?_; rintro e w1 ⟨rfl, hx1⟩; obtain ⟨k1, k2, k3, k4, k5⟩ := three_cells hx1)
          | (go_at_call_of 21 (Value.int .i64 0); refine (H2.out _).mono ?_; rintro e w2 ⟨rfl, hx2⟩; have E2 := ext_trans hx1 hx2; obtain ⟨k1, k2, k3, k4, k5⟩ := three_cells E2)
          | (go_at_call 21; refine (H2.out _).mono ?_; rintro e w2 ⟨rfl, hx2⟩; have E2 := ext_trans hx1 hx2; obtain ⟨k1, k2, k3, k4, k5⟩ := three_cells E2))
        refine bodyPost_ret (v := .tuple #[.agg #[.int .i64 0, .int .i64 0], .int .i64 4]) (by simp [results, Try.results61, go_sem, k3]) rfl ?_
        exact ⟨rfl, below2 (ext_trans (HX0.out _ _ _) E2) (by omega) _ _⟩
      rw [if_neg h0]
      have h0' : (bn == 0) = false := by simpa using h0
      have h0q := rat_ne h0 b1
      have H1 := Lib.hid h1
      have H2 := Lib.hid h2
      have z1 := qok_inq (rat_inq a1 a2 a3 a4)
      have z2 := qok_inq (rat_inq b1 b2 b3 b4)
      have ho1 : ∀ W, Calls Try.prog 34 #[.agg #[.int .i64 an, .int .i64 ad]] W (RetQ W (rat an ad)) := fun W => of_any an ad W ha1.1 ha1.2 ha2.1 ha2.2 (by omega)
      have ho2 : ∀ W, Calls Try.prog 34 #[.agg #[.int .i64 bn, .int .i64 bd]] W (RetQ W (rat bn bd)) := fun W => of_any bn bd W hb1.1 hb1.2 hb2.1 hb2.2 (by omega)
      have hp := fun va vb W (x : QAt W va (rat an ad)) (y : QAt W vb (rat bn bd)) => over_any va vb (rat an ad) (rat bn bd) W x y z1 z2 h0q
      have hans := fun v W (x : QAt W v (rat an ad / rat bn bd)) => answer_any v _ W x
      have HO1 := Lib.hid ho1
      have HO2 := Lib.hid ho2
      have HP := Lib.hid hp
      have HAN := Lib.hid hans
      clear h0q ho1 ho2 hp hans z1 z2 a1 a2 a3 a4 b1 b2 b3 b4
      generalize ans (rat an ad / rat bn bd) = a at *
      clear h1 h2 hv hv2 ha1 ha2 hb1 hb2
      obtain ⟨W0, hW0⟩ : ∃ W0, W0 = ((w.alloc (.cells #[.int .i64 an, .int .i64 ad] 23)).alloc (.cells #[.int .i64 bn, .int .i64 bd] 23)).alloc (.cells #[.int .i64 0, .int .i64 0] 23) := ⟨_, rfl⟩
      have hw0 : Below w.heap.size w W0 := by rw [hW0]; exact HX0.out _ _ _
      have hH0 : ∀ w', Below W0.heap.size W0 w' → Held2 23 (w.heap.size + 1 + 1) W0 w' := fun w' h =>
        ⟨h.mono (by rw [hW0]; simp), Res2.ext (w := W0) (by rw [hW0]; exact ⟨_, _, by simpa using heap_alloc_new ((w.alloc _).alloc _) _⟩) h⟩
      have hS : ∀ w', Held2 23 (w.heap.size + 1 + 1) W0 w' → (Held2 23 (w.heap.size + 1 + 1) W0 w' ∧ w'.cell? ⟨w.heap.size, 0, none⟩ = some (.int .i64 an) ∧ w'.cell? ⟨w.heap.size, 1, none⟩ = some (.int .i64 ad) ∧
          w'.cell? ⟨w.heap.size + 1, 0, none⟩ = some (.int .i64 bn) ∧ w'.cell? ⟨w.heap.size + 1, 1, none⟩ = some (.int .i64 bd)) := by
        intro w' h
        obtain ⟨b1, b2⟩ := bcell h.1
        refine ⟨h, ?_, ?_, ?_, ?_⟩ <;> (rw [b1 _ _ (by omega), hW0]; simp [go_sem])
      have HSS := Lib.hid hS
      have HW0 := Lib.hid hW0
      have HH0 := Lib.hid hH0
      clear hS hH0
      go_enter Try.func61, Try.ntmps61
      go_wp2_with (first
        | (go_at_call_of 21 (Value.int .i64 an); refine (H1.out _).mono ?_; rintro e w1 ⟨rfl, hx1⟩; obtain ⟨k1, k2, k3, k4, k5⟩ := three_cells hx1)
        | (go_at_call_of 21 (Value.int .i64 bn); refine (H2.out _).mono ?_; rintro e w2 ⟨rfl, hx2⟩; have E2 := ext_trans hx1 hx2; obtain ⟨k1, k2, k3, k4, k5⟩ := three_cells E2))
      rw [← HW0.out] at E2
      clear hx1 hx2 k1 k2 k3 k4 k5 hW0
      have HE2 := Lib.hid (HH0.out _ E2)
      clear E2
      go_region_held3 (fun w' => Held2 23 (w.heap.size + 1 + 1) W0 w' ∧ w'.cell? ⟨w.heap.size, 0, none⟩ = some (.int .i64 an) ∧ w'.cell? ⟨w.heap.size, 1, none⟩ = some (.int .i64 ad) ∧
          w'.cell? ⟨w.heap.size + 1, 0, none⟩ = some (.int .i64 bn) ∧ w'.cell? ⟨w.heap.size + 1, 1, none⟩ = some (.int .i64 bd))
        (first | exact HSS.out _ (Held2.call (And.left (by assumption)) (by assumption)) | exact HSS.out _ HE2.out.drew | exact HSS.out _ (Held2.store (And.left (by assumption)) _ _))
        (first
          | (go_at_call_of 34 (Value.int .i64 an); refine (HO1.out _).mono ?_; rintro e w3 ⟨v3, rfl, hq3, hx3⟩; obtain ⟨s3, A3, n3, c3, B3, m3, d3, rfl⟩ := q_form hq3)
          | (go_at_call_of 34 (Value.int .i64 bn); refine (HO2.out _).mono ?_; rintro e w4 ⟨v4, rfl, hq4, hx4⟩; obtain ⟨s4, A4, n4, c4, B4, m4, d4, rfl⟩ := q_form hq4)
          | (go_at_call 38; refine (HP.out _ _ _ ?_ ?_).mono ?_; (first | exact hq3 | exact hq3.ext (by assumption)); (first | exact hq4 | exact hq4.ext (by assumption)); rintro e w5 ⟨v5, rfl, hq5, hx5⟩; obtain ⟨s5, A5, n5, c5, B5, m5, d5, rfl⟩ := q_form hq5)
          | (go_at_call 79; refine (HAN.out _ _ hq5).mono ?_; unfold RetA frv; rintro e w6 ⟨rfl, hx6⟩; have hh6 := Held2.call (And.left (by assumption)) hx6; obtain ⟨r0, r1, hc, hf, hz⟩ := hh6.2.facts))
      all_goals
        go_wp2
        refine bodyPost_ret (v := .tuple #[.agg #[.int .i64 a.1, .int .i64 a.2.1], .int .i64 a.2.2]) (by simp [results, Try.results61, go_sem, hc]) rfl ?_
        exact ⟨rfl, Held2.from (hh6.store _ _) hw0 (by omega)⟩
set_option maxRecDepth 100000 in
set_option maxHeartbeats 2000000 in
theorem rcmp_any (an ad bn bd : Int) (w : World) (ha1 : IsI an) (ha2 : IsI ad) (hb1 : IsI bn) (hb2 : IsI bd) :
    Calls Try.prog 57 #[frv an ad, frv bn bd] w fun e w' => e = .returned (.tuple #[.int .i64 (cmpA an ad bn bd).1, .int .i64 (cmpA an ad bn bd).2]) ∧ Below w.heap.size w w' := by
  have h1 := fun W => rvalid_any an ad W ha1 ha2
  have h2 := fun W => rvalid_any bn bd W hb1 hb2
  have hx0 : ∀ x y, Below w.heap.size w ((w.alloc x).alloc y) := fun x y => ((Below.refl _ _).alloc (Nat.le_refl _) _).alloc (by simp) _
  have HX0 := Lib.hid hx0
  clear hx0
  unfold frv cmpA at *
  cases hv : vldB an ad
  · rw [if_neg (by simp)]
    rw [hv] at h1
    have H1 := Lib.hid h1
    clear h1 h2 hv ha1 ha2 hb1 hb2
    go_enter Try.func57, Try.ntmps57
    go_wp2_with (go_at_call 21; refine (H1.out _).mono ?_; rintro e w1 ⟨rfl, hx1⟩; obtain ⟨k1, k2, k3, k4, k5⟩ := two_cells hx1)
    go_returns
    exact ⟨rfl, ext_trans (HX0.out _ _) hx1⟩
  · cases hv2 : vldB bn bd
    · rw [if_neg (by simp)]
      rw [hv] at h1
      rw [hv2] at h2
      have H1 := Lib.hid h1
      have H2 := Lib.hid h2
      clear h1 h2 hv hv2 ha1 ha2 hb1 hb2
      go_enter Try.func57, Try.ntmps57
      go_wp2_with (first
        | (go_at_call_of 21 (Value.int .i64 an); refine (H1.out _).mono ?_; rintro e w1 ⟨rfl, hx1⟩; obtain ⟨k1, k2, k3, k4, k5⟩ := two_cells hx1)
        | (go_at_call_of 21 (Value.int .i64 bn); refine (H2.out _).mono ?_; rintro e w2 ⟨rfl, hx2⟩; have E2 := ext_trans hx1 hx2; obtain ⟨k1, k2, k3, k4, k5⟩ := two_cells E2))
      go_returns
      exact ⟨rfl, ext_trans (HX0.out _ _) E2⟩
    · rw [if_pos (by simp)]
      obtain ⟨a1, a2, a3, a4, _⟩ := of_decide_eq_true hv
      obtain ⟨b1, b2, b3, b4, _⟩ := of_decide_eq_true hv2
      rw [hv] at h1
      rw [hv2] at h2
      have H1 := Lib.hid h1
      have H2 := Lib.hid h2
      have z1 := qok_inq (rat_inq a1 a2 a3 a4)
      have z2 := qok_inq (rat_inq b1 b2 b3 b4)
      have ho1 : ∀ W, Calls Try.prog 34 #[.agg #[.int .i64 an, .int .i64 ad]] W (RetQ W (rat an ad)) := fun W => of_any an ad W ha1.1 ha1.2 ha2.1 ha2.2 (by omega)
      have ho2 : ∀ W, Calls Try.prog 34 #[.agg #[.int .i64 bn, .int .i64 bd]] W (RetQ W (rat bn bd)) := fun W => of_any bn bd W hb1.1 hb1.2 hb2.1 hb2.2 (by omega)
      have hp := fun va vb W (x : QAt W va (rat an ad)) (y : QAt W vb (rat bn bd)) => order_q va vb (rat an ad) (rat bn bd) W x y z1 z2
      have HO1 := Lib.hid ho1
      have HO2 := Lib.hid ho2
      have HP := Lib.hid hp
      clear ho1 ho2 hp z1 z2 a1 a2 a3 a4 b1 b2 b3 b4
      generalize (rat an ad - rat bn bd).num.sign = a at *
      clear h1 h2 hv hv2 ha1 ha2 hb1 hb2
      obtain ⟨W0, hW0⟩ : ∃ W0, W0 = (w.alloc (.cells #[.int .i64 an, .int .i64 ad] 23)).alloc (.cells #[.int .i64 bn, .int .i64 bd] 23) := ⟨_, rfl⟩
      have hw0 : Below w.heap.size w W0 := by rw [hW0]; exact HX0.out _ _
      have hS : ∀ w', Below W0.heap.size W0 w' → (Below W0.heap.size W0 w' ∧ w'.cell? ⟨w.heap.size, 0, none⟩ = some (.int .i64 an) ∧ w'.cell? ⟨w.heap.size, 1, none⟩ = some (.int .i64 ad) ∧
          w'.cell? ⟨w.heap.size + 1, 0, none⟩ = some (.int .i64 bn) ∧ w'.cell? ⟨w.heap.size + 1, 1, none⟩ = some (.int .i64 bd)) := by
        intro w' h
        have h' := h
        rw [hW0] at h'
        obtain ⟨k1, k2, _⟩ := two_cells h'
        exact ⟨h, k1 0, k1 1, k2 0, k2 1⟩
      have HSS := Lib.hid hS
      have HW0 := Lib.hid hW0
      clear hS
      go_enter Try.func57, Try.ntmps57
      go_wp2_with (first
        | (go_at_call_of 21 (Value.int .i64 an); refine (H1.out _).mono ?_; rintro e w1 ⟨rfl, hx1⟩; obtain ⟨k1, k2, k3, k4, k5⟩ := two_cells hx1)
        | (go_at_call_of 21 (Value.int .i64 bn); refine (H2.out _).mono ?_; rintro e w2 ⟨rfl, hx2⟩; have E2 := ext_trans hx1 hx2; obtain ⟨k1, k2, k3, k4, k5⟩ := two_cells E2))
      rw [← HW0.out] at E2
      clear hx1 hx2 k1 k2 k3 k4 k5 hW0
      have HE2 := Lib.hid E2
      clear E2
      go_region_held3 (fun w' => Below W0.heap.size W0 w' ∧ w'.cell? ⟨w.heap.size, 0, none⟩ = some (.int .i64 an) ∧ w'.cell? ⟨w.heap.size, 1, none⟩ = some (.int .i64 ad) ∧
          w'.cell? ⟨w.heap.size + 1, 0, none⟩ = some (.int .i64 bn) ∧ w'.cell? ⟨w.heap.size + 1, 1, none⟩ = some (.int .i64 bd))
        (first | exact HSS.out _ (ext_trans (And.left (by assumption)) (by assumption)) | exact HSS.out _ HE2.out.drew)
        (first
          | (go_at_call_of 34 (Value.int .i64 an); refine (HO1.out _).mono ?_; rintro e w3 ⟨v3, rfl, hq3, hx3⟩; obtain ⟨s3, A3, n3, c3, B3, m3, d3, rfl⟩ := q_form hq3)
          | (go_at_call_of 34 (Value.int .i64 bn); refine (HO2.out _).mono ?_; rintro e w4 ⟨v4, rfl, hq4, hx4⟩; obtain ⟨s4, A4, n4, c4, B4, m4, d4, rfl⟩ := q_form hq4)
          | (go_at_call 39; refine (HP.out _ _ _ ?_ ?_).mono ?_; (first | exact hq3 | exact hq3.ext (by assumption)); (first | exact hq4 | exact hq4.ext (by assumption)); rintro e w5 ⟨rfl, hx5⟩; have hh5 := ext_trans hw0 (ext_trans (And.left (by assumption)) hx5)))
      all_goals
        go_wp2
        go_returns
        exact ⟨rfl, hh5⟩
end Go.Proofs.Ythkoblnfeebafaa
