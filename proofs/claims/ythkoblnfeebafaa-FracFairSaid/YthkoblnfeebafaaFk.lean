/- Walks of the reference's Add, Sub, Mul. Conditions: the arguments are within their kinds. -/
import Derived.Test.YthkoblnfeebafaaFj
namespace Go.Proofs.Ythkoblnfeebafaa
open Go.RowKit

theorem qok_inq {q : Rat} (h : InQ q) : QOk q := by
  have h1 := Num.dig_len_one (show q.num.natAbs < 4294967296 by have := h.1; omega)
  have h2 := Num.dig_len_one (show q.den < 4294967296 by have := h.2; omega)
  exact ⟨by omega, by omega⟩

set_option maxRecDepth 100000 in
set_option maxHeartbeats 2000000 in
theorem radd_any (an ad bn bd : Int) (w : World) (ha1 : IsI an) (ha2 : IsI ad) (hb1 : IsI bn) (hb2 : IsI bd) :
    Calls Try.prog 58 #[frv an ad, frv bn bd] w (RetA w (two an ad bn bd (rat an ad + rat bn bd))) := by
  have h1 := fun W => rvalid_any an ad W ha1 ha2
  have h2 := fun W => rvalid_any bn bd W hb1 hb2
  have hx0 : ∀ x y z, Below w.heap.size w (((w.alloc x).alloc y).alloc z) := fun x y z => (((Below.refl _ _).alloc (Nat.le_refl _) _).alloc (by simp) _).alloc (by simp; omega) _
  have HX0 := Lib.hid hx0
  clear hx0
  unfold frv two at *
  cases hv : vldB an ad
  · rw [if_neg (by simp)]
    rw [hv] at h1
    have H1 := Lib.hid h1
    clear h1 h2 hv ha1 ha2 hb1 hb2
    go_enter Try.func58, Try.ntmps58
    go_wp2_with (go_at_call 21; refine (H1.out _).mono ?_; rintro e w1 ⟨rfl, hx1⟩; obtain ⟨k1, k2, k3, k4, k5⟩ := three_cells hx1)
    refine bodyPost_ret (v := .tuple #[.agg #[.int .i64 0, .int .i64 0], .int .i64 2]) (by simp [results, Try.results58, go_sem, k3]) rfl ?_
    exact ⟨rfl, below2 (ext_trans (HX0.out _ _ _) hx1) (by omega) _ _⟩
  · cases hv2 : vldB bn bd
    · rw [if_neg (by simp)]
      rw [hv] at h1
      rw [hv2] at h2
      have H1 := Lib.hid h1
      have H2 := Lib.hid h2
      clear h1 h2 hv hv2 ha1 ha2 hb1 hb2
      go_enter Try.func58, Try.ntmps58
      go_wp2_with (first
        | (go_at_call_of 21 (Value.int .i64 an); refine (H1.out _).mono ?_; rintro e w1 ⟨rfl, hx1⟩; obtain ⟨k1, k2, k3, k4, k5⟩ := three_cells hx1)
        | (go_at_call_of 21 (Value.int .i64 bn); refine (H2.out _).mono ?_; rintro e w2 ⟨rfl, hx2⟩; have E2 := ext_trans hx1 hx2; obtain ⟨k1, k2, k3, k4, k5⟩ := three_cells E2))
      refine bodyPost_ret (v := .tuple #[.agg #[.int .i64 0, .int .i64 0], .int .i64 2]) (by simp [results, Try.results58, go_sem, k3]) rfl ?_
      exact ⟨rfl, below2 (ext_trans (HX0.out _ _ _) E2) (by omega) _ _⟩
    · rw [if_pos (by simp)]
      obtain ⟨a1, a2, a3, a4, _⟩ := of_decide_eq_true hv
      obtain ⟨b1, b2, b3, b4, _⟩ := of_decide_eq_true hv2
      rw [hv] at h1
      rw [hv2] at h2
      have H1 := Lib.hid h1
      have H2 := Lib.hid h2
      have z1 := qok_inq (rat_inq a1 a2 a3 a4)
      have z2 := qok_inq (rat_inq b1 b2 b3 b4)
      have ho1 : ∀ W, Calls Try.prog 34 #[.agg #[.int .i64 an, .int .i64 ad]] W (RetQ W (rat an ad)) := fun W => of_any an ad W ha1.1 ha1.2 ha2.1 ha2.2 (by omega)
      have ho2 : ∀ W, Calls Try.prog 34 #[.agg #[.int .i64 bn, .int .i64 bd]] W (RetQ W (rat bn bd)) := fun W => of_any bn bd W hb1.1 hb1.2 hb2.1 hb2.2 (by omega)
      have hp := fun va vb W (x : QAt W va (rat an ad)) (y : QAt W vb (rat bn bd)) => plus_q va vb (rat an ad) (rat bn bd) W x y z1 z2
      have hans := fun v W (x : QAt W v (rat an ad + rat bn bd)) => answer_any v _ W x
      have HO1 := Lib.hid ho1
      have HO2 := Lib.hid ho2
      have HP := Lib.hid hp
      have HAN := Lib.hid hans
      clear ho1 ho2 hp hans z1 z2 a1 a2 a3 a4 b1 b2 b3 b4
      generalize ans (rat an ad + rat bn bd) = a at *
      clear h1 h2 hv hv2 ha1 ha2 hb1 hb2
      obtain ⟨W0, hW0⟩ : ∃ W0, W0 = ((w.alloc (.cells #[.int .i64 an, .int .i64 ad] 23)).alloc (.cells #[.int .i64 bn, .int .i64 bd] 23)).alloc (.cells #[.int .i64 0, .int .i64 0] 23) := ⟨_, rfl⟩
      have hw0 : Below w.heap.size w W0 := by rw [hW0]; exact HX0.out _ _ _
      have hH0 : ∀ w', Below W0.heap.size W0 w' → Held2 23 (w.heap.size + 1 + 1) W0 w' := fun w' h =>
        ⟨h.mono (by rw [hW0]; simp), Res2.ext (w := W0) (by rw [hW0]; exact ⟨_, _, by simpa using heap_alloc_new ((w.alloc _).alloc _) _⟩) h⟩
      have hS : ∀ w', Held2 23 (w.heap.size + 1 + 1) W0 w' → (Held2 23 (w.heap.size + 1 + 1) W0 w' ∧ w'.cell? ⟨w.heap.size, 0, none⟩ = some (.int .i64 an) ∧ w'.cell? ⟨w.heap.size, 1, none⟩ = some (.int .i64 ad) ∧
          w'.cell? ⟨w.heap.size + 1, 0, none⟩ = some (.int .i64 bn) ∧ w'.cell? ⟨w.heap.size + 1, 1, none⟩ = some (.int .i64 bd)) := by
        intro w' h
        obtain ⟨b1, b2⟩ := bcell h.1
        refine ⟨h, ?_, ?_, ?_, ?_⟩ <;> (rw [b1 _ _ (by omega), hW0]; simp [go_sem])
      have HSS := Lib.hid hS
      have HW0 := Lib.hid hW0
      have HH0 := Lib.hid hH0
      clear hS hH0
      go_enter Try.func58, Try.ntmps58
      go_wp2_with (first
        | (go_at_call_of 21 (Value.int .i64 an); refine (H1.out _).mono ?_; rintro e w1 ⟨rfl, hx1⟩; obtain ⟨k1, k2, k3, k4, k5⟩ := three_cells hx1)
        | (go_at_call_of 21 (Value.int .i64 bn); refine (H2.out _).mono ?_; rintro e w2 ⟨rfl, hx2⟩; have E2 := ext_trans hx1 hx2; obtain ⟨k1, k2, k3, k4, k5⟩ := three_cells E2))
      rw [← HW0.out] at E2
      clear hx1 hx2 k1 k2 k3 k4 k5 hW0
      have HE2 := Lib.hid (HH0.out _ E2)
      clear E2
      go_region_held3 (fun w' => Held2 23 (w.heap.size + 1 + 1) W0 w' ∧ w'.cell? ⟨w.heap.size, 0, none⟩ = some (.int .i64 an) ∧ w'.cell? ⟨w.heap.size, 1, none⟩ = some (.int .i64 ad) ∧
          w'.cell? ⟨w.heap.size + 1, 0, none⟩ = some (.int .i64 bn) ∧ w'.cell? ⟨w.heap.size + 1, 1, none⟩ = some (.int .i64 bd))
        (first | exact HSS.out _ (Held2.call (And.left (by assumption)) (by assumption)) | exact HSS.out _ HE2.out.drew | exact HSS.out _ (Held2.store (And.left (by assumption)) _ _))
        (first
          | (go_at_call_of 34 (Value.int .i64 an); refine (HO1.out _).mono ?_; rintro e w3 ⟨v3, rfl, hq3, hx3⟩; obtain ⟨s3, A3, n3, c3, B3, m3, d3, rfl⟩ := q_form hq3)
          | (go_at_call_of 34 (Value.int .i64 bn); refine (HO2.out _).mono ?_; rintro e w4 ⟨v4, rfl, hq4, hx4⟩; obtain ⟨s4, A4, n4, c4, B4, m4, d4, rfl⟩ := q_form hq4)
          | (go_at_call 40; refine (HP.out _ _ _ ?_ ?_).mono ?_; (first | exact hq3 | exact hq3.ext (by assumption)); (first | exact hq4 | exact hq4.ext (by assumption)); rintro e w5 ⟨v5, rfl, hq5, hx5⟩; obtain ⟨s5, A5, n5, c5, B5, m5, d5, rfl⟩ := q_form hq5)
          | (go_at_call 79; refine (HAN.out _ _ hq5).mono ?_; unfold RetA frv; rintro e w6 ⟨rfl, hx6⟩; have hh6 := Held2.call (And.left (by assumption)) hx6; obtain ⟨r0, r1, hc, hf, hz⟩ := hh6.2.facts))
      all_goals
        go_wp2
        refine bodyPost_ret (v := .tuple #[.agg #[.int .i64 a.1, .int .i64 a.2.1], .int .i64 a.2.2]) (by simp [results, Try.results58, go_sem, hc]) rfl ?_
        exact ⟨rfl, Held2.from (hh6.store _ _) hw0 (by omega)⟩
end Go.Proofs.Ythkoblnfeebafaa
