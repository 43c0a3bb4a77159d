/- Walk of the reference's Plus on rationals. Conditions: the parts lie in memory as naturals of at most 4,000 digits. -/
import Derived.Test.YtpdlogpkfnpbpaaDoorQc
namespace Go.Proofs.YtpdlogpkfnpbpaaDoor
open Go.RowKit

set_option maxRecDepth 100000 in
set_option maxHeartbeats 4000000 in
theorem plus_q (va vb : Value) (a b : Rat) (w : World) (ha : QAt w va a) (hb : QAt w vb b) (za : QOk a) (zb : QOk b) : Calls Tryd.prog 20 #[va, vb] w (RetQ w (a + b)) := by
  obtain ⟨s, A, n, c, A', n', c', rfl⟩ := q_form ha
  obtain ⟨t, B, m, d, B', m', d', rfl⟩ := q_form hb
  obtain ⟨hs, ha1, ha2⟩ := q_parts ha
  obtain ⟨ht, hb1, hb2⟩ := q_parts hb
  have hd0 : a.den * b.den ≠ 0 := Nat.mul_ne_zero a.den_nz b.den_nz
  have z1 := dig_mul a.num.natAbs b.den
  have z2 := dig_mul b.num.natAbs a.den
  have z3 := dig_mul a.den b.den
  obtain ⟨za1, za2⟩ := za
  obtain ⟨zb1, zb2⟩ := zb
  have hm1 : s = t → a + b = Q.mk s (a.num.natAbs * b.den + b.num.natAbs * a.den) (a.den * b.den) := fun e => by rw [hs]; exact Q.add_same (by rw [← hs, ← ht, e])
  have hm2 : s ≠ t → b.num.natAbs * a.den ≤ a.num.natAbs * b.den → a + b = Q.mk s (a.num.natAbs * b.den - b.num.natAbs * a.den) (a.den * b.den) := fun e h => by rw [hs]; exact Q.add_ge (by rw [← hs, ← ht]; exact e) h
  have hm3 : s ≠ t → a.num.natAbs * b.den ≤ b.num.natAbs * a.den → a + b = Q.mk t (b.num.natAbs * a.den - a.num.natAbs * b.den) (a.den * b.den) := fun e h => by rw [ht]; exact Q.add_lt (by rw [← hs, ← ht]; exact e) h
  have HM1 := Lib.hid hm1
  have HM2 := Lib.hid hm2
  have HM3 := Lib.hid hm3
  clear hm1 hm2 hm3 hs ht ha hb
  obtain ⟨W0, hW0⟩ : ∃ W0, W0 = ((w.alloc (.cells #[.bool s, .slice A n c, .slice A' n' c'] 45)).alloc (.cells #[.bool t, .slice B m d, .slice B' m' d'] 45)).alloc (.cells #[.bool false, .slice none 0 0, .slice none 0 0] 45) := ⟨_, rfl⟩
  have hw0 : Below w.heap.size w W0 := by rw [hW0]; exact (((Below.refl _ _).alloc (Nat.le_refl _) _).alloc (by simp) _).alloc (by simp; omega) _
  have hH0 : Held 45 (w.heap.size + 1 + 1) W0 W0 := ⟨Below.refl _ _, by rw [hW0]; exact ⟨_, _, _, by simpa using heap_alloc_new ((w.alloc _).alloc _) _⟩⟩
  have hS : ∀ w', Held 45 (w.heap.size + 1 + 1) W0 w' → (Held 45 (w.heap.size + 1 + 1) W0 w' ∧ w'.cell? ⟨w.heap.size, 0, none⟩ = some (.bool s) ∧ w'.cell? ⟨w.heap.size, 1, none⟩ = some (.slice A n c) ∧ w'.cell? ⟨w.heap.size, 2, none⟩ = some (.slice A' n' c') ∧
      w'.cell? ⟨w.heap.size + 1, 0, none⟩ = some (.bool t) ∧ w'.cell? ⟨w.heap.size + 1, 1, none⟩ = some (.slice B m d) ∧ w'.cell? ⟨w.heap.size + 1, 2, none⟩ = some (.slice B' m' d')) := by
    intro w' h
    obtain ⟨b1, b2⟩ := bcell h.1
    refine ⟨h, ?_, ?_, ?_, ?_, ?_, ?_⟩ <;> (rw [b1 _ _ (by omega), hW0]; simp [go_sem])
  have HSS := Lib.hid hS
  have HW0 := Lib.hid hW0
  have HH0 := Lib.hid hH0
  have HA1 := Lib.hid ha1
  have HA2 := Lib.hid ha2
  have HB1 := Lib.hid hb1
  have HB2 := Lib.hid hb2
  clear hS ha1 ha2 hb1 hb2 hH0
  go_enter Tryd.func20, Tryd.ntmps20
  go_wp2
  rw [← HW0.out]
  clear hW0
  go_cut [5, 6, 7] (fun x y z wx => Held 45 (w.heap.size + 1 + 1) W0 wx ∧ NatAt wx x (a.num.natAbs * b.den) ∧ NatAt wx y (b.num.natAbs * a.den) ∧ NatAt wx z (a.den * b.den))
  case first =>
    go_region_held3 (fun w' => Held 45 (w.heap.size + 1 + 1) W0 w' ∧ w'.cell? ⟨w.heap.size, 0, none⟩ = some (.bool s) ∧ w'.cell? ⟨w.heap.size, 1, none⟩ = some (.slice A n c) ∧ w'.cell? ⟨w.heap.size, 2, none⟩ = some (.slice A' n' c') ∧
        w'.cell? ⟨w.heap.size + 1, 0, none⟩ = some (.bool t) ∧ w'.cell? ⟨w.heap.size + 1, 1, none⟩ = some (.slice B m d) ∧ w'.cell? ⟨w.heap.size + 1, 2, none⟩ = some (.slice B' m' d'))
      (first | exact HSS.out _ (Held.call (And.left (by assumption)) (by assumption)) | exact HSS.out _ HH0.out.drew)
      (first
        | (go_at_call_of 37 (Value.slice A n c); refine (times_any _ _ _ _ _ (HA1.out.ext ?_) (HB2.out.ext ?_) (by omega) (by omega)).mono ?_; exact Held.from (And.left (by assumption)) hw0 (by omega); exact Held.from (And.left (by assumption)) hw0 (by omega); rintro e w1 ⟨v1, rfl, hn1, hx1⟩)
        | (go_at_call_of 37 (Value.slice B m d); refine (times_any _ _ _ _ _ (HB1.out.ext ?_) (HA2.out.ext ?_) (by omega) (by omega)).mono ?_; exact Held.from (And.left (by assumption)) hw0 (by omega); exact Held.from (And.left (by assumption)) hw0 (by omega); rintro e w2 ⟨v2, rfl, hn2, hx2⟩)
        | (go_at_call_of 37 (Value.slice A' n' c'); refine (times_any _ _ _ _ _ (HA2.out.ext ?_) (HB2.out.ext ?_) (by omega) (by omega)).mono ?_; exact Held.from (And.left (by assumption)) hw0 (by omega); exact Held.from (And.left (by assumption)) hw0 (by omega); rintro e w3 ⟨v3, rfl, hn3, hx3⟩))
    all_goals
      go_wp2
      go_meet
      exact ⟨And.left (by assumption), hn1.ext (ext_trans hx2 hx3), hn2.ext hx3, hn3⟩
  case rest =>
    obtain ⟨hh, hx, hy, hz⟩ := hcut
    obtain ⟨b1, b2, b3, b4, b5, b6, b7⟩ := HSS.out _ hh
    have HX := Lib.hid hx
    have HY := Lib.hid hy
    clear hx hy
    by_cases hst : s = t
    · subst hst
      have HM := Lib.hid (HM1.out rfl)
      have hz4 := dig_add (a.num.natAbs * b.den) (b.num.natAbs * a.den) (k := 8000) (by omega) (by omega)
      go_wp2
      go_region_held3 (fun w' => Held 45 (w.heap.size + 1 + 1) W0 w' ∧ w'.cell? ⟨w.heap.size, 0, none⟩ = some (.bool s) ∧ w'.cell? ⟨w.heap.size, 1, none⟩ = some (.slice A n c) ∧ w'.cell? ⟨w.heap.size, 2, none⟩ = some (.slice A' n' c') ∧
          w'.cell? ⟨w.heap.size + 1, 0, none⟩ = some (.bool s) ∧ w'.cell? ⟨w.heap.size + 1, 1, none⟩ = some (.slice B m d) ∧ w'.cell? ⟨w.heap.size + 1, 2, none⟩ = some (.slice B' m' d'))
        (first | exact HSS.out _ (Held.call (And.left (by assumption)) (by assumption)) | exact HSS.out _ (Held.drew (by assumption)) | exact HSS.out _ (Held.store (And.left (by assumption)) _ _ _))
        (first
          | (go_at_call 39; refine (plus_any _ _ _ _ _ (HX.out.ext ?_) (HY.out.ext ?_) (by omega) (by omega)).mono ?_; exact ext_drew _; exact ext_drew _; rintro e w4 ⟨v4, rfl, hn4, hx4⟩; have hz := hz.ext (ext_trans (ext_drew _) hx4))
          | (go_at_call 38; refine (made_any _ _ _ _ _ _ hn4 ?_ (by omega) (by omega) hd0).mono ?_; exact hz; rintro e w5 ⟨v5, rfl, hq5, hx5⟩; obtain ⟨s3, A3, n3, c3, B3, m3, d3, rfl⟩ := q_form hq5; have hh5 := Held.call (And.left (by assumption)) hx5; obtain ⟨r0, r1, r2, hc, hf, hz5⟩ := hh5.2.facts))
      go_wp2
      refine bodyPost_ret (v := .agg #[.bool s3, .slice A3 n3 c3, .slice B3 m3 d3]) (by simp [results, Tryd.results20, go_sem, hc]) rfl ?_
      have hq6 : QAt w5 (.agg #[.bool s3, .slice A3 n3 c3, .slice B3 m3 d3]) (a + b) := by rw [HM.out]; exact hq5
      exact ⟨_, rfl, hq6.off3 hh5.2.typ (by decide) _ _ _, Held.from (hh5.store _ _ _) hw0 (by omega)⟩
    · have hst' : (s == t) = false := by simpa using hst
      by_cases hge : b.num.natAbs * a.den ≤ a.num.natAbs * b.den
      · have HM := Lib.hid (HM2.out hst hge)
        obtain ⟨cc, hcc, hc0⟩ := cmp_ge hge
        have HCC := Lib.hid hcc
        clear hcc
        have hz4 := Num.len_mono (Nat.sub_le (a.num.natAbs * b.den) (b.num.natAbs * a.den))
        go_wp2_with (go_at_call 40; refine (compare_any _ _ _ _ _ HX.out HY.out).mono ?_; rintro e wq ⟨he, nq, rfl⟩; rw [HCC.out] at he; subst he; have hh := hh.call (ext_drewN _ nq); have hz := hz.ext (ext_drewN _ nq); have HX := Lib.hid (HX.out.ext (ext_drewN _ nq)); have HY := Lib.hid (HY.out.ext (ext_drewN _ nq)))
        go_region_held3 (fun w' => Held 45 (w.heap.size + 1 + 1) W0 w' ∧ w'.cell? ⟨w.heap.size, 0, none⟩ = some (.bool s) ∧ w'.cell? ⟨w.heap.size, 1, none⟩ = some (.slice A n c) ∧ w'.cell? ⟨w.heap.size, 2, none⟩ = some (.slice A' n' c') ∧
          w'.cell? ⟨w.heap.size + 1, 0, none⟩ = some (.bool t) ∧ w'.cell? ⟨w.heap.size + 1, 1, none⟩ = some (.slice B m d) ∧ w'.cell? ⟨w.heap.size + 1, 2, none⟩ = some (.slice B' m' d'))
          (first | exact HSS.out _ (Held.call (And.left (by assumption)) (by assumption)) | exact HSS.out _ (Held.drew (by assumption)) | exact HSS.out _ (Held.store (And.left (by assumption)) _ _ _))
          (first
            | (go_at_call 41; refine (less_any _ _ _ _ _ (HX.out.ext ?_) (HY.out.ext ?_) (by omega) hge).mono ?_; exact ext_drew _; exact ext_drew _; rintro e w4 ⟨v4, rfl, hn4, hx4, _⟩; have hz := hz.ext (ext_trans (ext_drew _) hx4))
            | (go_at_call 38; refine (made_any _ _ _ _ _ _ hn4 ?_ (by omega) (by omega) hd0).mono ?_; exact hz; rintro e w5 ⟨v5, rfl, hq5, hx5⟩; obtain ⟨s3, A3, n3, c3, B3, m3, d3, rfl⟩ := q_form hq5; have hh5 := Held.call (And.left (by assumption)) hx5; obtain ⟨r0, r1, r2, hc, hf, hz5⟩ := hh5.2.facts))
        go_wp2
        refine bodyPost_ret (v := .agg #[.bool s3, .slice A3 n3 c3, .slice B3 m3 d3]) (by simp [results, Tryd.results20, go_sem, hc]) rfl ?_
        have hq6 : QAt w5 (.agg #[.bool s3, .slice A3 n3 c3, .slice B3 m3 d3]) (a + b) := by rw [HM.out]; exact hq5
        exact ⟨_, rfl, hq6.off3 hh5.2.typ (by decide) _ _ _, Held.from (hh5.store _ _ _) hw0 (by omega)⟩
      · have hle : a.num.natAbs * b.den ≤ b.num.natAbs * a.den := by omega
        have HM := Lib.hid (HM3.out hst hle)
        have HCC := Lib.hid (Num.cmpI_lt (show a.num.natAbs * b.den < b.num.natAbs * a.den by omega))
        have hz4 := Num.len_mono (Nat.sub_le (b.num.natAbs * a.den) (a.num.natAbs * b.den))
        go_wp2_with (go_at_call 40; refine (compare_any _ _ _ _ _ HX.out HY.out).mono ?_; rintro e wq ⟨he, nq, rfl⟩; rw [HCC.out] at he; subst he; have hh := hh.call (ext_drewN _ nq); have hz := hz.ext (ext_drewN _ nq); have HX := Lib.hid (HX.out.ext (ext_drewN _ nq)); have HY := Lib.hid (HY.out.ext (ext_drewN _ nq)))
        go_region_held3 (fun w' => Held 45 (w.heap.size + 1 + 1) W0 w' ∧ w'.cell? ⟨w.heap.size, 0, none⟩ = some (.bool s) ∧ w'.cell? ⟨w.heap.size, 1, none⟩ = some (.slice A n c) ∧ w'.cell? ⟨w.heap.size, 2, none⟩ = some (.slice A' n' c') ∧
          w'.cell? ⟨w.heap.size + 1, 0, none⟩ = some (.bool t) ∧ w'.cell? ⟨w.heap.size + 1, 1, none⟩ = some (.slice B m d) ∧ w'.cell? ⟨w.heap.size + 1, 2, none⟩ = some (.slice B' m' d'))
          (first | exact HSS.out _ (Held.call (And.left (by assumption)) (by assumption)) | exact HSS.out _ (Held.drew (by assumption)) | exact HSS.out _ (Held.store (And.left (by assumption)) _ _ _))
          (first
            | (go_at_call 41; refine (less_any _ _ _ _ _ (HY.out.ext ?_) (HX.out.ext ?_) (by omega) hle).mono ?_; exact ext_drew _; exact ext_drew _; rintro e w4 ⟨v4, rfl, hn4, hx4, _⟩; have hz := hz.ext (ext_trans (ext_drew _) hx4))
            | (go_at_call 38; refine (made_any _ _ _ _ _ _ hn4 ?_ (by omega) (by omega) hd0).mono ?_; exact hz; rintro e w5 ⟨v5, rfl, hq5, hx5⟩; obtain ⟨s3, A3, n3, c3, B3, m3, d3, rfl⟩ := q_form hq5; have hh5 := Held.call (And.left (by assumption)) hx5; obtain ⟨r0, r1, r2, hc, hf, hz5⟩ := hh5.2.facts))
        go_wp2
        refine bodyPost_ret (v := .agg #[.bool s3, .slice A3 n3 c3, .slice B3 m3 d3]) (by simp [results, Tryd.results20, go_sem, hc]) rfl ?_
        have hq6 : QAt w5 (.agg #[.bool s3, .slice A3 n3 c3, .slice B3 m3 d3]) (a + b) := by rw [HM.out]; exact hq5
        exact ⟨_, rfl, hq6.off3 hh5.2.typ (by decide) _ _ _, Held.from (hh5.store _ _ _) hw0 (by omega)⟩
end Go.Proofs.YtpdlogpkfnpbpaaDoor
