/- Walks of the reference's answer, Of on rationals. Conditions: the parts lie in memory as naturals of at most 4,000 digits. -/
import Derived.Test.YtpdlogpkfnpbpaaDoorQh
namespace Go.Proofs.YtpdlogpkfnpbpaaDoor
open Go.RowKit

open Classical in
/-- a rational as a result: the fraction, or the error 5 -/
noncomputable def ans (q : Rat) : Int × Int × Int := if InQ q then (q.num, q.den, 0) else (0, 0, 5)
theorem ans_yes {q : Rat} (h : InQ q) : ans q = (q.num, (q.den : Int), 0) := by unfold ans; rw [if_pos h]
theorem ans_no {q : Rat} (h : ¬ InQ q) : ans q = (0, 0, 5) := by unfold ans; rw [if_neg h]
/-- a fraction and an error handed back -/
def RetA (w : World) (x : Int × Int × Int) (e : Ending) (w' : World) : Prop := e = .returned (.tuple #[frv x.1 x.2.1, .int .i64 x.2.2]) ∧ Below w.heap.size w w'

theorem below2 {w0 w : World} {g : Nat} {B : Nat} (h : Below B w0 w) (hB : B ≤ g) (x y : Value) : Below B w0 ((w.setCell ⟨g, 0, none⟩ x).setCell ⟨g, 1, none⟩ y) := (h.setCell hB _).setCell hB _

theorem qok_int {n : Int} (h : -9223372036854775808 ≤ n) (h' : n ≤ 9223372036854775807) : QOk (n : Rat) := by
  unfold QOk
  rw [Rat.num_intCast, Rat.den_intCast]
  have := len_small (abs_small h h')
  exact ⟨by omega, len_one'⟩

set_option maxRecDepth 100000 in
set_option maxHeartbeats 4000000 in
theorem of_any (n d : Int) (w : World) (hn : -9223372036854775808 ≤ n) (hn' : n ≤ 9223372036854775807) (hd : -9223372036854775808 ≤ d) (hd' : d ≤ 9223372036854775807) (h0 : d ≠ 0) :
    Calls Tryd.prog 28 #[frv n d] w (RetQ w ((n : Rat) / (d : Rat))) := by
  have z1 := qok_int hn hn'
  have z2 := qok_int hd hd'
  have hne : (d : Rat) ≠ 0 := by intro h; exact h0 (Rat.intCast_eq_zero_iff.1 h)
  unfold frv
  obtain ⟨W0, hW0⟩ : ∃ W0, W0 = (w.alloc (.cells #[.int .i64 n, .int .i64 d] 23)).alloc (.cells #[.bool false, .slice none 0 0, .slice none 0 0] 45) := ⟨_, rfl⟩
  have hw0 : Below w.heap.size w W0 := by rw [hW0]; exact ((Below.refl _ _).alloc (Nat.le_refl _) _).alloc (by simp) _
  have hH0 : Held 45 (w.heap.size + 1) W0 W0 := ⟨Below.refl _ _, by rw [hW0]; exact ⟨_, _, _, by simpa using heap_alloc_new (w.alloc _) _⟩⟩
  have hS : ∀ w', Held 45 (w.heap.size + 1) W0 w' → (Held 45 (w.heap.size + 1) W0 w' ∧ w'.cell? ⟨w.heap.size, 0, none⟩ = some (.int .i64 n) ∧ w'.cell? ⟨w.heap.size, 1, none⟩ = some (.int .i64 d)) := by
    intro w' h
    obtain ⟨b1, b2⟩ := bcell h.1
    refine ⟨h, ?_, ?_⟩ <;> (rw [b1 _ _ (by omega), hW0]; simp [go_sem])
  have HSS := Lib.hid hS
  have HW0 := Lib.hid hW0
  have HH0 := Lib.hid hH0
  clear hS hH0
  go_enter Tryd.func28, Tryd.ntmps28
  go_wp2
  rw [← HW0.out]
  clear hW0
  go_region_held3 (fun w' => Held 45 (w.heap.size + 1) W0 w' ∧ w'.cell? ⟨w.heap.size, 0, none⟩ = some (.int .i64 n) ∧ w'.cell? ⟨w.heap.size, 1, none⟩ = some (.int .i64 d))
    (first | exact HSS.out _ (Held.call (And.left (by assumption)) (by assumption)) | exact HSS.out _ HH0.out.drew | exact HSS.out _ (Held.store (And.left (by assumption)) _ _ _))
    (first
      | (go_at_call_of 21 n; refine (int_any n _ hn hn').mono ?_; rintro e w1 ⟨v1, rfl, hq1, hx1⟩; obtain ⟨s1, A1, n1, c1, B1, m1, d1, rfl⟩ := q_form hq1)
      | (go_at_call_of 21 d; refine (int_any d _ hd hd').mono ?_; rintro e w2 ⟨v2, rfl, hq2, hx2⟩; obtain ⟨s2, A2, n2, c2, B2, m2, d2, rfl⟩ := q_form hq2)
      | (go_at_call 22; refine (over_any _ _ (n : Rat) (d : Rat) _ ?_ ?_ z1 z2 hne).mono ?_; (first | exact hq1 | exact hq1.ext (by assumption)); (first | exact hq2 | exact hq2.ext (by assumption)); rintro e w3 ⟨v3, rfl, hq3, hx3⟩; obtain ⟨s3, A3, n3, c3, B3, m3, d3, rfl⟩ := q_form hq3; have hh3 := Held.call (And.left (by assumption)) hx3; obtain ⟨r0, r1, r2, hc, hf, hz⟩ := hh3.2.facts))
  all_goals
    go_wp2
    refine bodyPost_ret (v := .agg #[.bool s3, .slice A3 n3 c3, .slice B3 m3 d3]) (by simp [results, Tryd.results28, go_sem, hc]) rfl ?_
    exact ⟨_, rfl, hq3.off3 hh3.2.typ (by decide) _ _ _, Held.from (hh3.store _ _ _) hw0 (by omega)⟩
end Go.Proofs.YtpdlogpkfnpbpaaDoor
