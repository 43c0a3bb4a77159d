/- Walks of frac's Add; the law's awake. Conditions: the arguments are within their kinds. -/
import Derived.Test.YtpdlogpkfnpbpaaDoorFd
namespace Go.Proofs.YtpdlogpkfnpbpaaDoor
open Go.RowKit

def rat (n d : Int) : Rat := (n : Rat) / (d : Rat)
theorem valid2_any (an ad bn bd : Int) (W : World) (g : Nat) (hg : g = W.heap.size) (ha1 : IsI an) (ha2 : IsI ad) (hb1 : IsI bn) (hb2 : IsI bd) :
    Calls Tryd.prog 29 #[.slice (some ⟨g, 0, none⟩) 2 2] (W.alloc (.cells #[.int .i64 an, .int .i64 ad, .int .i64 bn, .int .i64 bd] 23))
      fun e w' => e = .returned (.bool (vldB an ad && vldB bn bd)) ∧ Below W.heap.size W w' := by
  subst hg
  refine (validl_any (some ⟨W.heap.size, 0, none⟩) 2 [(an, ad), (bn, bd)] _ (by simp) (.inr ⟨W.heap.size, 0, rfl, by simp, ?_⟩) ?_).mono fun e w' ⟨h1, h2⟩ => ⟨by rw [h1]; simp [AllV], ext_trans ((Below.refl _ _).alloc (Nat.le_refl _) _) h2⟩
  · intro j hj
    match j, hj with
    | 0, _ => exact ⟨by simp, by simp⟩
    | 1, _ => exact ⟨by simp, by simp⟩
  · intro x hx
    simp only [List.mem_cons, List.not_mem_nil, or_false] at hx
    rcases hx with rfl | rfl
    · exact ⟨ha1, ha2⟩
    · exact ⟨hb1, hb2⟩

theorem mul_bd {x y : Int} (h1 : -1000000000 ≤ x) (h2 : x ≤ 1000000000) (h3 : 1 ≤ y) (h4 : y ≤ 1000000000) : -1000000000000000000 ≤ x * y ∧ x * y ≤ 1000000000000000000 := by
  have a1 : x * y ≤ 1000000000 * y := Int.mul_le_mul_of_nonneg_right h2 (by omega)
  have a2 : -1000000000 * y ≤ x * y := Int.mul_le_mul_of_nonneg_right h1 (by omega)
  omega
theorem mul_pos_bd {x y : Int} (h1 : 1 ≤ x) (h2 : x ≤ 1000000000) (h3 : 1 ≤ y) (h4 : y ≤ 1000000000) : 1 ≤ x * y ∧ x * y ≤ 1000000000000000000 := by
  have a1 : x * y ≤ 1000000000 * y := Int.mul_le_mul_of_nonneg_right h2 (by omega)
  have a2 : 1 * y ≤ x * y := Int.mul_le_mul_of_nonneg_right h1 (by omega)
  omega
theorem isI_of {n : Int} (h1 : -9223372036854775808 ≤ n) (h2 : n ≤ 9223372036854775807) : IsI n := ⟨h1, h2⟩
theorem vld_and {an ad bn bd : Int} (h : (vldB an ad && vldB bn bd) = true) : Vld an ad ∧ Vld bn bd := by
  rw [Bool.and_eq_true] at h
  exact ⟨of_decide_eq_true h.1, of_decide_eq_true h.2⟩
theorem cast_ne {d : Int} (h : 1 ≤ d) : (d : Rat) ≠ 0 := by intro h0; have := Rat.intCast_eq_zero_iff.1 h0; omega
theorem add_rat {an ad bn bd : Int} (h1 : 1 ≤ ad) (h2 : 1 ≤ bd) : ((an * bd + bn * ad : Int) : Rat) / ((ad * bd : Int) : Rat) = rat an ad + rat bn bd := by
  have e1 := cast_ne h1
  have e2 := cast_ne h2
  unfold rat
  rw [Rat.intCast_add, Rat.intCast_mul, Rat.intCast_mul, Rat.intCast_mul]
  grind

/-- three blocks that a call has made, seen later -/
theorem three_cells {w w' : World} {cs ds es : Array Value} {T U V : TypeId} (hb : Below (((w.alloc (.cells cs T)).alloc (.cells ds U)).alloc (.cells es V)).heap.size (((w.alloc (.cells cs T)).alloc (.cells ds U)).alloc (.cells es V)) w') :
    (∀ i, w'.cell? ⟨w.heap.size, i, none⟩ = cs[i]?) ∧ (∀ i, w'.cell? ⟨w.heap.size + 1, i, none⟩ = ds[i]?) ∧ (∀ i, w'.cell? ⟨w.heap.size + 1 + 1, i, none⟩ = es[i]?) ∧ (∀ i, w'.frozen? ⟨w.heap.size + 1 + 1, i, none⟩ = false) ∧ w.heap.size + 1 + 1 < w'.heap.size := by
  have hsz : (((w.alloc (.cells cs T)).alloc (.cells ds U)).alloc (.cells es V)).heap.size = w.heap.size + 3 := by simp
  refine ⟨fun i => ?_, fun i => ?_, fun i => ?_, fun i => ?_, by have := hb.size; omega⟩
  · rw [hb.cell (p := ⟨w.heap.size, i, none⟩) (by rw [hsz]; exact Nat.lt_add_of_pos_right (by omega))]; simp [go_sem]
  · rw [hb.cell (p := ⟨w.heap.size + 1, i, none⟩) (by rw [hsz]; show w.heap.size + 1 < w.heap.size + 3; omega)]; simp [go_sem]
  · rw [hb.cell (p := ⟨w.heap.size + 1 + 1, i, none⟩) (by rw [hsz]; show w.heap.size + 1 + 1 < w.heap.size + 3; omega)]; simp [go_sem]
  · rw [hb.frozen (p := ⟨w.heap.size + 1 + 1, i, none⟩) (by rw [hsz]; show w.heap.size + 1 + 1 < w.heap.size + 3; omega)]; simp [go_sem]

/-- two fractions and a reckoning -/
noncomputable def two (an ad bn bd : Int) (q : Rat) : Int × Int × Int := if (vldB an ad && vldB bn bd) = true then ans q else (0, 0, 2)

set_option maxRecDepth 100000 in
set_option maxHeartbeats 400000 in
theorem add_any (an ad bn bd : Int) (w : World) (ha1 : IsI an) (ha2 : IsI ad) (hb1 : IsI bn) (hb2 : IsI bd) :
    Calls Tryd.prog 13 #[frv an ad, frv bn bd] w (RetA w (two an ad bn bd (rat an ad + rat bn bd))) := by
  have HV := Lib.hid (fun W g hg => valid2_any an ad bn bd W g hg ha1 ha2 hb1 hb2)
  clear ha1 ha2 hb1 hb2
  have hx0 : ∀ x y z, Below w.heap.size w (((w.alloc x).alloc y).alloc z) := fun x y z => (((Below.refl _ _).alloc (Nat.le_refl _) _).alloc (by simp) _).alloc (by simp; omega) _
  have HX0 := Lib.hid hx0
  clear hx0
  unfold frv two
  cases hv : (vldB an ad && vldB bn bd)
  · rw [if_neg (by simp)]
    rw [hv] at HV
    clear hv
    go_enter Tryd.func13, Tryd.ntmps13
    go_wp2_with (first
      | (go_at_call 29; refine (HV.out _ _ (by simp)).mono ?_; rintro e w1 ⟨rfl, hx1⟩; obtain ⟨k1, k2, k3, k4, k5⟩ := three_cells hx1))
    refine bodyPost_ret (v := .tuple #[.agg #[.int .i64 0, .int .i64 0], .int .i64 2]) (by simp [results, Tryd.results13, go_sem, k3]) rfl ?_
    exact ⟨rfl, below2 (ext_trans (HX0.out _ _ _) hx1) (by omega) _ _⟩
  · rw [if_pos rfl]
    obtain ⟨⟨a1, a2, a3, a4, _⟩, b1, b2, b3, b4, _⟩ := vld_and hv
    obtain ⟨p1, p2⟩ := mul_bd a3 a4 b1 b2
    obtain ⟨p3, p4⟩ := mul_bd b3 b4 a1 a2
    obtain ⟨p5, p6⟩ := mul_pos_bd a1 a2 b1 b2
    rw [hv] at HV
    have hz := fun W => rfrac_any (an * bd + bn * ad) (ad * bd) W ⟨by omega, by omega⟩ ⟨by omega, by omega⟩ (by omega)
    rw [add_rat a1 b1] at hz
    have HZ := Lib.hid hz
    generalize ans (rat an ad + rat bn bd) = a at *
    clear hz hv
    go_enter Tryd.func13, Tryd.ntmps13
    go_wp2_with (first
      | (go_at_call 29; refine (HV.out _ _ (by simp)).mono ?_; rintro e w1 ⟨rfl, hx1⟩; obtain ⟨k1, k2, k3, k4, k5⟩ := three_cells hx1)
      | (go_at_call 30; refine (HZ.out _).mono ?_; unfold RetA frv; rintro e w2 ⟨rfl, hx2⟩; have E2 := ext_trans hx1 hx2; obtain ⟨k1, k2, k3, k4, k5⟩ := three_cells E2))
    refine bodyPost_ret (v := .tuple #[.agg #[.int .i64 a.1, .int .i64 a.2.1], .int .i64 a.2.2]) (by simp [results, Tryd.results13, go_sem, k3]) rfl ?_
    exact ⟨rfl, below2 (ext_trans (HX0.out _ _ _) E2) (by omega) _ _⟩
end Go.Proofs.YtpdlogpkfnpbpaaDoor
