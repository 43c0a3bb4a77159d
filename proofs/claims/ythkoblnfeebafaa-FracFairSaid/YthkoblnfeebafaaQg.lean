/- Walks of the reference's Whole, Frac, answer, Of on rationals. Conditions: the parts lie in memory as naturals of at most 4,000 digits. -/
import Derived.Test.YthkoblnfeebafaaQf
namespace Go.Proofs.Ythkoblnfeebafaa
open Go.RowKit

theorem dig_single {n : Nat} (h : (Num.dig n).length = 1) : ∃ d, Num.dig n = [d] ∧ d = n := by
  match hd : Num.dig n, h with
  | [d], _ =>
    have := Num.val_dig n
    rw [hd] at this
    simp [Num.val] at this
    exact ⟨d, rfl, this⟩

set_option maxHeartbeats 1000000 in
theorem whole_yes (v : Value) (q : Rat) (w : World) (hq : QAt w v q) (h1 : q.den = 1) (h2 : q.num.natAbs ≤ 4611686018427387904) :
    Calls Try.prog 37 #[v] w fun e w' => e = .returned (.tuple #[.int .i64 q.num, .bool true]) ∧ Below w.heap.size w w' := by
  obtain ⟨s, A, n, c, A', n', c', rfl⟩ := q_form hq
  obtain ⟨hs, hn, hd⟩ := q_parts hq
  rw [h1] at hd
  obtain ⟨A2, c2, e2, hc2, hm2, hs2⟩ := hd
  rw [dig_one] at e2 hs2 hc2
  simp only [u32s, List.map_cons, List.map_nil, List.length_cons, List.length_nil] at e2 hc2
  injection e2 with e3 e4 e5
  subst e3 e4 e5
  obtain ⟨b, off, rfl, hlt, hcell⟩ := hs2.at_ (k := 0) (by simp [u32s])
  have hx0 : ∀ x, Below w.heap.size w (w.alloc x) := fun x => (Below.refl _ _).alloc (Nat.le_refl _) _
  have HX0 := Lib.hid hx0
  have HN := Lib.hid hn
  have hcell' : w.cell? ⟨b, off, none⟩ = some (.int .u32 1) := by simpa [u32s] using hcell
  have hce : ∀ x, (w.alloc x).cell? ⟨b, off, none⟩ = some (.int .u32 1) := fun x => ((hx0 x).cell (p := ⟨b, off, none⟩) hlt).trans hcell'
  have H2 := Lib.hid h2
  clear hx0 hn hcell hcell' hs2 hq h2 h1
  by_cases hneg : q.num < 0
  · rw [decide_eq_true hneg] at hs
    subst hs
    have e : (q.num.natAbs : Int) = -q.num := by omega
    have E := Lib.hid e
    have H3 := Lib.hid (show q.num ≥ -4611686018427387904 by have := H2.out; omega)
    clear e
    go_enter Try.func37, Try.ntmps37
    go_wp2_with (go_at_call 84; refine (small_yes _ _ _ (HN.out.ext (HX0.out _)) H2.out).mono ?_; rintro e w1 ⟨rfl, rfl⟩; rw [E.out]; have h3 := H3.out)
    go_ret2
    exact ⟨by simp, HX0.out _⟩
  · rw [decide_eq_false hneg] at hs
    subst hs
    have e : (q.num.natAbs : Int) = q.num := by omega
    have E := Lib.hid e
    clear e
    go_enter Try.func37, Try.ntmps37
    go_wp2_with (go_at_call 84; refine (small_yes _ _ _ (HN.out.ext (HX0.out _)) H2.out).mono ?_; rintro e w1 ⟨rfl, rfl⟩; rw [E.out])
    go_ret2
    exact ⟨rfl, HX0.out _⟩

set_option maxHeartbeats 1000000 in
theorem whole_no (v : Value) (q : Rat) (w : World) (hq : QAt w v q) (h1 : ¬ (q.den = 1 ∧ q.num.natAbs ≤ 4611686018427387904)) :
    Calls Try.prog 37 #[v] w fun e w' => e = .returned (.tuple #[.int .i64 0, .bool false]) ∧ Below w.heap.size w w' := by
  obtain ⟨s, A, n, c, A', n', c', rfl⟩ := q_form hq
  obtain ⟨hs, hn, hd⟩ := q_parts hq
  have hx0 : ∀ x, Below w.heap.size w (w.alloc x) := fun x => (Below.refl _ _).alloc (Nat.le_refl _) _
  have HX0 := Lib.hid hx0
  have HN := Lib.hid hn
  by_cases h2 : q.num.natAbs ≤ 4611686018427387904
  · have h3 : q.den ≠ 1 := fun h => h1 ⟨h, h2⟩
    have H2 := Lib.hid h2
    have hl : n' = (Num.dig q.den).length := by obtain ⟨_, _, h⟩ := natAt_len hd; injection h
    by_cases h4 : n' = 1
    · rw [hl] at h4
      obtain ⟨d, h5, h6⟩ := dig_single h4
      obtain ⟨A2, c2, e2, hc2, hm2, hs2⟩ := hd
      rw [h5] at e2 hs2 hc2
      simp only [u32s, List.map_cons, List.map_nil, List.length_cons, List.length_nil] at e2 hc2
      injection e2 with e3 e4 e5
      subst e3 e4 e5
      obtain ⟨b, off, rfl, hlt, hcell⟩ := hs2.at_ (k := 0) (by simp [u32s])
      have hcell' : w.cell? ⟨b, off, none⟩ = some (.int .u32 (d : Int)) := by simpa [u32s] using hcell
      have hce : ∀ x, (w.alloc x).cell? ⟨b, off, none⟩ = some (.int .u32 (d : Int)) := fun x => ((hx0 x).cell (p := ⟨b, off, none⟩) hlt).trans hcell'
      have hd1 : ((d : Int) != 1) = true := by simp; omega
      clear hx0 hn hcell hcell' hs2 hq h2 h1 hs h3 h4 h5 h6 hl
      go_enter Try.func37, Try.ntmps37
      go_wp2_with (go_at_call 84; refine (small_yes _ _ _ (HN.out.ext (HX0.out _)) H2.out).mono ?_; rintro e w1 ⟨rfl, rfl⟩)
      go_ret2
      exact ⟨rfl, HX0.out _⟩
    · have h5 : ((n' : Int) != 1) = true := by simp; omega
      clear hx0 hn hq h2 h1 hs h3 hd hl h4
      go_enter Try.func37, Try.ntmps37
      go_wp2_with (go_at_call 84; refine (small_yes _ _ _ (HN.out.ext (HX0.out _)) H2.out).mono ?_; rintro e w1 ⟨rfl, rfl⟩)
      go_ret2
      exact ⟨rfl, HX0.out _⟩
  · have H2 := Lib.hid h2
    clear hx0 hn hq h2 h1 hs hd
    go_enter Try.func37, Try.ntmps37
    go_wp2_with (go_at_call 84; refine (small_no _ _ _ (HN.out.ext (HX0.out _)) H2.out).mono ?_; rintro e w1 ⟨rfl, rfl⟩)
    go_ret2
    exact ⟨rfl, HX0.out _⟩
end Go.Proofs.Ythkoblnfeebafaa
