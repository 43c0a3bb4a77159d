/- slices.swapRangeCmpFunc and rotateCmpFunc walked. Conditions: the ranges lie within the row. -/
import Derived.Test.YthkoblnfeebafaaMa
namespace Go.Proofs.Ythkoblnfeebafaa
open Go.RowKit

set_option maxRecDepth 100000 in
set_option maxHeartbeats 2000000 in
theorem swr_any (b n : Nat) (d : Nat → Int) (a c k : Nat) (x y z : Int) (f : Value) (w : World) (hw : Ow b n d w) (hn : n ≤ 1000000) (h1 : a + k ≤ c) (h2 : c + k ≤ n) (hx : x = a) (hy : y = c) (hz : z = k) :
    Calls Try.prog 115 #[.slice (some ⟨b, 0, none⟩) n n, .int .i64 x, .int .i64 y, .int .i64 z, f] w fun e w' => e = .returned (.tuple #[]) ∧ Fr b w w' ∧ Ow b n (swr d a c k) w' := by
  subst hx hy hz
  have HW := Lib.hid hw
  clear hw
  go_enter Try.func115, Try.ntmps115
  go_wp2
  go_loopg [10] k (fun g i wr => ∃ j : Nat, i = .int .i64 j ∧ j ≤ k ∧ g = k - j ∧ Fr b w wr ∧ Ow b n (swr d a c j) wr)
  case atStart => exact ⟨0, rfl, by omega, by omega, Fr.refl _ _, by rw [swr_zero]; exact HW.out⟩
  case round =>
    obtain ⟨j, rfl, hj, hg, hfr, how⟩ := hrel
    have HG := Lib.hid hg
    have HFR := Lib.hid hfr
    have HOW := Lib.hid how
    by_cases hlt : j < k
    · have c1 := how.cell (i := a + j) (by omega)
      have c2 := how.cell (i := c + j) (by omega)
      have f1 := how.frozen (a + j)
      have f2 := how.frozen (c + j)
      have HUP := Lib.hid (swr_succ (d := d) (a := a) (c := c) (i := j) (by omega))
      have HS := Lib.hid ((how.set (a + j) (swr d a c j (c + j))).set (c + j) (swr d a c j (a + j)))
      generalize swr d a c j (a + j) = u at *
      generalize swr d a c j (c + j) = v at *
      have i1 : (0 : Int) ≤ (a : Int) + (j : Int) := by omega
      have i2 : (a : Int) + (j : Int) < (n : Int) := by omega
      have i3 : (0 : Int) ≤ (c : Int) + (j : Int) := by omega
      have i4 : (c : Int) + (j : Int) < (n : Int) := by omega
      clear hg hfr how
      go_wp2
      go_region
      all_goals
        go_wp2
        go_roundg (k - (j + 1))
        case measure => have := HG.out; omega
        case rel => exact ⟨j + 1, by go_num, by omega, rfl, ((HFR.out.set _ _).set _ _).trans (Fr.below (ext_drew _)), by rw [← HUP.out]; exact HS.out.ext (ext_drew _)⟩
    · obtain rfl : j = k := by omega
      go_wp2
      go_end0
      exact ⟨rfl, HFR.out, HOW.out⟩

set_option maxRecDepth 100000 in
set_option maxHeartbeats 2000000 in
theorem rot_any (b n : Nat) (d : Nat → Int) (a m c : Nat) (x y z : Int) (f : Value) (w : World) (hw : Ow b n d w) (hn : n ≤ 1000000) (h1 : a < m) (h2 : m < c) (h3 : c ≤ n) (hx : x = a) (hy : y = m) (hz : z = c) :
    Calls Try.prog 114 #[.slice (some ⟨b, 0, none⟩) n n, .int .i64 x, .int .i64 y, .int .i64 z, f] w fun e w' => e = .returned (.tuple #[]) ∧ Fr b w w' ∧ Ow b n (rot d a m c) w' := by
  subst hx hy hz
  have HW := Lib.hid hw
  have HSW := Lib.hid (fun d a c k x y z W (h : Ow b n d W) h1 h2 hx hy hz => swr_any b n d a c k x y z f W h hn h1 h2 hx hy hz)
  clear hw
  go_enter Try.func114, Try.ntmps114
  go_wp2
  go_loopg [10, 11] (c - a) (fun g z1 z2 wr => ∃ (i j : Nat) (d' : Nat → Int), z1 = .int .i64 i ∧ z2 = .int .i64 j ∧ g = i + j ∧ 1 ≤ i ∧ 1 ≤ j ∧ a + i ≤ m ∧ m + j ≤ c ∧ Fr b w wr ∧ Ow b n d' wr ∧ rot d' (m - i) m (m + j) = rot d a m c)
  case atStart => exact ⟨m - a, c - m, d, by go_num, by go_num, by omega, by omega, by omega, by omega, by omega, Fr.refl _ _, HW.out, by rw [show m - (m - a) = a by omega, show m + (c - m) = c by omega]⟩
  case round =>
    obtain ⟨i, j, d', rfl, rfl, hg, i1, j1, hi, hj, hfr, how, hrot⟩ := hrel
    have HG := Lib.hid hg
    have HFR := Lib.hid hfr
    have HOW := Lib.hid how
    have HROT := Lib.hid hrot
    clear hg hfr how hrot
    by_cases hij : i = j
    · subst hij
      go_wp2_with (go_at_call 115; refine (HSW.out d' (m - i) m i _ _ _ _ HOW.out (by omega) (by omega) (by omega) (by omega) (by omega)).mono ?_; rintro e w1 ⟨rfl, hfr1, how1⟩)
      go_end0
      refine ⟨rfl, HFR.out.trans hfr1, ?_⟩
      rw [← HROT.out, ← rot_end (by omega)]
      exact how1
    · have hne : ((i : Int) == (j : Int)) = false := by simp; omega
      by_cases hlt : j < i
      · have hl2 : (j : Int) < (i : Int) := by omega
        go_wp2_with (go_at_call 115; refine (HSW.out d' (m - i) m j _ _ _ _ HOW.out (by omega) (by omega) (by omega) (by omega) (by omega)).mono ?_; rintro e w1 ⟨rfl, hfr1, how1⟩)
        go_roundg ((i - j) + j)
        case measure => have := HG.out; omega
        case rel => exact ⟨i - j, j, _, by go_num, rfl, rfl, by omega, j1, by omega, hj, HFR.out.trans hfr1, how1, by rw [← HROT.out, rot_left hlt (by omega)]⟩
      · have hl2 : ¬ (j : Int) < (i : Int) := by omega
        go_wp2_with (go_at_call 115; refine (HSW.out d' (m - i) (m + j - i) i _ _ _ _ HOW.out (by omega) (by omega) (by omega) (by omega) (by omega)).mono ?_; rintro e w1 ⟨rfl, hfr1, how1⟩)
        go_roundg (i + (j - i))
        case measure => have := HG.out; omega
        case rel => exact ⟨i, j - i, _, rfl, by go_num, rfl, i1, by omega, hi, by omega, HFR.out.trans hfr1, how1, by rw [← HROT.out, rot_right (by omega) (by omega)]⟩
end Go.Proofs.Ythkoblnfeebafaa
