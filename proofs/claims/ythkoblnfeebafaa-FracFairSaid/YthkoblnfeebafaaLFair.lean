/- FracFair walked. No conditions but that the parts are within int. -/
import Derived.Test.YthkoblnfeebafaaMs
import Derived.Test.YthkoblnfeebafaaFg
namespace Go.Proofs.Ythkoblnfeebafaa
open Go.RowKit

theorem Ord.pos {nn : Int} {v : List Int} {d : Nat → Int} (h : Ord nn v d) (hg : ShG nn v) {j : Nat} (hj : j < lft nn v) : 0 < keyW nn v (d j) := by
  obtain ⟨d0, h0, hw, hd⟩ := h
  have hl := lft_ok (nn := nn) hg.2.2.2
  refine first_pos (n := nn) (s := sumW v) (x := wt v) (m := v.length) rfl hg.2.2.2 (fun i hi => ?_) hw hd (fun i hi => ?_) (by have := hl.1; unfold quo at this; omega)
  · rw [h0 i hi]; unfold keyW; rw [Int.toNat_natCast]; rfl
  · exact ⟨Int.emod_nonneg _ (by have := hg.2.2.2; omega), Int.emod_lt_of_pos _ (by have := hg.2.2.2; omega)⟩
/-- a share is its quota, or one more; nothing for a weight of 0 -/
theorem shs_fair {nn : Int} {v : List Int} {d : Nat → Int} (h : Ord nn v d) (hg : ShG nn v) {i : Nat} (hi : i < v.length) :
    quo nn v i ≤ OO (quo nn v) d (lft nn v) i ∧ OO (quo nn v) d (lft nn v) i ≤ quo nn v i + 1 ∧ (wt v i = 0 → OO (quo nn v) d (lft nn v) i = 0) := by
  have hl := lft_ok (nn := nn) hg.2.2.2
  obtain ⟨h1, h2⟩ := OO_one (q := quo nn v) h.inj h.range (lft nn v) hl.2 i
  by_cases hc : ∃ j, j < lft nn v ∧ d j = i
  · rw [h1 hc]
    refine ⟨by omega, by omega, fun h0 => ?_⟩
    obtain ⟨j, j1, j2⟩ := hc
    have hp := h.pos hg j1
    rw [j2] at hp
    unfold keyW at hp
    rw [Int.toNat_natCast, show v.getD i 0 = wt v i from rfl, h0] at hp
    simp at hp
  · rw [h2 hc]
    refine ⟨by omega, by omega, fun h0 => ?_⟩
    unfold quo
    rw [h0]; simp
theorem shs_all {nn : Int} {v : List Int} {d : Nat → Int} (h : Ord nn v d) (hg : ShG nn v) : sumTo (OO (quo nn v) d (lft nn v)) v.length = nn := by
  have hl := lft_ok (nn := nn) hg.2.2.2
  rw [OO_sum h.range _ hl.2]
  omega

set_option maxRecDepth 100000 in
set_option maxHeartbeats 4000000 in
theorem law_fair (nn : Int) (A : Option Addr) (c : Nat) (v : List Int) (w : World) (hn : IsI nn) (hA : v.length ≤ c ∧ c ≤ 9223372036854775807 ∧ ISl w A v ∧ ∀ x ∈ v, IsI x) :
    Calls Try.prog 18 #[.int .i64 nn, .slice A v.length c] w fun e w' => e = .returned (.bool true) ∧ Below w.heap.size w w' := by
  obtain ⟨hc, hcm, his, hiv⟩ := hA
  have h1 := share_any nn A c v w hn hiv hc hcm his
  by_cases hgo : ShG nn v
  · have g1 : Calls Try.prog 71 #[.int .i64 nn, .slice A v.length c] w fun e w' => ∃ (d : Nat → Int) (b : Nat), e = .returned (.tuple #[.slice (some ⟨b, 0, none⟩) v.length v.length, .int .i64 0]) ∧ Ord nn v d ∧ ISl w' (some ⟨b, 0, none⟩) (shs nn v d) ∧ Below w.heap.size w w' :=
      h1.mono fun e w' ⟨hb, h⟩ => by
        rcases h with ⟨er, _, h⟩ | ⟨_, d, b, h3, h4, h5⟩
        · exact absurd h (fun k => hgo.no k)
        · exact ⟨d, b, h4, h3, h5, hb⟩
    have H1 := Lib.hid g1
    have HS := Lib.hid his
    have HGO := Lib.hid hgo
    have h64 : v.length ≤ 64 := hgo.1
    clear h1 g1 hn hiv his hgo
    go_enter Try.func18, Try.ntmps18
    go_wp2_with (go_at_call 71; refine H1.out.mono ?_; rintro r w1 ⟨d, b, rfl, hd, hi1, hx1⟩; have HD := Lib.hid hd; have HX1 := Lib.hid hx1; have HI1 := Lib.hid hi1; clear hd hx1 hi1)
    go_loopg [7, 40] v.length (fun g z i wr => ∃ (k : Nat) (s : Int), i = .int .i64 k ∧ z = .int .i64 s ∧ k ≤ v.length ∧ g = v.length - k ∧ s = sumTo (wt v) k ∧ Below w1.heap.size w1 wr)
    case atStart => exact ⟨0, 0, rfl, rfl, Nat.zero_le _, rfl, rfl, Below.refl _ _⟩
    case round =>
      obtain ⟨k, s, rfl, rfl, hk, hg, hs, hb⟩ := hrel
      have HG := Lib.hid hg
      have s0 : 0 ≤ s := by rw [hs]; exact sumTo_nonneg fun i hi => (HGO.out.2.2.1 i (by omega)).1
      have s1 : s ≤ k * 1000000000 := by rw [hs]; exact sumTo_le fun i hi => (HGO.out.2.2.1 i (by omega)).2
      have HSM := Lib.hid hs
      clear hg hs
      by_cases hlt : k < v.length
      · have hf := HS.out.ext (ext_trans HX1.out hb)
        rcases hf with hf | ⟨ba, off, rfl, hblt, hc'⟩
        · rw [hf] at hlt; simp at hlt
        · have ca := hc' k hlt
          rw [← wt_get hlt] at ca
          have hx := HGO.out.2.2.1 k hlt
          unfold WOk at hx
          have HN := Lib.hid (show s + wt v k = sumTo (wt v) (k + 1) from by rw [HSM.out]; rfl)
          have k64 : k ≤ 64 := by omega
          clear hc'
          generalize wt v k = x at *
          go_wp2
          go_roundg (v.length - (k + 1))
          case measure => have := HG.out; omega
          case rel => exact ⟨k + 1, _, by go_num, rfl, by omega, rfl, HN.out, hb⟩
      · obtain rfl : k = v.length := by omega
        have HSW := Lib.hid (show s = sumW v from HSM.out)
        have hs1 : 1 ≤ s := by rw [HSW.out]; exact HGO.out.2.2.2
        have hs2 : ¬ s ≤ 0 := by omega
        have HB := Lib.hid hb
        clear HSM HG hb
        go_wp2
        go_loopg [59, 8] v.length (fun g i z wr => ∃ (k : Nat) (a : Int), i = .int .i64 k ∧ z = .int .i64 a ∧ k ≤ v.length ∧ g = v.length - k ∧ a = sumTo (OO (quo nn v) d (lft nn v)) k ∧ Below w1.heap.size w1 wr)
        case atStart => exact ⟨0, 0, rfl, rfl, Nat.zero_le _, rfl, rfl, HB.out⟩
        case round =>
          obtain ⟨k, a, rfl, rfl, hk, hg, ha, hb⟩ := hrel
          have HG := Lib.hid hg
          have a0 : 0 ≤ a := by rw [ha]; exact sumTo_nonneg fun i hi => by have := (shs_fair HD.out HGO.out (i := i) (by omega)).1; have := (quo_bd HGO.out.2.1 HGO.out.2.2.1 HGO.out.2.2.2 (j := i) (by omega)).1; omega
          have a1 : a ≤ k * 1000000001 := by rw [ha]; exact sumTo_le fun i hi => by have := (shs_fair HD.out HGO.out (i := i) (by omega)).2.1; have := (quo_bd HGO.out.2.1 HGO.out.2.2.1 HGO.out.2.2.2 (j := i) (by omega)).2; omega
          have HA := Lib.hid ha
          clear hg ha
          by_cases hlt : k < v.length
          · have hf := HS.out.ext (ext_trans HX1.out hb)
            have hf' := HI1.out.ext hb
            rcases hf with hf | ⟨ba, off, rfl, hblt, hc'⟩
            · rw [hf] at hlt; simp at hlt
            · rcases hf' with hf' | ⟨bb, off', hbb, hblt', hc2⟩
              · have := shs_len nn v d
                rw [hf'] at this
                simp at this
                omega
              · obtain ⟨rfl, rfl⟩ : b = bb ∧ off' = 0 := by
                  injection hbb with h; injection h with h1 h2; exact ⟨h1, h2.symm⟩
                have ca := hc' k hlt
                have cl := hc2 k (by rw [shs_len]; exact hlt)
                rw [shs_get] at cl
                rw [Nat.zero_add] at cl
                rw [← wt_get hlt] at ca
                obtain ⟨f1, f2, f3⟩ := shs_fair HD.out HGO.out hlt
                have m1 := prod_bd HGO.out.2.1 HGO.out.2.2.1 hlt
                have m2 := quo_bd HGO.out.2.1 HGO.out.2.2.1 HGO.out.2.2.2 hlt
                have hqe : quo nn v k = nn * wt v k / s := by rw [HSW.out]; rfl
                rw [hqe] at m2 f1 f2
                have HN := Lib.hid (show a + OO (quo nn v) d (lft nn v) k = sumTo (OO (quo nn v) d (lft nn v)) (k + 1) from by rw [HA.out]; rfl)
                have k64 : k ≤ 64 := by omega
                have n1 : ¬ OO (quo nn v) d (lft nn v) k < nn * wt v k / s := by omega
                have n2 : ¬ nn * wt v k / s + 1 < OO (quo nn v) d (lft nn v) k := by omega
                clear hc' hc2 hqe hbb
                generalize OO (quo nn v) d (lft nn v) k = y at *
                generalize wt v k = x at *
                by_cases hx : x = 0
                · have hy := f3 hx
                  subst hx
                  subst hy
                  clear f3
                  go_wp2
                  go_roundg (v.length - (k + 1))
                  case measure => have := HG.out; omega
                  case rel => exact ⟨k + 1, _, by go_num, rfl, by omega, rfl, (by have h := HN.out; rw [Int.add_zero] at h; exact h), hb⟩
                · have hx2 : (x == 0) = false := by simpa using hx
                  clear f3
                  go_wp2
                  go_roundg (v.length - (k + 1))
                  case measure => have := HG.out; omega
                  case rel => exact ⟨k + 1, _, by go_num, rfl, by omega, rfl, HN.out, hb⟩
          · obtain rfl : k = v.length := by omega
            obtain rfl : nn = a := by rw [HA.out]; exact (shs_all HD.out HGO.out).symm
            go_wp2_with (go_at_call 22; refine (awake_any _).mono ?_; rintro r w4 ⟨rfl, hx4⟩; have B4 := ext_trans (ext_trans HX1.out hb) hx4)
            go_ret
            exact ⟨rfl, B4⟩
  · have g1 : Calls Try.prog 71 #[.int .i64 nn, .slice A v.length c] w fun e w' => ∃ er : Int, e = .returned (.tuple #[.slice none 0 0, .int .i64 er]) ∧ ShE nn v er ∧ Below w.heap.size w w' :=
      h1.mono fun e w' ⟨hb, h⟩ => by
        rcases h with ⟨er, h3, h⟩ | ⟨h, _⟩
        · exact ⟨er, h3, h, hb⟩
        · exact absurd h hgo
    have H1 := Lib.hid g1
    clear h1 g1 hn hiv his hgo
    go_enter Try.func18, Try.ntmps18
    go_wp2_with fail
    refine H1.out.mono ?_
    rintro r w1 ⟨er, rfl, hd, hx1⟩
    have her0 := hd.ne
    have her : (er == 0) = false := by simpa using her0
    have her2 : (er != 0) = true := by simpa using her0
    clear hd
    go_wp2_with (go_at_call 22; refine (awake_any _).mono ?_; rintro r w4 ⟨rfl, hx4⟩; have B4 := ext_trans hx1 hx4)
    go_ret
    exact ⟨rfl, B4⟩
end Go.Proofs.Ythkoblnfeebafaa
