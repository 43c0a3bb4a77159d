/- SkinCounts walked. Conditions: the arguments read as lists. -/
import Derived.Test.YtdkoomcgnaokgaaDoorTc
import Derived.Test.YtdkoomcgnaokgaaDoorOq
import Derived.Deep.CutBlock
namespace Go.Proofs.YtdkoomcgnaokgaaDoor
open Go.RowKit

set_option maxRecDepth 100000 in
set_option maxHeartbeats 4000000 in
theorem law_counts (A : Option Addr) (cap : Nat) (l : List ByteArray) (g : Int) (C : Option Addr) (cc : Nat) (qs : List R4) (w : World) (hc : l.length ≤ cap) (hcm : cap ≤ 9223372036854775807) (h : TSl w A l) (hz : TSz l) (hcc : qs.length ≤ cc) (hcc2 : cc ≤ 9223372036854775807) (hq : QSl w C qs) :
    Calls Tryd.prog 5 #[.slice A l.length cap, .int .i64 g, .slice C qs.length cc] w fun e w' => e = .returned (.bool true) ∧ Below w.heap.size w w' := by
  have HNT := Lib.hid (newtable_any A cap l g w hc hcm h hz)
  have HGD := Lib.hid (fun W (hW : Below w.heap.size w W) => good_any A cap l g W hc hcm (h.ext hW) hz)
  by_cases hok : PsOk l g
  · have HNT := Lib.hid (HNT.out.mono (R' := fun e w' => Below w.heap.size w w' ∧ ∃ q, e = .returned (.tuple #[.pointer (some ⟨q, 0, none⟩), .int .i64 0]) ∧ TbS (wid l) l.length l g w.heap.size q l.length w') (fun e w' hr => by
      refine ⟨hr.1, ?_⟩
      rcases hr.2 with h | h
      · exact absurd hok h.1
      · exact h.2))
    rw [decide_eq_true hok] at HGD
    have HTS := Lib.hid (fun W (hW : Below w.heap.size w W) => h.ext hW)
    have HOK := Lib.hid hok
    have HQ := Lib.hid (fun W (hW : Below w.heap.size w W) => hq.ext hW)
    have hl48 := hok.1.2.1
    have hl1 := hok.1.1
    have hw48 := hok.1.2.2.2.1
    have hfr : ∀ W, Below w.heap.size w W → ∃ b off, ∃ r0 : ByteArray, A = some ⟨b, off, none⟩ ∧ b < W.heap.size ∧ W.cell? ⟨b, off, none⟩ = some (.string r0) ∧ r0.size = wid l := fun W hW => by
      rcases h.ext hW with h0 | ⟨b, off, rfl, hb, hcl⟩
      · rw [h0] at hl1; simp at hl1
      · obtain ⟨r0, c0, hr0⟩ := first_row hok.1 hcl
        exact ⟨b, off, r0, rfl, hb, c0, hr0⟩
    have HFR := Lib.hid hfr
    clear h hq hz hok hfr
    go_enter Tryd.func5, Tryd.ntmps5
    go_upto_block 0 with (first
      | (go_at_call 16; refine (HNT.out).mono ?_; rintro e w1 ⟨hx1, q, rfl, ht1⟩)
      | (go_at_call 17; refine (HGD.out _ hx1).mono ?_; rintro e w2 ⟨rfl, hx2⟩))
    have HT0 := Lib.hid (ht1.ext hx2)
    have HB0 := Lib.hid (bext hx1 hx2 hx1.size)
    clear ht1 hx1 hx2
    go_wp2_with (fail)
    go_loopg [40] qs.length (fun gg i wr => ∃ k : Nat, i = .int .i64 k ∧ k ≤ qs.length ∧ gg = qs.length - k ∧ Below w.heap.size w wr ∧ TbS (wid l) l.length l g w.heap.size q l.length wr)
    case atStart => exact ⟨0, rfl, by omega, by omega, HB0.out, HT0.out⟩
    case round =>
      obtain ⟨k, rfl, hk, hg, hb, ht⟩ := hrel
      have HG := Lib.hid hg
      have HB := Lib.hid hb
      have HT := Lib.hid ht
      clear hg hb ht HB0 HT0
      by_cases hlt : k < qs.length
      · rcases HQ.out wr HB.out with h0 | ⟨b, off, rfl, hb, hcl⟩
        · rw [h0] at hlt; simp at hlt
        · obtain ⟨c1, c2, c3, c4⟩ := hcl k hlt
          obtain ⟨r, hr⟩ : ∃ r, r = qs[k] := ⟨_, rfl⟩
          rw [← hr] at c1 c2 c3 c4
          obtain ⟨x, y, a, b'⟩ := r
          dsimp only at c1 c2 c3 c4
          clear hr hcl
          go_upto_region 9 with (fail)
          have HX := Lib.hid (ext_alloc wr (.cells #[.int .i64 x, .int .i64 y, .int .i64 a, .int .i64 b'] 31))
          have HR := Lib.hid (Bk.new 31 wr #[.int .i64 x, .int .i64 y, .int .i64 a, .int .i64 b'])
          obtain ⟨p, hp⟩ : ∃ p, p = wr.heap.size := ⟨_, rfl⟩
          obtain ⟨V, hV⟩ : ∃ V, V = wr.alloc (.cells #[.int .i64 x, .int .i64 y, .int .i64 a, .int .i64 b'] 31) := ⟨_, rfl⟩
          rw [← hV] at HX HR ⊢
          rw [← hp] at HR ⊢
          have HT1 := Lib.hid (HT.out.ext HX.out)
          have HB1 := Lib.hid (bext HB.out HX.out HB.out.size)
          clear hp hV c1 c2 c3 c4 hb HT HB HX
          obtain ⟨r1, r2, r3⟩ := HR.out.facts
          by_cases h40 : 40 ≤ k
          · have h40' : (40 : Int) ≤ (k : Int) := by omega
            go_wp2_with (go_at_call 14; refine (awake_any _).mono ?_; rintro e w8 ⟨rfl, hx8⟩)
            refine bodyPost_ret (v := .bool true) (by simp [results, Tryd.results5, go_sem]) rfl ?_
            exact ⟨rfl, bext HB1.out hx8 HB1.out.size⟩
          · have h40' : ¬ (40 : Int) ≤ (k : Int) := by omega
            have HCT := Lib.hid (Count_any (wid l) l.length l g w.heap.size q x y a b' V HT1.out (by omega) (by omega))
            unfold ctE ctV at HCT
            have HRC := Lib.hid (fun W => rrect_any x y a b' W)
            by_cases hrok : RcOk x y a b'
            · rw [if_pos hrok, if_pos hrok] at HCT
              rw [decide_eq_true hrok] at HRC
              have HLI := Lib.hid (fun W => rlies_any x y a b' (wid l) l.length W hrok.1 hrok.2.1 ⟨by omega, by omega⟩ ⟨by omega, by omega⟩)
              by_cases hrin : RcIn x y a b' (wid l) l.length
              · rw [if_pos hrin, if_pos hrin] at HCT
                rw [decide_eq_true hrin] at HLI
                have HRT := Lib.hid (fun W (hW : Below w.heap.size w W) => (show Calls Tryd.prog 20 #[.slice A l.length cap, .int .i64 g, .agg #[.int .i64 x, .int .i64 y, .int .i64 a, .int .i64 b']] W fun e w' => e = .returned (.int .i64 (cnt l g x.toNat y.toNat a.toNat b'.toNat)) ∧ Below W.heap.size W w' from by
                  unfold RcOk at hrok
                  unfold RcIn at hrin
                  have h := rcount_any A cap l g x.toNat y.toNat a.toNat b'.toNat W HOK.out.1 (HTS.out W hW) (by omega) (by omega)
                  rw [show ((x.toNat : Nat) : Int) = x by omega, show ((y.toNat : Nat) : Int) = y by omega, show ((a.toNat : Nat) : Int) = a by omega, show ((b'.toNat : Nat) : Int) = b' by omega] at h
                  exact h))
                obtain ⟨v, hv⟩ : ∃ v, v = cnt l g x.toNat y.toNat a.toNat b'.toNat := ⟨_, rfl⟩
                rw [← hv] at HCT HRT
                clear hv hrok hrin
                go_upto_region 16 with (first
                  | (go_at_call 15; refine (HCT.out).mono ?_; rintro e w3 ⟨rfl, hx3⟩; have HX3 := Lib.hid hx3; obtain ⟨r1, r2, r3⟩ := (HR.out.ext hx3).facts; clear hx3)
                  | (go_at_call 18; refine (HRC.out _).mono ?_; rintro e w4 ⟨rfl, hx4⟩; have HX4 := Lib.hid (ext_trans HX3.out hx4); clear r1 r2 r3 hx4))
                have HR4 := Lib.hid (HR.out.ext HX4.out)
                obtain ⟨r1, r2, r3⟩ := HR4.out.facts
                obtain ⟨b, off, r0, e0, hbl, c0, hr0⟩ := HFR.out w4 (bext HB1.out HX4.out HB1.out.size)
                obtain ⟨n, hn⟩ : ∃ n, n = wid l := ⟨_, rfl⟩
                have HN := Lib.hid hn
                rw [← hn] at hr0 HLI
                clear hn
                subst e0
                have hl0 : (0 : Int) < (l.length : Int) := by omega
                have hl0' : 0 < l.length := by omega
                go_still_tail 7, (by kernel_rfl)
                have HX5 := Lib.hid (ext_trans HX4.out (ext_drew w4))
                have HR5 := Lib.hid (HR4.out.ext (ext_drew w4))
                change wpList _ _ _ _ _ w4.drew
                obtain ⟨X, hX⟩ : ∃ X, X = w4.drew := ⟨_, rfl⟩
                rw [← hX] at HX5 HR5 ⊢
                clear hX r1 r2 r3 c0 hbl hr0 HX4 HR4 HX3 HR
                go_wp2_with (first
                  | (go_at_call 19; refine (HLI.out _).mono ?_; rintro e w6 ⟨rfl, hx6⟩; have HX6 := Lib.hid (ext_trans HX5.out hx6); obtain ⟨r1, r2, r3⟩ := (HR5.out.ext hx6).facts; clear hx6)
                  | (go_at_call 20; refine (HRT.out _ (bext HB1.out HX6.out HB1.out.size)).mono ?_; rintro e w7 ⟨rfl, hx7⟩))
                have hx34 := ext_trans HX6.out hx7
                go_roundg (qs.length - (k + 1))
                case measure => have := HG.out; omega
                case rel => exact ⟨k + 1, by go_num, by omega, rfl, bext HB1.out hx34 HB1.out.size, HT1.out.ext hx34⟩
              · rw [if_neg hrin, if_neg hrin] at HCT
                rw [decide_eq_false hrin] at HLI
                clear hrok hrin
                go_upto_region 16 with (first
                  | (go_at_call 15; refine (HCT.out).mono ?_; rintro e w3 ⟨rfl, hx3⟩; have HX3 := Lib.hid hx3; obtain ⟨r1, r2, r3⟩ := (HR.out.ext hx3).facts; clear hx3)
                  | (go_at_call 18; refine (HRC.out _).mono ?_; rintro e w4 ⟨rfl, hx4⟩; have HX4 := Lib.hid (ext_trans HX3.out hx4); clear r1 r2 r3 hx4))
                have HR4 := Lib.hid (HR.out.ext HX4.out)
                obtain ⟨r1, r2, r3⟩ := HR4.out.facts
                obtain ⟨b, off, r0, e0, hbl, c0, hr0⟩ := HFR.out w4 (bext HB1.out HX4.out HB1.out.size)
                obtain ⟨n, hn⟩ : ∃ n, n = wid l := ⟨_, rfl⟩
                have HN := Lib.hid hn
                rw [← hn] at hr0 HLI
                clear hn
                subst e0
                have hl0 : (0 : Int) < (l.length : Int) := by omega
                have hl0' : 0 < l.length := by omega
                go_still_tail 7, (by kernel_rfl)
                have HX5 := Lib.hid (ext_trans HX4.out (ext_drew w4))
                have HR5 := Lib.hid (HR4.out.ext (ext_drew w4))
                change wpList _ _ _ _ _ w4.drew
                obtain ⟨X, hX⟩ : ∃ X, X = w4.drew := ⟨_, rfl⟩
                rw [← hX] at HX5 HR5 ⊢
                clear hX r1 r2 r3 c0 hbl hr0 HX4 HR4 HX3 HR
                go_wp2_with (go_at_call 19; refine (HLI.out _).mono ?_; rintro e w6 ⟨rfl, hx6⟩)
                have hx34 := ext_trans HX5.out hx6
                go_roundg (qs.length - (k + 1))
                case measure => have := HG.out; omega
                case rel => exact ⟨k + 1, by go_num, by omega, rfl, bext HB1.out hx34 HB1.out.size, HT1.out.ext hx34⟩
            · rw [if_neg hrok, if_neg hrok] at HCT
              rw [decide_eq_false hrok] at HRC
              clear hrok
              go_wp2_with (first
                | (go_at_call 15; refine (HCT.out).mono ?_; rintro e w3 ⟨rfl, hx3⟩; obtain ⟨r1, r2, r3⟩ := (HR.out.ext hx3).facts)
                | (go_at_call 18; refine (HRC.out _).mono ?_; rintro e w4 ⟨rfl, hx4⟩))
              have hx34 := ext_trans hx3 hx4
              go_roundg (qs.length - (k + 1))
              case measure => have := HG.out; omega
              case rel => exact ⟨k + 1, by go_num, by omega, rfl, bext HB1.out hx34 HB1.out.size, HT1.out.ext hx34⟩
      · obtain rfl : k = qs.length := by omega
        go_wp2_with (go_at_call 14; refine (awake_any _).mono ?_; rintro e w8 ⟨rfl, hx8⟩)
        refine bodyPost_ret (v := .bool true) (by simp [results, Tryd.results5, go_sem]) rfl ?_
        exact ⟨rfl, bext HB.out hx8 HB.out.size⟩
  · have HNT := Lib.hid (HNT.out.mono (R' := fun e w' => Below w.heap.size w w' ∧ e = .returned (.tuple #[.pointer none, .int .i64 2])) (fun e w' hr => by
      refine ⟨hr.1, ?_⟩
      rcases hr.2 with h | h
      · exact h.2
      · exact absurd h.1 hok))
    rw [decide_eq_false hok] at HGD
    clear h hq hz hok
    go_enter Tryd.func5, Tryd.ntmps5
    go_wp2_with (first
      | (go_at_call 16; refine (HNT.out).mono ?_; rintro e w1 ⟨hx1, rfl⟩)
      | (go_at_call 17; refine (HGD.out _ hx1).mono ?_; rintro e w2 ⟨rfl, hx2⟩)
      | (go_at_call 14; refine (awake_any _).mono ?_; rintro e w8 ⟨rfl, hx8⟩))
    go_ret
    exact ⟨rfl, bext (bext hx1 hx2 hx1.size) hx8 (bext hx1 hx2 hx1.size).size⟩
end Go.Proofs.YtdkoomcgnaokgaaDoor
