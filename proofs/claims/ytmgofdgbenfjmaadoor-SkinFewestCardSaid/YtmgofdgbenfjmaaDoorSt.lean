/- stop walked. Conditions: the plane and its maps in memory; the chord's ints are small. -/
import Derived.Test.YtmgofdgbenfjmaaDoorPq1
import Derived.Test.YtmgofdgbenfjmaaDoorStP
namespace Go.Proofs.YtmgofdgbenfjmaaDoor
open Go.RowKit

set_option maxRecDepth 100000 in
set_option maxHeartbeats 8000000 in
theorem stop_any (b : Nat) (l : List ByteArray) (g : Int) (b1 b2 : Nat) (f : Cel → Bool) (x y t : Int) (W : World) (h : PlQ W b l g b1 b2) (hb : Mf b2 f W)
    (hx : 0 ≤ x ∧ x ≤ 48) (hy : 0 ≤ y ∧ y ≤ 48) (ht : 0 ≤ t ∧ t ≤ 48) (hn : x ≠ t) :
    Calls Tryd.prog 110 #[.pointer (some ⟨b, 0, none⟩), .agg #[.int .i64 x, .int .i64 y, .int .i64 t, .int .i64 y]] W fun e w' => e = .returned (.agg #[.int .i64 x, .int .i64 y, .int .i64 (stopX f x y t), .int .i64 y]) ∧ Below W.heap.size W w' := by
  have HX := Lib.hid (ext_trans (ext_alloc W (.cells #[.int .i64 x, .int .i64 y, .int .i64 t, .int .i64 y] 156)) (ext_alloc _ (.cells #[.int .i64 0, .int .i64 0, .int .i64 0, .int .i64 0] 156)))
  have HC := Lib.hid ((Bk.new 156 W #[.int .i64 x, .int .i64 y, .int .i64 t, .int .i64 y]).alloc (.cells #[.int .i64 0, .int .i64 0, .int .i64 0, .int .i64 0] 156))
  have hd := Bk.new 156 (W.alloc (.cells #[.int .i64 x, .int .i64 y, .int .i64 t, .int .i64 y] 156)) #[.int .i64 0, .int .i64 0, .int .i64 0, .int .i64 0]
  rw [World.size_alloc] at hd
  have HD := Lib.hid hd
  have HP := Lib.hid (h.ext HX.out)
  have HB := Lib.hid (hb.ext HX.out)
  obtain ⟨hx1, hx2⟩ := hx
  obtain ⟨hy1, hy2⟩ := hy
  obtain ⟨ht1, ht2⟩ := ht
  clear h hb hd
  obtain ⟨s, hs⟩ : ∃ s, s = stopX f x y t := ⟨_, rfl⟩
  rw [← hs]
  have HSX := Lib.hid hs
  clear hs
  go_enter Tryd.func110, Tryd.ntmps110
  go_upto_region 2 with (fail)
  obtain ⟨X, hX⟩ : ∃ X, X = (W.alloc (.cells #[.int .i64 x, .int .i64 y, .int .i64 t, .int .i64 y] 156)).alloc (.cells #[.int .i64 0, .int .i64 0, .int .i64 0, .int .i64 0] 156) := ⟨_, rfl⟩
  obtain ⟨p3, hp3⟩ : ∃ p3, p3 = W.heap.size := ⟨_, rfl⟩
  obtain ⟨p4, hp4⟩ : ∃ p4, p4 = W.heap.size + 1 := ⟨_, rfl⟩
  have HP34 := Lib.hid (show W.heap.size ≤ p3 ∧ p3 ≠ p4 ∧ W.heap.size ≤ p4 from by omega)
  rw [← hX] at HX HC HD HP HB ⊢
  rw [← hp4] at HD ⊢
  rw [← hp3] at HC ⊢
  clear hX hp3 hp4
  obtain ⟨f1, f2, f3⟩ := HC.out.facts
  by_cases hlt : t < x
  · have HS := Lib.hid (show s = stL f y t (60 - 0) (x - 1) from by rw [HSX.out]; unfold stopX; rw [if_pos hlt])
    clear HSX

    go_wp2_with (fail)
    have HBX := Lib.hid (Below.refl X.heap.size X)
    clear f1 f2 f3
    go_loopg [6] 60 (fun gg v wr => ∃ (k : Nat) (z : Int), v = .int .i64 z ∧ z = x - 1 - (k : Int) ∧ (t ≤ z ∧ z < x) ∧ gg = 60 - k ∧ s = stL f y t (60 - k) z ∧ Below X.heap.size X wr)
    case atStart => exact ⟨0, x - 1, rfl, by omega, by omega, by omega, HS.out, HBX.out⟩
    case round =>
      obtain ⟨k, z, rfl, hz, ⟨hz1, hz2⟩, hgg, hsz, hbw⟩ := hrel
      have HG := Lib.hid hgg
      have HZ := Lib.hid hz
      have HSZ := Lib.hid hsz
      have HBW := Lib.hid hbw
      have HCW := Lib.hid (HC.out.ext hbw)
      have HDW := Lib.hid (HD.out.ext hbw)
      obtain ⟨f1, f2, f3⟩ := HCW.out.facts
      clear hgg hz hsz HS HBX
      by_cases hzt : z = t
      · subst hzt
        have HE := Lib.hid (show s = z from by rw [HSZ.out]; exact stL_end _)
        obtain ⟨d1, d2, d3⟩ := HDW.out.facts
        have hez : (z != z) = false := by simp
        go_upto_region 9 with (fail)
        have HZ4 := Lib.hid ((((HDW.out.set 0 (.int .i64 x)).set 1 (.int .i64 y)).set 2 (.int .i64 z)).set 3 (.int .i64 y))
        have hle4 : W.heap.size ≤ p4 := HP34.out.2.2
        have HZ5 := Lib.hid (((((ext_trans HX.out HBW.out).setCell (p := ⟨p4, 0, none⟩) hle4 (.int .i64 x)).setCell (p := ⟨p4, 1, none⟩) hle4 (.int .i64 y)).setCell (p := ⟨p4, 2, none⟩) hle4 (.int .i64 z)).setCell (p := ⟨p4, 3, none⟩) hle4 (.int .i64 y))
        have g1 := HZ4.out.cell
        go_wp2
        refine bodyPost_ret (v := .agg #[.int .i64 x, .int .i64 y, .int .i64 z, .int .i64 y]) (by simp [results, Tryd.results110, go_sem, g1]) rfl ?_
        rw [HE.out]
        exact ⟨rfl, HZ5.out⟩
      · have hezt : (z != t) = true := by simpa using hzt
        have hk60 : k < 59 := by have := HZ.out; omega
        have hcm := (HP.out.ext hbw).m2_
        have hc1 : IsC (z, y) := ⟨⟨by dsimp only; omega, by dsimp only; omega⟩, ⟨by dsimp only; omega, by dsimp only; omega⟩⟩
        have hc2 : IsC (z, y - 1) := ⟨⟨by dsimp only; omega, by dsimp only; omega⟩, ⟨by dsimp only; omega, by dsimp only; omega⟩⟩
        obtain ⟨v1, hv1⟩ : ∃ v1, v1 = f (z, y) := ⟨_, rfl⟩
        obtain ⟨v2, hv2⟩ : ∃ v2, v2 = f (z, y - 1) := ⟨_, rfl⟩
        obtain ⟨y1, hy1'⟩ : ∃ y1, y - 1 = y1 := ⟨_, rfl⟩
        have hyw : IntKind.i64.wrap y1 = y1 := IntWalk.i64_in _ ⟨by omega, by omega⟩
        have hl1 : ∀ n, (Instr.lookup 73 (.map (some b2)) (.agg #[.int .i64 z, .int .i64 y]) false).run Tryd.prog (wr.drewN n) = .ok (.bool v1) (wr.drewN n) := fun n => by rw [hv1]; exact ((HB.out.ext hbw).ext (ext_drewN wr n)).look hc1
        have hl2 : ∀ n, (Instr.lookup 73 (.map (some b2)) (.agg #[.int .i64 z, .int .i64 y1]) false).run Tryd.prog (wr.drewN n) = .ok (.bool v2) (wr.drewN n) := fun n => by rw [hv2, ← hy1']; exact ((HB.out.ext hbw).ext (ext_drewN wr n)).look hc2
        have HT := Lib.hid (show tch2 f z y = (v1 || v2) from by unfold tch2; rw [hv1, hv2])
        have HY1 := Lib.hid hy1'
        clear hc1 hc2 hv1 hv2 hbw
        have hlm : b < wr.heap.size := World.block_lt_of_cell? wr ⟨b, 4, none⟩ hcm
        cases v1 with
        | true =>
          have HE := Lib.hid (show s = z from by rw [HSZ.out, show 60 - k = (60 - (k + 1)) + 1 by omega]; exact stL_hit hzt (by rw [HT.out]; rfl))
          clear hl2 HT
          go_upto_region 7 with (fail)
          go_quiet (fail)
          go_upto_region 8 with (fail)
          have HCY := Lib.hid (HCW.out.ext (ext_drewN wr nq))
          have HDY := Lib.hid (HDW.out.ext (ext_drewN wr nq))
          have HWY := Lib.hid (ext_trans (ext_trans HX.out HBW.out) (ext_drewN wr nq))
          obtain ⟨Y, hY⟩ : ∃ Y, Y = wr.drewN nq := ⟨_, rfl⟩
          rw [← hY] at HCY HDY HWY ⊢
          clear hY f1 f2 f3 hcm hl1
          obtain ⟨f1, f2, f3⟩ := HCY.out.facts
          obtain ⟨d1, d2, d3⟩ := HDY.out.facts
          have HZ4 := Lib.hid ((((HDY.out.set 0 (.int .i64 x)).set 1 (.int .i64 y)).set 2 (.int .i64 z)).set 3 (.int .i64 y))
          have hle4 : W.heap.size ≤ p4 := HP34.out.2.2
          have HZ5 := Lib.hid ((((HWY.out.setCell (p := ⟨p4, 0, none⟩) hle4 (.int .i64 x)).setCell (p := ⟨p4, 1, none⟩) hle4 (.int .i64 y)).setCell (p := ⟨p4, 2, none⟩) hle4 (.int .i64 z)).setCell (p := ⟨p4, 3, none⟩) hle4 (.int .i64 y))
          have g1 := HZ4.out.cell
          go_wp2
          refine bodyPost_ret (v := .agg #[.int .i64 x, .int .i64 y, .int .i64 z, .int .i64 y]) (by simp [results, Tryd.results110, go_sem, g1]) rfl ?_
          rw [HE.out]
          exact ⟨rfl, HZ5.out⟩
        | false =>
          cases v2 with
          | true =>
            have HE := Lib.hid (show s = z from by rw [HSZ.out, show 60 - k = (60 - (k + 1)) + 1 by omega]; exact stL_hit hzt (by rw [HT.out]; rfl))
            clear HT
            go_upto_region 7 with (fail)
            go_quiet (fail)
            go_upto_region 8 with (fail)
            have HCY := Lib.hid (HCW.out.ext (ext_drewN wr nq))
            have HDY := Lib.hid (HDW.out.ext (ext_drewN wr nq))
            have HWY := Lib.hid (ext_trans (ext_trans HX.out HBW.out) (ext_drewN wr nq))
            obtain ⟨Y, hY⟩ : ∃ Y, Y = wr.drewN nq := ⟨_, rfl⟩
            rw [← hY] at HCY HDY HWY ⊢
            clear hY f1 f2 f3 hcm hl1 hl2
            obtain ⟨f1, f2, f3⟩ := HCY.out.facts
            obtain ⟨d1, d2, d3⟩ := HDY.out.facts
            have HZ4 := Lib.hid ((((HDY.out.set 0 (.int .i64 x)).set 1 (.int .i64 y)).set 2 (.int .i64 z)).set 3 (.int .i64 y))
            have hle4 : W.heap.size ≤ p4 := HP34.out.2.2
            have HZ5 := Lib.hid ((((HWY.out.setCell (p := ⟨p4, 0, none⟩) hle4 (.int .i64 x)).setCell (p := ⟨p4, 1, none⟩) hle4 (.int .i64 y)).setCell (p := ⟨p4, 2, none⟩) hle4 (.int .i64 z)).setCell (p := ⟨p4, 3, none⟩) hle4 (.int .i64 y))
            have g1 := HZ4.out.cell
            go_wp2
            refine bodyPost_ret (v := .agg #[.int .i64 x, .int .i64 y, .int .i64 z, .int .i64 y]) (by simp [results, Tryd.results110, go_sem, g1]) rfl ?_
            rw [HE.out]
            exact ⟨rfl, HZ5.out⟩
          | false =>
            have HE := Lib.hid (show s = stL f y t (60 - (k + 1)) (z - 1) from by rw [HSZ.out, show 60 - k = (60 - (k + 1)) + 1 by omega]; exact stL_go hzt (by rw [HT.out]; rfl))
            clear HT
            go_upto_region 7 with (fail)
            go_quiet (fail)
            go_wp2
            go_roundg (60 - (k + 1))
            case measure => have := HG.out; omega
            case rel => exact ⟨k + 1, z - 1, by go_num, by have := HZ.out; omega, by omega, rfl, HE.out, HBW.out.trans ((ext_drewN wr _).mono HBW.out.size)⟩
  · have HS := Lib.hid (show s = stR f y t (60 - 0) (x + 1) from by rw [HSX.out]; unfold stopX; rw [if_neg hlt])
    clear HSX
    have hgt : x < t := by omega
    go_wp2_with (fail)
    have HBX := Lib.hid (Below.refl X.heap.size X)
    clear f1 f2 f3
    go_loopg [6] 60 (fun gg v wr => ∃ (k : Nat) (z : Int), v = .int .i64 z ∧ z = x + 1 + (k : Int) ∧ (x < z ∧ z ≤ t) ∧ gg = 60 - k ∧ s = stR f y t (60 - k) z ∧ Below X.heap.size X wr)
    case atStart => exact ⟨0, x + 1, rfl, by omega, by omega, by omega, HS.out, HBX.out⟩
    case round =>
      obtain ⟨k, z, rfl, hz, ⟨hz1, hz2⟩, hgg, hsz, hbw⟩ := hrel
      have HG := Lib.hid hgg
      have HZ := Lib.hid hz
      have HSZ := Lib.hid hsz
      have HBW := Lib.hid hbw
      have HCW := Lib.hid (HC.out.ext hbw)
      have HDW := Lib.hid (HD.out.ext hbw)
      obtain ⟨f1, f2, f3⟩ := HCW.out.facts
      clear hgg hz hsz HS HBX
      by_cases hzt : z = t
      · subst hzt
        have HE := Lib.hid (show s = z from by rw [HSZ.out]; exact stR_end _)
        obtain ⟨d1, d2, d3⟩ := HDW.out.facts
        have hez : (z != z) = false := by simp
        go_upto_region 9 with (fail)
        have HZ4 := Lib.hid ((((HDW.out.set 0 (.int .i64 x)).set 1 (.int .i64 y)).set 2 (.int .i64 z)).set 3 (.int .i64 y))
        have hle4 : W.heap.size ≤ p4 := HP34.out.2.2
        have HZ5 := Lib.hid (((((ext_trans HX.out HBW.out).setCell (p := ⟨p4, 0, none⟩) hle4 (.int .i64 x)).setCell (p := ⟨p4, 1, none⟩) hle4 (.int .i64 y)).setCell (p := ⟨p4, 2, none⟩) hle4 (.int .i64 z)).setCell (p := ⟨p4, 3, none⟩) hle4 (.int .i64 y))
        have g1 := HZ4.out.cell
        go_wp2
        refine bodyPost_ret (v := .agg #[.int .i64 x, .int .i64 y, .int .i64 z, .int .i64 y]) (by simp [results, Tryd.results110, go_sem, g1]) rfl ?_
        rw [HE.out]
        exact ⟨rfl, HZ5.out⟩
      · have hezt : (z != t) = true := by simpa using hzt
        have hk60 : k < 59 := by have := HZ.out; omega
        have hcm := (HP.out.ext hbw).m2_
        have hc1 : IsC (z, y) := ⟨⟨by dsimp only; omega, by dsimp only; omega⟩, ⟨by dsimp only; omega, by dsimp only; omega⟩⟩
        have hc2 : IsC (z, y - 1) := ⟨⟨by dsimp only; omega, by dsimp only; omega⟩, ⟨by dsimp only; omega, by dsimp only; omega⟩⟩
        obtain ⟨v1, hv1⟩ : ∃ v1, v1 = f (z, y) := ⟨_, rfl⟩
        obtain ⟨v2, hv2⟩ : ∃ v2, v2 = f (z, y - 1) := ⟨_, rfl⟩
        obtain ⟨y1, hy1'⟩ : ∃ y1, y - 1 = y1 := ⟨_, rfl⟩
        have hyw : IntKind.i64.wrap y1 = y1 := IntWalk.i64_in _ ⟨by omega, by omega⟩
        have hl1 : ∀ n, (Instr.lookup 73 (.map (some b2)) (.agg #[.int .i64 z, .int .i64 y]) false).run Tryd.prog (wr.drewN n) = .ok (.bool v1) (wr.drewN n) := fun n => by rw [hv1]; exact ((HB.out.ext hbw).ext (ext_drewN wr n)).look hc1
        have hl2 : ∀ n, (Instr.lookup 73 (.map (some b2)) (.agg #[.int .i64 z, .int .i64 y1]) false).run Tryd.prog (wr.drewN n) = .ok (.bool v2) (wr.drewN n) := fun n => by rw [hv2, ← hy1']; exact ((HB.out.ext hbw).ext (ext_drewN wr n)).look hc2
        have HT := Lib.hid (show tch2 f z y = (v1 || v2) from by unfold tch2; rw [hv1, hv2])
        have HY1 := Lib.hid hy1'
        clear hc1 hc2 hv1 hv2 hbw
        have hlm : b < wr.heap.size := World.block_lt_of_cell? wr ⟨b, 4, none⟩ hcm
        cases v1 with
        | true =>
          have HE := Lib.hid (show s = z from by rw [HSZ.out, show 60 - k = (60 - (k + 1)) + 1 by omega]; exact stR_hit hzt (by rw [HT.out]; rfl))
          clear hl2 HT
          go_upto_region 7 with (fail)
          go_quiet (fail)
          go_upto_region 8 with (fail)
          have HCY := Lib.hid (HCW.out.ext (ext_drewN wr nq))
          have HDY := Lib.hid (HDW.out.ext (ext_drewN wr nq))
          have HWY := Lib.hid (ext_trans (ext_trans HX.out HBW.out) (ext_drewN wr nq))
          obtain ⟨Y, hY⟩ : ∃ Y, Y = wr.drewN nq := ⟨_, rfl⟩
          rw [← hY] at HCY HDY HWY ⊢
          clear hY f1 f2 f3 hcm hl1
          obtain ⟨f1, f2, f3⟩ := HCY.out.facts
          obtain ⟨d1, d2, d3⟩ := HDY.out.facts
          have HZ4 := Lib.hid ((((HDY.out.set 0 (.int .i64 x)).set 1 (.int .i64 y)).set 2 (.int .i64 z)).set 3 (.int .i64 y))
          have hle4 : W.heap.size ≤ p4 := HP34.out.2.2
          have HZ5 := Lib.hid ((((HWY.out.setCell (p := ⟨p4, 0, none⟩) hle4 (.int .i64 x)).setCell (p := ⟨p4, 1, none⟩) hle4 (.int .i64 y)).setCell (p := ⟨p4, 2, none⟩) hle4 (.int .i64 z)).setCell (p := ⟨p4, 3, none⟩) hle4 (.int .i64 y))
          have g1 := HZ4.out.cell
          go_wp2
          refine bodyPost_ret (v := .agg #[.int .i64 x, .int .i64 y, .int .i64 z, .int .i64 y]) (by simp [results, Tryd.results110, go_sem, g1]) rfl ?_
          rw [HE.out]
          exact ⟨rfl, HZ5.out⟩
        | false =>
          cases v2 with
          | true =>
            have HE := Lib.hid (show s = z from by rw [HSZ.out, show 60 - k = (60 - (k + 1)) + 1 by omega]; exact stR_hit hzt (by rw [HT.out]; rfl))
            clear HT
            go_upto_region 7 with (fail)
            go_quiet (fail)
            go_upto_region 8 with (fail)
            have HCY := Lib.hid (HCW.out.ext (ext_drewN wr nq))
            have HDY := Lib.hid (HDW.out.ext (ext_drewN wr nq))
            have HWY := Lib.hid (ext_trans (ext_trans HX.out HBW.out) (ext_drewN wr nq))
            obtain ⟨Y, hY⟩ : ∃ Y, Y = wr.drewN nq := ⟨_, rfl⟩
            rw [← hY] at HCY HDY HWY ⊢
            clear hY f1 f2 f3 hcm hl1 hl2
            obtain ⟨f1, f2, f3⟩ := HCY.out.facts
            obtain ⟨d1, d2, d3⟩ := HDY.out.facts
            have HZ4 := Lib.hid ((((HDY.out.set 0 (.int .i64 x)).set 1 (.int .i64 y)).set 2 (.int .i64 z)).set 3 (.int .i64 y))
            have hle4 : W.heap.size ≤ p4 := HP34.out.2.2
            have HZ5 := Lib.hid ((((HWY.out.setCell (p := ⟨p4, 0, none⟩) hle4 (.int .i64 x)).setCell (p := ⟨p4, 1, none⟩) hle4 (.int .i64 y)).setCell (p := ⟨p4, 2, none⟩) hle4 (.int .i64 z)).setCell (p := ⟨p4, 3, none⟩) hle4 (.int .i64 y))
            have g1 := HZ4.out.cell
            go_wp2
            refine bodyPost_ret (v := .agg #[.int .i64 x, .int .i64 y, .int .i64 z, .int .i64 y]) (by simp [results, Tryd.results110, go_sem, g1]) rfl ?_
            rw [HE.out]
            exact ⟨rfl, HZ5.out⟩
          | false =>
            have HE := Lib.hid (show s = stR f y t (60 - (k + 1)) (z + 1) from by rw [HSZ.out, show 60 - k = (60 - (k + 1)) + 1 by omega]; exact stR_go hzt (by rw [HT.out]; rfl))
            clear HT
            go_upto_region 7 with (fail)
            go_quiet (fail)
            go_wp2
            go_roundg (60 - (k + 1))
            case measure => have := HG.out; omega
            case rel => exact ⟨k + 1, z + 1, by go_num, by have := HZ.out; omega, by omega, rfl, HE.out, HBW.out.trans ((ext_drewN wr _).mono HBW.out.size)⟩
end Go.Proofs.YtmgofdgbenfjmaaDoor
