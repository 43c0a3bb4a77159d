/- The reference's root and classes walked. Conditions: a skin, a grade. -/
import Derived.Test.YtmgofdgbenfjmaaDoorFl1
import Derived.Test.YtmgofdgbenfjmaaDoorPs
import Derived.Test.YtmgofdgbenfjmaaDoorRg
import Derived.Test.YtmgofdgbenfjmaaDoorTu1
namespace Go.Proofs.YtmgofdgbenfjmaaDoor
open Go.RowKit

/-- n numbers as ints -/
def intN (up : Nat → Nat) : Nat → Int := fun k => (up k : Int)
set_option maxRecDepth 100000 in
set_option maxHeartbeats 4000000 in
theorem rroot_any (b n : Nat) (up : Nat → Nat) (i : Nat) (w : World) (h : Ow 3 b n (intN up) w) (hd : ∀ k, up k ≤ k) (hi : i < n) :
    Calls Tryd.prog 88 #[.slice (some ⟨b, 0, none⟩) n n, .int .i64 (i : Int)] w fun e w' => e = .returned (.int .i64 (rtU up i : Int)) ∧ w' = w := by
  have HO := Lib.hid h
  have HD := Lib.hid hd
  have hlt := h.lt
  have HS := Lib.hid (fun j (hj : up j ≠ j) => rtU_step hd hj)
  have HF := Lib.hid (fun j (hj : up j = j) => rtU_self hj)
  clear h hd
  go_enter Tryd.func88, Tryd.ntmps88
  go_wp2_with (fail)
  go_loopg [1] i (fun gg v wr => ∃ j : Nat, v = .int .i64 j ∧ j ≤ i ∧ gg = j ∧ rtU up j = rtU up i ∧ wr = w)
  case atStart => exact ⟨i, rfl, Nat.le_refl _, rfl, rfl, rfl⟩
  case round =>
    obtain ⟨j, rfl, hj, hg, hr, rfl⟩ := hrel
    have HG := Lib.hid hg
    have HR := Lib.hid hr
    have hjn : j < n := by omega
    have hjb : (j : Int) < (n : Int) := by omega
    have c1 := HO.out.cell hjn
    have hle := HD.out j
    unfold intN at c1
    obtain ⟨q, hq⟩ : ∃ q, q = up j := ⟨_, rfl⟩
    rw [← hq] at c1 hle
    have HQ := Lib.hid hq
    clear hg hr hq
    by_cases e : q = j
    · have hne : ((q : Int) != (j : Int)) = false := by rw [e]; simp
      have HE := Lib.hid (show (j : Int) = (rtU up i : Int) from by rw [← HR.out, HF.out j (by rw [← HQ.out, e])])
      clear e
      go_wp2
      go_ret
      exact ⟨by first | rfl | (rw [HE.out]; rfl), rfl⟩
    · have hne : ((q : Int) != (j : Int)) = true := by simp only [bne_iff_ne]; omega
      have HE := Lib.hid (show rtU up q = rtU up i from by rw [← HR.out, HS.out j (by rw [← HQ.out]; exact e), ← HQ.out])
      have hlt2 : q < j := by omega
      clear e hle
      go_wp2
      go_roundg q
      case measure => have := HG.out; omega
      case rel => exact ⟨q, rfl, by omega, rfl, HE.out, rfl⟩
/-- numbers set so far -/
def idK (k : Nat) : Nat → Int := fun j => if j < k then (j : Int) else 0
theorem idK_set (k : Nat) : upd (idK k) k (k : Int) = idK (k + 1) := by
  funext j
  unfold upd idK
  by_cases e : j = k
  · subst e; rw [if_pos rfl, if_pos (by omega)]
  · rw [if_neg e]
    by_cases h : j < k
    · rw [if_pos h, if_pos (by omega)]
    · rw [if_neg h, if_neg (by omega)]
theorem intN_set (up : Nat → Nat) (M m : Nat) : upd (intN up) M (m : Int) = intN (updN up M m) := by
  funext j
  unfold upd intN updN
  by_cases e : j = M
  · rw [if_pos e, if_pos e]
  · rw [if_neg e, if_neg e]
/-- the answer under way -/
def outK (f : Nat → Int) (k : Nat) : Nat → Int := fun j => if j < k then f j else 0
theorem outK_set (f : Nat → Int) (k : Nat) : upd (outK f k) k (f k) = outK f (k + 1) := by
  funext j
  unfold upd outK
  by_cases e : j = k
  · subst e; rw [if_pos rfl, if_pos (by omega)]
  · rw [if_neg e]
    by_cases h : j < k
    · rw [if_pos h, if_pos (by omega)]
    · rw [if_neg h, if_neg (by omega)]
theorem outK_set2 (f : Nat → Int) (k : Nat) (u : Int) : upd (upd (outK f k) k u) k (f k) = outK f (k + 1) := by
  rw [← outK_set]
  funext j
  unfold upd
  by_cases e : j = k
  · rw [if_pos e, if_pos e]
  · rw [if_neg e, if_neg e, if_neg e]
theorem usb_at {l : List ByteArray} {g : Int} (hg : 1 ≤ g) : ∀ c, usb l g c = true → 0 ≤ c.1 ∧ c.1 < (wid l : Nat) ∧ 0 ≤ c.2 ∧ c.2 < (l.length : Nat) := by
  intro c h
  have h2 := usb_grid hg h
  rw [mem_box] at h2
  unfold grid at h2
  dsimp only at h2
  omega
/-- what classes answers -/
def RetCls (w : World) (l : List ByteArray) (g : Int) (e : Ending) (w' : World) : Prop :=
  ∃ (b : Nat) (up : Nat → Nat), e = .returned (.slice (some ⟨b, 0, none⟩) (wid l * l.length) (wid l * l.length)) ∧ (∀ i, up i ≤ i) ∧ RtOk (usb l g) (boxCells (grid l)) (fun c => celK (wid l) (rtU up (idxC (wid l) c))) ∧ w.heap.size ≤ b ∧
    Ow 3 b (wid l * l.length) (clsK (usb l g) (wid l) up) w' ∧ Below w.heap.size w w'
set_option maxRecDepth 100000 in
set_option maxHeartbeats 8000000 in
theorem rclasses_any (A : Option Addr) (cap : Nat) (l : List ByteArray) (g : Int) (w : World) (hok : SkOk l) (hgr : 1 ≤ g) (h : TSl w A l) :
    Calls Tryd.prog 49 #[.slice A l.length cap, .int .i64 g] w (RetCls w l g) := by
  have HGR := Lib.hid (fun x y W (hW : Below w.heap.size w W) => rgrade_any A cap l x y W hok (h.ext hW))
  have HAT := Lib.hid (usb_at (l := l) hgr)
  rcases h with h0 | ⟨b, off, rfl, hblt, hcl⟩
  · have h1 := hok.1; rw [h0] at h1; simp at h1
  obtain ⟨r0, c0, hr0⟩ := first_row hok hcl
  have hl1 := hok.1
  have hl48 := hok.2.1
  have hw48 := hok.2.2.2.1
  have hw1 := hok.2.2.1
  have HRT := Lib.hid (fun b n up i w h1 h2 h3 => rroot_any b n up i w h1 h2 h3)
  obtain ⟨us, hus⟩ : ∃ us, us = usb l g := ⟨_, rfl⟩
  have HUS := Lib.hid (show ∀ x y, (us (x, y) = true ↔ g ≤ gr l x y) from fun x y => by rw [hus]; unfold usb; simp)
  have HU := Lib.hid hus
  rw [← hus] at HAT
  obtain ⟨n, hn⟩ : ∃ n, n = wid l := ⟨_, rfl⟩
  have HN := Lib.hid hn
  rw [← hn] at hr0 hw48 hw1 HAT
  obtain ⟨N, hN⟩ : ∃ N, N = n * l.length := ⟨_, rfl⟩
  have HNN := Lib.hid hN
  have hNi : (n : Int) * (l.length : Int) = (N : Int) := by rw [hN]; push_cast; rfl
  have hNb : N ≤ 48 * 48 := by rw [hN]; exact Nat.mul_le_mul hw48 hl48
  have hmk : ∀ W, (Instr.makeSlice 64 (.int .i64 (N : Int)) (.int .i64 (N : Int))).run Tryd.prog W = .ok (.slice (some ⟨W.heap.size, 0, none⟩) N N) (W.alloc (.cells (cellsOf N fun _ => 0) 3)) := fun W => run_zeros N (by omega) W
  have HO0 := Lib.hid (Ow.new 3 w N (fun _ => 0))
  have HX0 := Lib.hid (ext_alloc w (.cells (cellsOf N fun _ => 0) 3))
  clear hus hok hcl hN hn
  go_enter Tryd.func49, Tryd.ntmps49
  go_upto_region 3 with (fail)
  obtain ⟨u, hu⟩ : ∃ u, u = w.heap.size := ⟨_, rfl⟩
  have huw : w.heap.size ≤ u := by omega
  obtain ⟨X, hX⟩ : ∃ X, X = w.alloc (.cells (cellsOf N fun _ => 0) 3) := ⟨_, rfl⟩
  rw [← hu, ← hX]
  rw [← hu, ← hX] at HO0
  rw [← hX] at HX0
  have huN : w.heap.size < X.heap.size := by rw [hX]; simp
  have HX0 := Lib.hid (show Below w.heap.size w X from HX0.out)
  clear hX hu c0
  go_wp2_with (fail)
  go_loopg [29] N (fun gg v wr => ∃ k : Nat, v = .int .i64 k ∧ k ≤ N ∧ gg = N - k ∧ Ow 3 u N (idK k) wr ∧ Below w.heap.size w wr)
  case atStart => exact ⟨0, rfl, by omega, by omega, HO0.out.congr (fun i _ => by unfold idK; rw [if_neg (by omega)]), HX0.out⟩
  case round =>
    obtain ⟨k, rfl, hk, hg, ho, hb⟩ := hrel
    have HG := Lib.hid hg
    have HO := Lib.hid ho
    have HB := Lib.hid hb
    clear hg ho hb HO0 HX0
    by_cases hlt : k < N
    · have q1 := HO.out.cell hlt
      have q2 := HO.out.frozen k
      have q3 := HO.out.lt
      have hset := HO.out.set k (k : Int)
      rw [idK_set] at hset
      have HSET := Lib.hid hset
      have HB2 := Lib.hid (HB.out.setCell (p := ⟨u, k, none⟩) huw (.int .i64 (k : Int)))
      clear hset
      go_wp2
      go_roundg (N - (k + 1))
      case measure => have := HG.out; omega
      case rel => exact ⟨k + 1, by go_num, by omega, rfl, HSET.out, HB2.out⟩
    · obtain rfl : k = N := by omega
      have HO1 := Lib.hid (show Ow 3 u k (intN fun i => i) wr from HO.out.congr (fun i hi => by unfold idK intN; rw [if_pos hi]))
      have HC0 := Lib.hid (UcI.start us n)
      obtain ⟨N, rfl⟩ : ∃ N, N = k := ⟨_, rfl⟩
      have HMK := Lib.hid hmk
      clear HO HG hlt hmk
      go_wp2_with (fail)
      go_loopg [38] l.length (fun gg v wr => ∃ (y : Nat) (up : Nat → Nat), v = .int .i64 y ∧ y ≤ l.length ∧ gg = l.length - y ∧ Ow 3 u N (intN up) wr ∧ Below w.heap.size w wr ∧ UcI us n up y 0 0)
      case atStart => exact ⟨0, _, rfl, by omega, by omega, HO1.out, HB.out, HC0.out⟩
      case round =>
        obtain ⟨y, up, rfl, hy, hg, ho, hb, hc⟩ := hrel
        have HG := Lib.hid hg
        have HO := Lib.hid ho
        have HB1 := Lib.hid hb
        have HC := Lib.hid hc
        clear hg ho hb hc HO1 HC0 HB
        by_cases hlt : y < l.length
        · have HLT := Lib.hid hlt
          go_wp2_with (fail)
          go_loopg [42] n (fun gg v wr => ∃ (x : Nat) (up : Nat → Nat), v = .int .i64 x ∧ x ≤ n ∧ gg = n - x ∧ Ow 3 u N (intN up) wr ∧ Below w.heap.size w wr ∧ UcI us n up y x 0)
          case atStart => exact ⟨0, _, rfl, by omega, by omega, HO.out, HB1.out, HC.out⟩
          case round =>
            obtain ⟨x, up, rfl, hx, hg2, ho, hb, hc⟩ := hrel
            have HG2 := Lib.hid hg2
            have HO2 := Lib.hid ho
            have HB2 := Lib.hid hb
            have HC2 := Lib.hid hc
            clear hg2 ho hb hc HO HC HB1
            by_cases hltx : x < n
            · have HLX := Lib.hid hltx
              have HXP := Lib.hid (ext_alloc wr (.cells #[.int .i64 1, .int .i64 0, .int .i64 0, .int .i64 1] 80))
              have HP := Lib.hid (Bk.new 80 wr #[.int .i64 1, .int .i64 0, .int .i64 0, .int .i64 1])
              have HO3 := Lib.hid (HO2.out.ext HXP.out)
              have HB3 := Lib.hid (bext HB2.out HXP.out HB2.out.size)
              have hub : u < wr.heap.size := HO2.out.lt
              go_upto_region 15 with (fail)
              obtain ⟨q, hq⟩ : ∃ q, q = wr.heap.size := ⟨_, rfl⟩
              obtain ⟨V, hV⟩ : ∃ V, V = wr.alloc (.cells #[.int .i64 1, .int .i64 0, .int .i64 0, .int .i64 1] 80) := ⟨_, rfl⟩
              rw [← hq, ← hV]
              rw [← hq, ← hV] at HP
              rw [← hV] at HO3 HB3
              rw [← hq] at hub
              clear hq hV HXP
              go_loopg [49] 2 (fun gg v wz => ∃ (d : Nat) (up : Nat → Nat), v = .int .i64 d ∧ d ≤ 2 ∧ gg = 2 - d ∧ Ow 3 u N (intN up) wz ∧ Below w.heap.size w wz ∧ UcI us n up y x d ∧ Bk 80 wz q #[.int .i64 1, .int .i64 0, .int .i64 0, .int .i64 1])
              case atStart => exact ⟨0, _, rfl, by omega, by omega, HO3.out, HB3.out, HC2.out, HP.out⟩
              case round =>
                obtain ⟨d, up, hv, hd, hg3, ho, hb, hc3, hp⟩ := hrel
                have HO4 := Lib.hid ho
                have HB4 := Lib.hid hb
                have HP4 := Lib.hid hp
                clear ho hb hp HO3 HB3 HC2 HP HB2 HO2
                rcases (by omega : d = 0 ∨ d = 1 ∨ d = 2) with rfl | rfl | rfl
                · subst hv
                  have HC4 := Lib.hid hc3
                  obtain ⟨x1, hx1⟩ : ∃ x1 : Int, (x : Int) + 1 = x1 := ⟨_, rfl⟩
                  have HJN := Lib.hid (HC4.out.join0 HAT.out)
                  have HSK := Lib.hid (HC4.out.skip0)
                  rw [hx1] at HJN HSK
                  have HOX := Lib.hid (HO4.out.ext (ext_alloc wr (.cells #[.int .i64 1, .int .i64 0] 80)))
                  have HPX := Lib.hid (HP4.out.ext (ext_alloc wr (.cells #[.int .i64 1, .int .i64 0] 80)))
                  have HBX := Lib.hid (bext HB4.out (ext_alloc wr (.cells #[.int .i64 1, .int .i64 0] 80)) HB4.out.size)
                  have HD := Lib.hid (Bk.new 80 wr #[.int .i64 1, .int .i64 0])
                  obtain ⟨p1, p2, p3⟩ := HP4.out.facts
                  have c1 := p1 0
                  have c2 := p1 (0 + 1)
                  simp only [List.getElem?_toArray, List.getElem?_cons_zero, List.getElem?_cons_succ, Nat.zero_add] at c1 c2
                  clear p1 hc3
                  go_upto_region 17 with (fail)
                  obtain ⟨e, he⟩ : ∃ e, e = wr.heap.size := ⟨_, rfl⟩
                  obtain ⟨Y, hY⟩ : ∃ Y, Y = wr.alloc (.cells #[.int .i64 1, .int .i64 0] 80) := ⟨_, rfl⟩
                  rw [← he, ← hY]
                  rw [← he, ← hY] at HD
                  rw [← hY] at HOX HPX HBX
                  clear he hY c1 c2 p2 p3 HO4 HP4 HB4
                  obtain ⟨d1, d2, d3⟩ := HD.out.facts
                  have e1 := d1 0
                  have e2 := d1 1
                  simp only [List.getElem?_toArray, List.getElem?_cons_zero, List.getElem?_cons_succ] at e1 e2
                  clear d1
                  have HG1 := Lib.hid (HGR.out (x : Int) (y : Int) Y HBX.out)
                  have HG3 := Lib.hid (HGR.out (x1) ((y : Int)) Y HBX.out)
                  have HU1 := Lib.hid (HUS.out (x : Int) (y : Int))
                  have HU2 := Lib.hid (HUS.out (x1) ((y : Int)))
                  obtain ⟨z1, hz1⟩ : ∃ z1, z1 = gr l (x : Int) (y : Int) := ⟨_, rfl⟩
                  obtain ⟨z2, hz2⟩ : ∃ z2, z2 = gr l (x1) ((y : Int)) := ⟨_, rfl⟩
                  rw [← hz1] at HG1 HU1
                  rw [← hz2] at HG3 HU2
                  clear hz1 hz2
                  by_cases hg1 : g ≤ z1
                  · by_cases hg3 : g ≤ z2
                    · have HJ := Lib.hid (HJN.out (HU1.out.2 hg1) (HU2.out.2 hg3))
                      have hin := HAT.out _ (HU2.out.2 hg3)
                      dsimp only at hin
                      obtain ⟨yn, hyn⟩ : ∃ yn, yn = n * y := ⟨_, rfl⟩
                      have hyi : (y : Int) * (n : Int) = (yn : Int) := by rw [hyn, Int.mul_comm]; push_cast; rfl
                      have hyN : yn + n ≤ N := by rw [hyn, HNN.out, ← Nat.mul_succ]; exact Nat.mul_le_mul_left n HLT.out
                      obtain ⟨i1, hi1⟩ : ∃ i1, i1 = yn + x := ⟨_, rfl⟩
                      have hi1i : (yn : Int) + (x : Int) = (i1 : Int) := by omega
                      have hi1N : i1 < N := by omega
                      rw [← hyn, ← hi1] at HJ
                      obtain ⟨i2, hi2⟩ : ∃ i2, i2 = i1 + 1 := ⟨_, rfl⟩
                      have hi2i : (i1 : Int) + 1 = (i2 : Int) := by omega
                      have hi2N : i2 < N := by omega
                      rw [← hi2] at HJ
                      have HR1 := Lib.hid (fun W (hW : Below Y.heap.size Y W) => HRT.out u N up i1 W (HOX.out.ext hW) HC4.out.le hi1N)
                      have HR2 := Lib.hid (fun W (hW : Below Y.heap.size Y W) => HRT.out u N up i2 W (HOX.out.ext hW) HC4.out.le hi2N)
                      have hra := rtU_le HC4.out.le i1
                      have hrb := rtU_le HC4.out.le i2
                      obtain ⟨ra, hra2⟩ : ∃ ra, ra = rtU up i1 := ⟨_, rfl⟩
                      obtain ⟨rb, hrb2⟩ : ∃ rb, rb = rtU up i2 := ⟨_, rfl⟩
                      rw [← hra2] at HR1 hra HJ
                      rw [← hrb2] at HR2 hrb HJ
                      obtain ⟨M, hM⟩ : ∃ M, M = max ra rb := ⟨_, rfl⟩
                      obtain ⟨m, hm⟩ : ∃ m, m = min ra rb := ⟨_, rfl⟩
                      have hMi : max (ra : Int) (rb : Int) = (M : Int) := by omega
                      have hmi : min (ra : Int) (rb : Int) = (m : Int) := by omega
                      have hMN : M < N := by omega
                      rw [← hM, ← hm] at HJ
                      obtain ⟨j1, hj1⟩ : ∃ j1 : Int, j1 = (i1 : Int) := ⟨_, rfl⟩
                      obtain ⟨j2, hj2⟩ : ∃ j2 : Int, j2 = (i2 : Int) := ⟨_, rfl⟩
                      rw [← hj1] at HR1 hi1i
                      rw [← hj2] at HR2 hi2i
                      have hj1b : 0 ≤ j1 ∧ j1 ≤ 3000 := by omega
                      have hj2b : 0 ≤ j2 ∧ j2 ≤ 3000 := by omega
                      rw [← hj1] at hi2i
                      clear hj1 hj2 HJN HSK hyn hi1 hi2 hra hrb hra2 hrb2 hM hm hin
                      go_upto_region 18 with (first | (go_at_call_of 34 (Value.int .i64 x1); refine (HG3.out).mono ?_; rintro r8 w8 ⟨rfl, rfl⟩) | (go_at_call 34; refine (HG1.out).mono ?_; rintro r9 w9 ⟨rfl, rfl⟩))
                      go_quiet ((first | (go_at_call_of 88 (Value.int .i64 j1); exact Calls.quiet_of_same (HR1.out _ (by first | exact ext_drewN _ _ | exact Below.refl _ _))) | (go_at_call_of 88 (Value.int .i64 j2); exact Calls.quiet_of_same (HR2.out _ (by first | exact ext_drewN _ _ | exact Below.refl _ _)))))
                      have HOQ := Lib.hid (HOX.out.ext (ext_drewN w8 nq))
                      have HPQ := Lib.hid (HPX.out.ext (ext_drewN w8 nq))
                      have HBQ := Lib.hid (bdrewN HBX.out nq)
                      obtain ⟨Z, hZ⟩ : ∃ Z, Z = w8.drewN nq := ⟨_, rfl⟩
                      rw [← hZ] at HOQ HPQ HBQ ⊢
                      clear hZ HOX HPX HBX HD d2 d3 e1 e2
                      have q1 := HOQ.out.cell hMN
                      have q2 := HOQ.out.frozen M
                      have q3 := HOQ.out.lt
                      have HOS := Lib.hid (HOQ.out.set M (m : Int))
                      rw [intN_set] at HOS
                      have HBS := Lib.hid (HBQ.out.setCell (p := ⟨u, M, none⟩) huw (.int .i64 (m : Int)))
                      have HPS := Lib.hid (HPQ.out.set_ne (k := u) (j := M) (Nat.ne_of_gt hub) (.int .i64 (m : Int)))
                      go_wp2
                      all_goals go_roundg 1
                      all_goals first | omega | exact ⟨1, _, by go_num, by omega, by omega, HOS.out, HBS.out, HJ.out, HPS.out⟩
                    · have HJ := Lib.hid (HSK.out (fun hh => hg3 (HU2.out.1 hh.2)))
                      clear HC4 HJN HSK
                      go_wp2_with (first | (go_at_call_of 34 (Value.int .i64 x1); refine (HG3.out).mono ?_; rintro r8 w8 ⟨rfl, rfl⟩) | (go_at_call 34; refine (HG1.out).mono ?_; rintro r9 w9 ⟨rfl, rfl⟩))
                      go_roundg 1
                      case measure => omega
                      case rel => exact ⟨1, up, by go_num, by omega, by omega, HOX.out, HBX.out, HJ.out, HPX.out⟩
                  · have HJ := Lib.hid (HSK.out (fun hh => hg1 (HU1.out.1 hh.1)))
                    clear HC4 HJN HSK
                    go_wp2_with ((go_at_call 34; refine (HG1.out).mono ?_; rintro r9 w9 ⟨rfl, rfl⟩))
                    go_roundg 1
                    case measure => omega
                    case rel => exact ⟨1, up, by go_num, by omega, by omega, HOX.out, HBX.out, HJ.out, HPX.out⟩
                · subst hv
                  have HC4 := Lib.hid hc3
                  obtain ⟨y1, hy1⟩ : ∃ y1 : Int, (y : Int) + 1 = y1 := ⟨_, rfl⟩
                  have HJN := Lib.hid (HC4.out.join1 HAT.out)
                  have HSK := Lib.hid (HC4.out.skip1)
                  rw [hy1] at HJN HSK
                  have HOX := Lib.hid (HO4.out.ext (ext_alloc wr (.cells #[.int .i64 0, .int .i64 1] 80)))
                  have HPX := Lib.hid (HP4.out.ext (ext_alloc wr (.cells #[.int .i64 0, .int .i64 1] 80)))
                  have HBX := Lib.hid (bext HB4.out (ext_alloc wr (.cells #[.int .i64 0, .int .i64 1] 80)) HB4.out.size)
                  have HD := Lib.hid (Bk.new 80 wr #[.int .i64 0, .int .i64 1])
                  obtain ⟨p1, p2, p3⟩ := HP4.out.facts
                  have c1 := p1 2
                  have c2 := p1 (2 + 1)
                  simp only [List.getElem?_toArray, List.getElem?_cons_zero, List.getElem?_cons_succ, Nat.reduceAdd] at c1 c2
                  clear p1 hc3
                  go_upto_region 17 with (fail)
                  obtain ⟨e, he⟩ : ∃ e, e = wr.heap.size := ⟨_, rfl⟩
                  obtain ⟨Y, hY⟩ : ∃ Y, Y = wr.alloc (.cells #[.int .i64 0, .int .i64 1] 80) := ⟨_, rfl⟩
                  rw [← he, ← hY]
                  rw [← he, ← hY] at HD
                  rw [← hY] at HOX HPX HBX
                  clear he hY c1 c2 p2 p3 HO4 HP4 HB4
                  obtain ⟨d1, d2, d3⟩ := HD.out.facts
                  have e1 := d1 0
                  have e2 := d1 1
                  simp only [List.getElem?_toArray, List.getElem?_cons_zero, List.getElem?_cons_succ] at e1 e2
                  clear d1
                  have HG1 := Lib.hid (HGR.out (x : Int) (y : Int) Y HBX.out)
                  have HG3 := Lib.hid (HGR.out ((x : Int)) (y1) Y HBX.out)
                  have HU1 := Lib.hid (HUS.out (x : Int) (y : Int))
                  have HU2 := Lib.hid (HUS.out ((x : Int)) (y1))
                  obtain ⟨z1, hz1⟩ : ∃ z1, z1 = gr l (x : Int) (y : Int) := ⟨_, rfl⟩
                  obtain ⟨z2, hz2⟩ : ∃ z2, z2 = gr l ((x : Int)) (y1) := ⟨_, rfl⟩
                  rw [← hz1] at HG1 HU1
                  rw [← hz2] at HG3 HU2
                  clear hz1 hz2
                  by_cases hg1 : g ≤ z1
                  · by_cases hg3 : g ≤ z2
                    · have HJ := Lib.hid (HJN.out (HU1.out.2 hg1) (HU2.out.2 hg3))
                      have hin := HAT.out _ (HU2.out.2 hg3)
                      dsimp only at hin
                      obtain ⟨yn, hyn⟩ : ∃ yn, yn = n * y := ⟨_, rfl⟩
                      have hyi : (y : Int) * (n : Int) = (yn : Int) := by rw [hyn, Int.mul_comm]; push_cast; rfl
                      have hyN : yn + n ≤ N := by rw [hyn, HNN.out, ← Nat.mul_succ]; exact Nat.mul_le_mul_left n HLT.out
                      obtain ⟨i1, hi1⟩ : ∃ i1, i1 = yn + x := ⟨_, rfl⟩
                      have hi1i : (yn : Int) + (x : Int) = (i1 : Int) := by omega
                      have hi1N : i1 < N := by omega
                      rw [← hyn, ← hi1] at HJ
                      obtain ⟨ym, hym⟩ : ∃ ym, ym = n * (y + 1) := ⟨_, rfl⟩
                      have hymi : y1 * (n : Int) = (ym : Int) := by rw [hym, ← hy1, Int.mul_comm]; push_cast; rfl
                      have hymN : ym + n ≤ N := by rw [hym, HNN.out, ← Nat.mul_succ]; exact Nat.mul_le_mul_left n (by omega)
                      obtain ⟨i2, hi2⟩ : ∃ i2, i2 = ym + x := ⟨_, rfl⟩
                      have hi2i : (ym : Int) + (x : Int) = (i2 : Int) := by omega
                      have hi2N : i2 < N := by omega
                      rw [← hym, ← hi2] at HJ
                      clear hym
                      have HR1 := Lib.hid (fun W (hW : Below Y.heap.size Y W) => HRT.out u N up i1 W (HOX.out.ext hW) HC4.out.le hi1N)
                      have HR2 := Lib.hid (fun W (hW : Below Y.heap.size Y W) => HRT.out u N up i2 W (HOX.out.ext hW) HC4.out.le hi2N)
                      have hra := rtU_le HC4.out.le i1
                      have hrb := rtU_le HC4.out.le i2
                      obtain ⟨ra, hra2⟩ : ∃ ra, ra = rtU up i1 := ⟨_, rfl⟩
                      obtain ⟨rb, hrb2⟩ : ∃ rb, rb = rtU up i2 := ⟨_, rfl⟩
                      rw [← hra2] at HR1 hra HJ
                      rw [← hrb2] at HR2 hrb HJ
                      obtain ⟨M, hM⟩ : ∃ M, M = max ra rb := ⟨_, rfl⟩
                      obtain ⟨m, hm⟩ : ∃ m, m = min ra rb := ⟨_, rfl⟩
                      have hMi : max (ra : Int) (rb : Int) = (M : Int) := by omega
                      have hmi : min (ra : Int) (rb : Int) = (m : Int) := by omega
                      have hMN : M < N := by omega
                      rw [← hM, ← hm] at HJ
                      obtain ⟨j1, hj1⟩ : ∃ j1 : Int, j1 = (i1 : Int) := ⟨_, rfl⟩
                      obtain ⟨j2, hj2⟩ : ∃ j2 : Int, j2 = (i2 : Int) := ⟨_, rfl⟩
                      rw [← hj1] at HR1 hi1i
                      rw [← hj2] at HR2 hi2i
                      have hj1b : 0 ≤ j1 ∧ j1 ≤ 3000 := by omega
                      have hj2b : 0 ≤ j2 ∧ j2 ≤ 3000 := by omega
                      clear hj1 hj2 HJN HSK hyn hi1 hi2 hra hrb hra2 hrb2 hM hm hin
                      go_upto_region 18 with (first | (go_at_call_of 34 (Value.int .i64 y1); refine (HG3.out).mono ?_; rintro r8 w8 ⟨rfl, rfl⟩) | (go_at_call 34; refine (HG1.out).mono ?_; rintro r9 w9 ⟨rfl, rfl⟩))
                      go_quiet ((first | (go_at_call_of 88 (Value.int .i64 j1); exact Calls.quiet_of_same (HR1.out _ (by first | exact ext_drewN _ _ | exact Below.refl _ _))) | (go_at_call_of 88 (Value.int .i64 j2); exact Calls.quiet_of_same (HR2.out _ (by first | exact ext_drewN _ _ | exact Below.refl _ _)))))
                      have HOQ := Lib.hid (HOX.out.ext (ext_drewN w8 nq))
                      have HPQ := Lib.hid (HPX.out.ext (ext_drewN w8 nq))
                      have HBQ := Lib.hid (bdrewN HBX.out nq)
                      obtain ⟨Z, hZ⟩ : ∃ Z, Z = w8.drewN nq := ⟨_, rfl⟩
                      rw [← hZ] at HOQ HPQ HBQ ⊢
                      clear hZ HOX HPX HBX HD d2 d3 e1 e2
                      have q1 := HOQ.out.cell hMN
                      have q2 := HOQ.out.frozen M
                      have q3 := HOQ.out.lt
                      have HOS := Lib.hid (HOQ.out.set M (m : Int))
                      rw [intN_set] at HOS
                      have HBS := Lib.hid (HBQ.out.setCell (p := ⟨u, M, none⟩) huw (.int .i64 (m : Int)))
                      have HPS := Lib.hid (HPQ.out.set_ne (k := u) (j := M) (Nat.ne_of_gt hub) (.int .i64 (m : Int)))
                      go_wp2
                      all_goals go_roundg 0
                      all_goals first | omega | exact ⟨2, _, by go_num, by omega, by omega, HOS.out, HBS.out, HJ.out, HPS.out⟩
                    · have HJ := Lib.hid (HSK.out (fun hh => hg3 (HU2.out.1 hh.2)))
                      clear HC4 HJN HSK
                      go_wp2_with (first | (go_at_call_of 34 (Value.int .i64 y1); refine (HG3.out).mono ?_; rintro r8 w8 ⟨rfl, rfl⟩) | (go_at_call 34; refine (HG1.out).mono ?_; rintro r9 w9 ⟨rfl, rfl⟩))
                      go_roundg 0
                      case measure => omega
                      case rel => exact ⟨2, up, by go_num, by omega, by omega, HOX.out, HBX.out, HJ.out, HPX.out⟩
                  · have HJ := Lib.hid (HSK.out (fun hh => hg1 (HU1.out.1 hh.1)))
                    clear HC4 HJN HSK
                    go_wp2_with ((go_at_call 34; refine (HG1.out).mono ?_; rintro r9 w9 ⟨rfl, rfl⟩))
                    go_roundg 0
                    case measure => omega
                    case rel => exact ⟨2, up, by go_num, by omega, by omega, HOX.out, HBX.out, HJ.out, HPX.out⟩
                · subst hv
                  have HCC := Lib.hid hc3.cell
                  clear hc3
                  go_wp2
                  go_roundg (n - (x + 1))
                  case measure => have := HG2.out; have := HLX.out; omega
                  case rel => exact ⟨x + 1, up, by go_num, by have := HLX.out; omega, rfl, HO4.out, HB4.out, HCC.out⟩
            · obtain rfl : x = n := by omega
              have HCR := Lib.hid (HC2.out.row HAT.out)
              clear HC2
              go_wp2
              go_roundg (l.length - (y + 1))
              case measure => have := HG.out; have := HLT.out; omega
              case rel => exact ⟨y + 1, up, by go_num, by have := HLT.out; omega, rfl, HO2.out, HB2.out, HCR.out⟩
        · have hyl : y = l.length := by omega
          subst hyl
          have HRT2 := Lib.hid (HC.out.ok HAT.out)
          have HLE := Lib.hid HC.out.le
          have hmk := fun W => HMK.out W
          have HOV := Lib.hid (Ow.new 3 wr N (fun _ => 0))
          have HOU := Lib.hid (HO.out.ext (ext_alloc wr (.cells (cellsOf N fun _ => 0) 3)))
          have HBV := Lib.hid (bext HB1.out (ext_alloc wr (.cells (cellsOf N fun _ => 0) 3)) HB1.out.size)
          have hvw : w.heap.size ≤ wr.heap.size := HB1.out.size
          have huv : u < wr.heap.size := HO.out.lt
          clear HC hlt
          go_upto_region 24 with (fail)
          clear hmk
          obtain ⟨v, hv⟩ : ∃ v, v = wr.heap.size := ⟨_, rfl⟩
          obtain ⟨V, hV⟩ : ∃ V, V = wr.alloc (.cells (cellsOf N fun _ => 0) 3) := ⟨_, rfl⟩
          rw [← hv, ← hV]
          rw [← hv, ← hV] at HOV
          rw [← hV] at HOU HBV
          rw [← hv] at hvw huv
          clear hv hV HO HB1
          obtain ⟨cl, hcl⟩ : ∃ cl, cl = clsK us n up := ⟨_, rfl⟩
          have HCL := Lib.hid hcl
          clear hcl
          go_wp2_with (fail)
          go_loopg [110] N (fun gg z wr => ∃ k : Nat, z = .int .i64 k ∧ k ≤ N ∧ gg = N - k ∧ Ow 3 v N (outK cl k) wr ∧ Ow 3 u N (intN up) wr ∧ Below w.heap.size w wr)
          case atStart => exact ⟨0, rfl, by omega, by omega, HOV.out.congr (fun i _ => by unfold outK; rw [if_neg (by omega)]), HOU.out, HBV.out⟩
          case round =>
            obtain ⟨k, rfl, hk, hg, hov, hou, hb⟩ := hrel
            have HG3 := Lib.hid hg
            have HV2 := Lib.hid hov
            have HU2 := Lib.hid hou
            have HB3 := Lib.hid hb
            clear hg hov hou hb HOV HOU HBV
            by_cases hlt : k < N
            · have q1 := HV2.out.cell hlt
              have q2 := HV2.out.frozen k
              have q3 := HV2.out.lt
              have HV3 := Lib.hid (HV2.out.set k (-1))
              have HU3 := Lib.hid (HU2.out.set_ne (k := v) (j := k) (Nat.ne_of_lt huv) (.int .i64 (-1)))
              have HB4 := Lib.hid (HB3.out.setCell (p := ⟨v, k, none⟩) hvw (.int .i64 (-1)))
              go_upto_region 28 with (fail)
              obtain ⟨Y, hY⟩ : ∃ Y, Y = wr.setCell ⟨v, k, none⟩ (.int .i64 (-1)) := ⟨_, rfl⟩
              rw [← hY]
              rw [← hY] at HV3 HU3 HB4
              clear hY q1 q2 q3 HV2 HU2 HB3
              obtain ⟨px, hpx⟩ : ∃ px, px = k % n := ⟨_, rfl⟩
              obtain ⟨py, hpy⟩ : ∃ py, py = k / n := ⟨_, rfl⟩
              have hpn : px < n := by rw [hpx]; exact Nat.mod_lt _ (by omega)
              have hpk : py ≤ k := by rw [hpy]; exact Nat.div_le_self _ _
              have htm : (k : Int).tmod (n : Int) = (px : Int) := by rw [Int.tmod_eq_emod_of_nonneg (by omega), hpx]; push_cast; rfl
              have htd : (k : Int).tdiv (n : Int) = (py : Int) := by rw [Int.tdiv_eq_ediv_of_nonneg (by omega), hpy]; push_cast; rfl
              have hn0 : ¬ (n : Int) = 0 := by omega
              have HCE := Lib.hid (show celK n k = ((px : Int), (py : Int)) from by unfold celK; rw [← hpx, ← hpy])
              have HG1 := Lib.hid (fun W (hW : Below w.heap.size w W) => HGR.out (px : Int) (py : Int) W hW)
              have HU1 := Lib.hid (HUS.out (px : Int) (py : Int))
              obtain ⟨z1, hz1⟩ : ∃ z1, z1 = gr l (px : Int) (py : Int) := ⟨_, rfl⟩
              rw [← hz1] at HG1 HU1
              clear hz1 hpx hpy
              go_quiet (exact Calls.quiet_of_same (HG1.out _ (by first | exact bdrewN HB4.out _ | exact HB4.out)))
              have HVQ := Lib.hid (HV3.out.ext (ext_drewN Y nq))
              have HUQ := Lib.hid (HU3.out.ext (ext_drewN Y nq))
              have HBQ := Lib.hid (bdrewN HB4.out nq)
              obtain ⟨Z, hZ⟩ : ∃ Z, Z = Y.drewN nq := ⟨_, rfl⟩
              rw [← hZ] at HVQ HUQ HBQ ⊢
              clear hZ HV3 HU3 HB4 HG1 hn0 htm htd
              by_cases hgz : g ≤ z1
              · have HCK := Lib.hid (show cl k = (rtU up k : Int) from by rw [HCL.out]; unfold clsK; rw [HCE.out, if_pos (HU1.out.2 hgz)])
                have HRK := Lib.hid (HRT.out u N up k Z HUQ.out HLE.out hlt)
                have hrk := rtU_le HLE.out k
                obtain ⟨rk, hrk2⟩ : ∃ rk, rk = rtU up k := ⟨_, rfl⟩
                rw [← hrk2] at HCK HRK hrk
                clear hrk2
                have q1 := HVQ.out.cell hlt
                have q2 := HVQ.out.frozen k
                have q3 := HVQ.out.lt
                have hst := HVQ.out.set k (rk : Int)
                rw [← HCK.out, outK_set2, HCK.out] at hst
                have HST := Lib.hid hst
                have HUS2 := Lib.hid (HUQ.out.set_ne (k := v) (j := k) (Nat.ne_of_lt huv) (.int .i64 (rk : Int)))
                have HBS := Lib.hid (HBQ.out.setCell (p := ⟨v, k, none⟩) hvw (.int .i64 (rk : Int)))
                clear hst HVQ HUQ HBQ
                go_wp2_with (go_at_call 88; refine (HRK.out).mono ?_; rintro r9 w9 ⟨rfl, rfl⟩)
                go_roundg (N - (k + 1))
                case measure => have := HG3.out; omega
                case rel => exact ⟨k + 1, by go_num, by omega, rfl, HST.out, HUS2.out, HBS.out⟩
              · have HCK := Lib.hid (show cl k = -1 from by rw [HCL.out]; unfold clsK; rw [HCE.out, if_neg (fun h => hgz (HU1.out.1 h))])
                have HST := Lib.hid (show Ow 3 v N (outK cl (k + 1)) Z from by rw [← outK_set, HCK.out]; exact HVQ.out)
                go_wp2
                go_roundg (N - (k + 1))
                case measure => have := HG3.out; omega
                case rel => exact ⟨k + 1, by go_num, by omega, rfl, HST.out, HUQ.out, HBQ.out⟩
            · have hkN : k = N := by omega
              have HST := Lib.hid (show Ow 3 v N cl wr from HV2.out.congr (fun i hi => by unfold outK; rw [if_pos (by omega)]))
              obtain rfl := hkN
              clear HV2
              go_wp2
              refine bodyPost_ret (v := .slice (some ⟨v, 0, none⟩) k k) (by simp [results, Tryd.results49, go_sem]) rfl ?_
              refine ⟨v, up, ?_, HLE.out, ?_, hvw, ?_, HB3.out⟩
              · rw [← HN.out, ← HNN.out]
              · have h := HRT2.out
                rw [HU.out, HN.out] at h
                exact h
              · rw [← HN.out, ← HNN.out, ← HU.out, ← HCL.out]; exact HST.out
end Go.Proofs.YtmgofdgbenfjmaaDoor
