/- The reference's Largest walked. Conditions: each string's length is an int. -/
import Derived.Test.YtmgofdgbenfjmaaDoorBrP
namespace Go.Proofs.YtmgofdgbenfjmaaDoor
open Go.RowKit

set_option maxRecDepth 100000 in
set_option maxHeartbeats 8000000 in
theorem rlargest_any (sq : Bool) (A : Option Addr) (cap : Nat) (l : List ByteArray) (g : Int) (w : World) (hc : l.length ≤ cap) (hcm : cap ≤ 9223372036854775807) (h : TSl w A l) (hz : TSz l) :
    Calls Tryd.prog 19 #[.slice A l.length cap, .int .i64 g, .bool sq] w (RetLg w l g sq) := by
  have hx0 := ext_alloc w (.cells #[.int .i64 0, .int .i64 0, .int .i64 0, .int .i64 0] 31)
  have HX0 := Lib.hid hx0
  have HZR := Lib.hid (Bk.new 31 w #[.int .i64 0, .int .i64 0, .int .i64 0, .int .i64 0])
  have HGD := Lib.hid (good_any A cap l g _ hc hcm (h.ext hx0) hz)
  by_cases hps : PsOk l g
  · rw [decide_eq_true hps] at HGD
    have HPS := Lib.hid hps
    have hok := hps.1
    have HSM := Lib.hid (fun W (hW : Below w.heap.size w W) => rsums_any A cap l g W hok (h.ext hW))
    rcases h with h0 | ⟨b, off, rfl, hblt, hcl⟩
    · have h1 := hok.1; rw [h0] at h1; simp at h1
    have HC := Lib.hid (show ∀ W, Below w.heap.size w W → b < W.heap.size ∧ ∃ r0 : ByteArray, W.cell? ⟨b, off, none⟩ = some (.string r0) ∧ r0.size = wid l from fun W hW => ⟨Nat.lt_of_lt_of_le hblt hW.size, first_row hok (fun j hj => (hW.cell (p := ⟨b, off + j, none⟩) hblt).trans (hcl j hj))⟩)
    have hl1 := hok.1
    have hl48 := hok.2.1
    have hw48 := hok.2.2.2.1
    have hg1 := hps.2.1
    have HFU := Lib.hid (fun v a b x y W ho hx hy ha hb => rfull_any l g v a b x y W ho hg1 hw48 hl48 hx hy ha hb)
    have HINN := Lib.hid (usb_inn (l := l) hg1)
    obtain ⟨us, hus⟩ : ∃ us, us = usb l g := ⟨_, rfl⟩
    have HU := Lib.hid hus
    rw [← hus] at HFU HINN
    obtain ⟨F, hF⟩ : ∃ F, F = sumF l g (wid l + 1) := ⟨_, rfl⟩
    rw [← hF] at HSM HFU
    obtain ⟨n, hn⟩ : ∃ n, n = wid l := ⟨_, rfl⟩
    rw [← hn] at HC hw48 HSM HFU HINN
    obtain ⟨N, hN⟩ : ∃ N, N = (n + 1) * (l.length + 1) := ⟨_, rfl⟩
    rw [← hN] at HSM HFU
    obtain ⟨h, hh⟩ : ∃ h, h = l.length := ⟨_, rfl⟩
    rw [← hh] at HFU HINN hl48
    have HH := Lib.hid hh
    have hhl : (l.length : Int) = (h : Int) := by omega
    clear hus hF hn hN hh hok hps hcl hblt hz
    go_enter Tryd.func19, Tryd.ntmps19
    go_upto_region 3 with (go_at_call 21; refine (HGD.out).mono ?_; rintro e w1 ⟨rfl, hx1⟩)
    have HZ1 := Lib.hid (HZR.out.ext hx1)
    have hx1 := bext HX0.out hx1 HX0.out.size
    obtain ⟨hb1, r0, c0, hr0⟩ := HC.out w1 hx1
    go_upto_region 4 with (fail)
    go_upto_region 5 with (go_at_call 55; refine (HSM.out w1 hx1).mono ?_; rintro e w2 ⟨v, rfl, hv1, ho, hx2⟩)
    have HO := Lib.hid ho
    have HB12 := Lib.hid (bext hx1 hx2 hx1.size)
    obtain ⟨B, hB⟩ : ∃ B, B = w2.heap.size := ⟨_, rfl⟩
    have hvB : v < B := by rw [hB]; exact ho.lt
    have hBw : B ≤ w2.heap.size := by omega
    have hBB : w.heap.size ≤ B := by rw [hB]; exact HB12.out.size
    have HOW := Lib.hid (show ∀ W, Below B w2 W → Ow 3 v N F W from fun W hW => HO.out.below hW hvB)
    have HZ2 := Lib.hid (HZ1.out.ext hx2)
    have hrB : w.heap.size < B := by rw [hB]; exact HZ2.out.lt
    have HZW := Lib.hid (show ∀ W, Below B w2 W → Bk 31 W w.heap.size #[.int .i64 0, .int .i64 0, .int .i64 0, .int .i64 0] from fun W hW => HZ2.out.below hW hrB)
    have HQN := Lib.hid (Bk.new 31 w2 #[.int .i64 0, .int .i64 0, .int .i64 0, .int .i64 0])
    have HBN := Lib.hid (show Below B w2 (w2.alloc (.cells #[.int .i64 0, .int .i64 0, .int .i64 0, .int .i64 0] 31)) from (Below.refl B w2).alloc hBw _)
    have HM0 := Lib.hid (BrI.start us sq)
    clear ho hx2 hv1 c0 hb1 hr0 hx1 HC HSM HGD HZ1 HZ2 HZR HX0 hx0
    go_upto_region 6 with (fail)
    obtain ⟨bq, hbq⟩ : ∃ bq, bq = w2.heap.size := ⟨_, rfl⟩
    obtain ⟨w3, hw3⟩ : ∃ w3, w3 = w2.alloc (.cells #[.int .i64 0, .int .i64 0, .int .i64 0, .int .i64 0] 31) := ⟨_, rfl⟩
    rw [← hbq, ← hw3]
    rw [← hbq, ← hw3] at HQN
    rw [← hw3] at HBN
    have hbw : B ≤ bq := by omega
    obtain ⟨rp, hrp⟩ : ∃ rp, rp = w.heap.size := ⟨_, rfl⟩
    rw [← hrp]
    rw [← hrp] at HZW
    have hrpw : w.heap.size ≤ rp := by omega
    clear hbq hw3 hB hrp
    go_wp2_with (fail)
    go_loopg [34] h (fun gg z wr => ∃ (y : Nat) (m : Rn), z = .int .i64 y ∧ y ≤ h ∧ gg = h - y ∧ Bk 31 wr bq (rcs m).toArray ∧ Below B w2 wr ∧ BrI us sq ⟨0, y, 1, 1⟩ m)
    case atStart => exact ⟨0, noR, rfl, by omega, by omega, HQN.out, HBN.out, HM0.out⟩
    case round =>
      obtain ⟨y, m, rfl, hy, hgg, hq, hb, hm⟩ := hrel
      have HG1 := Lib.hid hgg
      have HQ1 := Lib.hid hq
      have HB1 := Lib.hid hb
      have HM1 := Lib.hid hm
      clear hgg hq hb hm HQN HBN HM0
      by_cases hyh : y < h
      · have HYH := Lib.hid hyh
        go_wp2_with (fail)
        go_loopg [38] n (fun gg z wr => ∃ (x : Nat) (m : Rn), z = .int .i64 x ∧ x ≤ n ∧ gg = n - x ∧ Bk 31 wr bq (rcs m).toArray ∧ Below B w2 wr ∧ BrI us sq ⟨x, y, 1, 1⟩ m)
        case atStart => exact ⟨0, m, rfl, by omega, by omega, HQ1.out, HB1.out, HM1.out⟩
        case round =>
          obtain ⟨x, m, rfl, hx, hgg, hq, hb, hm⟩ := hrel
          have HG2 := Lib.hid hgg
          have HQ2 := Lib.hid hq
          have HB2 := Lib.hid hb
          have HM2 := Lib.hid hm
          clear hgg hq hb hm HQ1 HB1 HM1
          by_cases hxn : x < n
          · have HXN := Lib.hid hxn
            go_wp2_with (fail)
            go_loopg [14] n (fun gg z wr => ∃ (a : Nat) (m : Rn), z = .int .i64 a ∧ 1 ≤ a ∧ x + a ≤ n + 1 ∧ gg = n + 1 - a ∧ Bk 31 wr bq (rcs m).toArray ∧ Below B w2 wr ∧ BrI us sq ⟨x, y, a, 1⟩ m)
            case atStart => exact ⟨1, m, rfl, by omega, by omega, by omega, HQ2.out, HB2.out, HM2.out⟩
            case round =>
              obtain ⟨a, m, rfl, ha1, ha2, hgg, hq, hb, hm⟩ := hrel
              have HG3 := Lib.hid hgg
              have HQ3 := Lib.hid hq
              have HB3 := Lib.hid hb
              have HM3 := Lib.hid hm
              clear hgg hq hb hm HQ2 HB2 HM2
              by_cases hxa : x + a ≤ n
              · have hxaI : (x : Int) + (a : Int) ≤ (n : Int) := by omega
                go_wp2_with (fail)
                go_loopg [15] h (fun gg z wr => ∃ (b : Nat) (m : Rn), z = .int .i64 b ∧ 1 ≤ b ∧ y + b ≤ h + 1 ∧ gg = h + 1 - b ∧ Bk 31 wr bq (rcs m).toArray ∧ Below B w2 wr ∧ BrI us sq ⟨x, y, a, b⟩ m)
                case atStart => exact ⟨1, m, rfl, by omega, by omega, by omega, HQ3.out, HB3.out, HM3.out⟩
                case round =>
                  obtain ⟨b, m, rfl, hb1, hb2, hgg, hq, hb, hm⟩ := hrel
                  have HG4 := Lib.hid hgg
                  have HQ4 := Lib.hid hq
                  have HB4 := Lib.hid hb
                  have HM4 := Lib.hid hm
                  clear hgg hq hb hm HQ3 HB3 HM3
                  by_cases hyb : y + b ≤ h
                  · have hybI : (y : Int) + (b : Int) ≤ (h : Int) := by omega
                    have hsm := HM4.out.sm HINN.out (by omega) (by omega)
                    have HPUT := Lib.hid (fun W (hW : Bk 31 W bq (rcs m).toArray) => rect_put W bq ⟨x, y, a, b⟩ hW)
                    obtain ⟨mx, my, ma, mc⟩ := m
                    unfold SmR at hsm
                    dsimp only at hsm
                    obtain ⟨ab, hab2⟩ : ∃ ab, ab = a * b := ⟨_, rfl⟩
                    obtain ⟨mb, hmb2⟩ : ∃ mb, mb = ma * mc := ⟨_, rfl⟩
                    have habi : (a : Int) * (b : Int) = (ab : Int) := by rw [hab2]; push_cast; rfl
                    have hmbi : (ma : Int) * (mc : Int) = (mb : Int) := by rw [hmb2]; push_cast; rfl
                    have habb : ab ≤ 48 * 48 := by rw [hab2]; exact Nat.mul_le_mul (by omega) (by omega)
                    have hmbb : mb ≤ 100 * 100 := by rw [hmb2]; exact Nat.mul_le_mul hsm.2.2.1 hsm.2.2.2
                    have habn := hab2.symm
                    have hmbn := hmb2.symm
                    clear hab2 hmb2
                    have HXR := Lib.hid (ext_alloc wr (.cells #[.int .i64 (x : Int), .int .i64 (y : Int), .int .i64 (a : Int), .int .i64 (b : Int)] 31))
                    have HRS := Lib.hid (Bk.new 31 wr #[.int .i64 (x : Int), .int .i64 (y : Int), .int .i64 (a : Int), .int .i64 (b : Int)])
                    have HQS := Lib.hid (HQ4.out.ext HXR.out)
                    have HBS := Lib.hid (bext HB4.out HXR.out (Nat.le_trans hBw HB4.out.size))
                    go_upto_region 19 with (fail)
                    obtain ⟨rq, hrq⟩ : ∃ rq, rq = wr.heap.size := ⟨_, rfl⟩
                    obtain ⟨V, hV⟩ : ∃ V, V = wr.alloc (.cells #[.int .i64 (x : Int), .int .i64 (y : Int), .int .i64 (a : Int), .int .i64 (b : Int)] 31) := ⟨_, rfl⟩
                    rw [← hrq, ← hV]
                    rw [← hrq, ← hV] at HRS
                    rw [← hV] at HQS HBS
                    clear hrq hV HXR HQ4 HB4
                    obtain ⟨r1, r2, r3⟩ := HRS.out.facts
                    have HQF := Lib.hid (show ∀ W, Bk 31 W bq (rcs ⟨mx, my, ma, mc⟩).toArray → W.cell? ⟨bq, 0, none⟩ = some (.int .i64 (mx : Int)) ∧ W.cell? ⟨bq, 1, none⟩ = some (.int .i64 (my : Int)) ∧ W.cell? ⟨bq, 2, none⟩ = some (.int .i64 (ma : Int)) ∧ W.cell? ⟨bq, 3, none⟩ = some (.int .i64 (mc : Int)) ∧ (∀ i, W.frozen? ⟨bq, i, none⟩ = false) ∧ bq < W.heap.size from fun W hW => ⟨hW.cell 0, hW.cell 1, hW.cell 2, hW.cell 3, hW.frozen, hW.lt⟩)
                    obtain ⟨k1, k2, k3, k4, k5, k6⟩ := HQF.out _ HQS.out
                    have HF0 := Lib.hid (fun W (hW : Below B w2 W) => HFU.out v a b (x : Int) (y : Int) W (HOW.out W hW) (by omega) (by omega) (by omega) (by omega))
                    rw [fuR_nat] at HF0
                    have HABN := Lib.hid habn
                    have HMBN := Lib.hid hmbn
                    clear habn hmbn
                    go_cut [73] from 55 to 112 (fun z wx => ∃ c : Bool, z = .bool c ∧ (c = true → ¬ UsR us sq ⟨x, y, a, b⟩) ∧ (c = false → UsR us sq ⟨x, y, a, b⟩) ∧ Bk 31 wx rq #[.int .i64 (x : Int), .int .i64 (y : Int), .int .i64 (a : Int), .int .i64 (b : Int)] ∧ Bk 31 wx bq (rcs ⟨mx, my, ma, mc⟩).toArray ∧ Below B w2 wx)
                    case first =>
                      cases sq
                      · cases hf0 : fuB us x y a b
                        ·
                          have HU0 := Lib.hid (show ¬ UsR us false ⟨x, y, a, b⟩ from fun hu => fu_no.1 hf0 hu.2.2.1)
                          rw [hf0] at HF0
                          clear hf0
                          go_wp2_with ((go_at_call 56; refine (HF0.out _ HBS.out).mono ?_; rintro e0 z0 ⟨rfl, hx0⟩; have HB0 := Lib.hid (bext HBS.out hx0 (Nat.le_trans hBw HBS.out.size)); have HQ0 := Lib.hid (HQS.out.ext hx0); have HR0 := Lib.hid (HRS.out.ext hx0); clear hx0 r1 r2 r3 k1 k2 k3 k4 k5 k6))
                          go_meet
                          case rel => exact ⟨true, rfl, fun _ => HU0.out, (fun h => nomatch h), HR0.out, HQ0.out, HB0.out⟩
                        ·
                          have HU0 := Lib.hid (show UsR us false ⟨x, y, a, b⟩ from ⟨ha1, hb1, fu_iff.1 hf0, fun h => by cases h⟩)
                          rw [hf0] at HF0
                          clear hf0
                          go_wp2_with ((go_at_call 56; refine (HF0.out _ HBS.out).mono ?_; rintro e0 z0 ⟨rfl, hx0⟩; have HB0 := Lib.hid (bext HBS.out hx0 (Nat.le_trans hBw HBS.out.size)); have HQ0 := Lib.hid (HQS.out.ext hx0); have HR0 := Lib.hid (HRS.out.ext hx0); clear hx0 r1 r2 r3 k1 k2 k3 k4 k5 k6))
                          go_meet
                          case rel => exact ⟨false, rfl, (fun h => nomatch h), fun _ => HU0.out, HR0.out, HQ0.out, HB0.out⟩
                      · by_cases haeb : a = b
                        · have hne : ((a : Int) != (b : Int)) = false := by simp; omega
                          cases hf0 : fuB us x y a b
                          ·
                            have HU0 := Lib.hid (show ¬ UsR us true ⟨x, y, a, b⟩ from fun hu => fu_no.1 hf0 hu.2.2.1)
                            rw [hf0] at HF0
                            clear hf0 haeb
                            go_wp2_with ((go_at_call 56; refine (HF0.out _ HBS.out).mono ?_; rintro e0 z0 ⟨rfl, hx0⟩; have HB0 := Lib.hid (bext HBS.out hx0 (Nat.le_trans hBw HBS.out.size)); have HQ0 := Lib.hid (HQS.out.ext hx0); have HR0 := Lib.hid (HRS.out.ext hx0); clear hx0 r1 r2 r3 k1 k2 k3 k4 k5 k6))
                            go_meet
                            case rel => exact ⟨true, rfl, fun _ => HU0.out, (fun h => nomatch h), HR0.out, HQ0.out, HB0.out⟩
                          ·
                            have HU0 := Lib.hid (show UsR us true ⟨x, y, a, b⟩ from ⟨ha1, hb1, fu_iff.1 hf0, fun _ => haeb⟩)
                            rw [hf0] at HF0
                            clear hf0 haeb
                            go_wp2_with ((go_at_call 56; refine (HF0.out _ HBS.out).mono ?_; rintro e0 z0 ⟨rfl, hx0⟩; have HB0 := Lib.hid (bext HBS.out hx0 (Nat.le_trans hBw HBS.out.size)); have HQ0 := Lib.hid (HQS.out.ext hx0); have HR0 := Lib.hid (HRS.out.ext hx0); clear hx0 r1 r2 r3 k1 k2 k3 k4 k5 k6))
                            go_meet
                            case rel => exact ⟨false, rfl, (fun h => nomatch h), fun _ => HU0.out, HR0.out, HQ0.out, HB0.out⟩
                        · have hne : ((a : Int) != (b : Int)) = true := by simp; omega
                          have HU0 := Lib.hid (show ¬ UsR us true ⟨x, y, a, b⟩ from fun hu => haeb (hu.2.2.2 rfl))
                          clear haeb
                          go_wp2
                          go_meet
                          case rel => exact ⟨true, rfl, fun _ => HU0.out, (fun h => nomatch h), HRS.out, HQS.out, HBS.out⟩
                    case rest =>
                      obtain ⟨c, rfl, hn0, hu0, hr, hq, hb⟩ := hcut
                      have HR5 := Lib.hid hr
                      have HQ5 := Lib.hid hq
                      have HB5 := Lib.hid hb
                      clear hr hq hb HF0 HRS HQS HBS r1 r2 r3 k1 k2 k3 k4 k5 k6
                      rename_i hKc
                      refine hKc _ _ ?_
                      cases c
                      · have HUS := Lib.hid (hu0 rfl)
                        clear hn0 hu0
                        obtain ⟨r1, r2, r3⟩ := HR5.out.facts
                        obtain ⟨k1, k2, k3, k4, k5, k6⟩ := HQF.out _ HQ5.out
                        go_upto_region 20 with (fail)
                        go_cut [17] from 55 to 112 (fun z wx => ∃ c : Bool, z = .bool c ∧ (c = true ↔ (ab = mb ∧ y = my ∧ x = mx ∧ ma < a)) ∧ Bk 31 wx rq #[.int .i64 (x : Int), .int .i64 (y : Int), .int .i64 (a : Int), .int .i64 (b : Int)] ∧ Bk 31 wx bq (rcs ⟨mx, my, ma, mc⟩).toArray ∧ Below B w2 wx)
                        case first =>
                          by_cases h1 : ab = mb
                          · have t1 : ((ab : Int) == (mb : Int)) = true := by simp; omega
                            by_cases h2 : y = my
                            · have t4 : ((y : Int) == (my : Int)) = true := by simp; omega
                              by_cases h3 : x = mx
                              · have t5 : ((x : Int) == (mx : Int)) = true := by simp; omega
                                by_cases h4 : ma < a
                                ·
                                  have t6 : (ma : Int) < (a : Int) := by omega
                                  have HS0 := Lib.hid (show (true = true ↔ (ab = mb ∧ y = my ∧ x = mx ∧ ma < a)) from ⟨fun _ => ⟨h1, h2, h3, h4⟩, fun _ => rfl⟩)
                                  clear h1 h2 h3
                                  go_wp2_with (fail)
                                  go_meet
                                  case rel => exact ⟨true, rfl, (by first | exact HS0.out | simpa using HS0.out), by first | exact HR5.out | exact HR5.out.ext (ext_drewN _ _), by first | exact HQ5.out | exact HQ5.out.ext (ext_drewN _ _), by first | exact HB5.out | exact bext HB5.out (ext_drewN _ _) (Nat.le_trans hBw HB5.out.size)⟩
                                ·
                                  have t6 : ¬ (ma : Int) < (a : Int) := by omega
                                  have HS0 := Lib.hid (show (false = true ↔ (ab = mb ∧ y = my ∧ x = mx ∧ ma < a)) from ⟨(fun h => nomatch h), fun h => absurd h.2.2.2 h4⟩)
                                  clear h1 h2 h3
                                  go_wp2_with (fail)
                                  go_meet
                                  case rel => exact ⟨false, rfl, (by first | exact HS0.out | simpa using HS0.out), by first | exact HR5.out | exact HR5.out.ext (ext_drewN _ _), by first | exact HQ5.out | exact HQ5.out.ext (ext_drewN _ _), by first | exact HB5.out | exact bext HB5.out (ext_drewN _ _) (Nat.le_trans hBw HB5.out.size)⟩
                              ·
                                have t5 : ((x : Int) == (mx : Int)) = false := by simp; omega
                                have HS0 := Lib.hid (show (false = true ↔ (ab = mb ∧ y = my ∧ x = mx ∧ ma < a)) from ⟨(fun h => nomatch h), fun h => absurd h.2.2.1 h3⟩)
                                clear h1 h2 h3
                                go_wp2_with (fail)
                                go_meet
                                case rel => exact ⟨false, rfl, (by first | exact HS0.out | simpa using HS0.out), by first | exact HR5.out | exact HR5.out.ext (ext_drewN _ _), by first | exact HQ5.out | exact HQ5.out.ext (ext_drewN _ _), by first | exact HB5.out | exact bext HB5.out (ext_drewN _ _) (Nat.le_trans hBw HB5.out.size)⟩
                            ·
                              have t4 : ((y : Int) == (my : Int)) = false := by simp; omega
                              have HS0 := Lib.hid (show (false = true ↔ (ab = mb ∧ y = my ∧ x = mx ∧ ma < a)) from ⟨(fun h => nomatch h), fun h => absurd h.2.1 h2⟩)
                              clear h1 h2
                              go_wp2_with (fail)
                              go_meet
                              case rel => exact ⟨false, rfl, (by first | exact HS0.out | simpa using HS0.out), by first | exact HR5.out | exact HR5.out.ext (ext_drewN _ _), by first | exact HQ5.out | exact HQ5.out.ext (ext_drewN _ _), by first | exact HB5.out | exact bext HB5.out (ext_drewN _ _) (Nat.le_trans hBw HB5.out.size)⟩
                          ·
                            have t1 : ((ab : Int) == (mb : Int)) = false := by simp; omega
                            have HS0 := Lib.hid (show (false = true ↔ (ab = mb ∧ y = my ∧ x = mx ∧ ma < a)) from ⟨(fun h => nomatch h), fun h => absurd h.1 h1⟩)
                            clear h1
                            go_wp2_with (fail)
                            go_meet
                            case rel => exact ⟨false, rfl, (by first | exact HS0.out | simpa using HS0.out), by first | exact HR5.out | exact HR5.out.ext (ext_drewN _ _), by first | exact HQ5.out | exact HQ5.out.ext (ext_drewN _ _), by first | exact HB5.out | exact bext HB5.out (ext_drewN _ _) (Nat.le_trans hBw HB5.out.size)⟩
                        case rest =>
                          obtain ⟨c, rfl, hsm2, hr, hq, hb⟩ := hcut
                          have HR6 := Lib.hid hr
                          have HQ6 := Lib.hid hq
                          have HB6 := Lib.hid hb
                          clear hr hq hb HR5 HQ5 HB5 r1 r2 r3 k1 k2 k3 k4 k5 k6 hKc
                          obtain ⟨r1, r2, r3⟩ := HR6.out.facts
                          obtain ⟨k1, k2, k3, k4, k5, k6⟩ := HQF.out _ HQ6.out
                          by_cases hcs : mb < ab
                          ·
                            have t2 : (mb : Int) < (ab : Int) := by omega
                            have HMN := Lib.hid (HM4.out.upd HUS.out (by unfold updR; dsimp only; rw [HABN.out, HMBN.out]; omega))
                            clear hsm2
                            go_wp2_with (fail)
                            go_roundg (h + 1 - (b + 1))
                            case measure => have := HG4.out; omega
                            case rel => exact ⟨b + 1, ⟨x, y, a, b⟩, by go_num, by omega, by omega, by omega, HPUT.out _ HQ6.out, four_b HB6.out hbw _ _ _ _, HMN.out⟩
                          · have t2 : ¬ (mb : Int) < (ab : Int) := by omega
                            cases c
                            ·
                              have h7 : ¬ (ab = mb ∧ y = my ∧ x = mx ∧ ma < a) := fun h => by have := hsm2.2 h; cases this
                              have HMN := Lib.hid (HM4.out.keep HUS.out (by unfold updR; dsimp only; rw [HABN.out, HMBN.out]; omega))
                              clear hsm2 h7
                              go_wp2_with (fail)
                              go_roundg (h + 1 - (b + 1))
                              case measure => have := HG4.out; omega
                              case rel => exact ⟨b + 1, ⟨mx, my, ma, mc⟩, by go_num, by omega, by omega, by omega, by first | exact HQ6.out | exact HQ6.out.ext (ext_drewN _ _), by first | exact HB6.out | exact bext HB6.out (ext_drewN _ _) (Nat.le_trans hBw HB6.out.size), HMN.out⟩
                            ·
                              obtain ⟨h1, h2, h3, h4⟩ := hsm2.1 rfl
                              have HMN := Lib.hid (HM4.out.upd HUS.out (by unfold updR; dsimp only; rw [HABN.out, HMBN.out]; omega))
                              clear hsm2 h1 h2 h3 h4
                              go_wp2_with (fail)
                              go_roundg (h + 1 - (b + 1))
                              case measure => have := HG4.out; omega
                              case rel => exact ⟨b + 1, ⟨x, y, a, b⟩, by go_num, by omega, by omega, by omega, HPUT.out _ HQ6.out, four_b HB6.out hbw _ _ _ _, HMN.out⟩
                      · have HMN := Lib.hid (HM4.out.no (hn0 rfl))
                        clear hn0 hu0 hKc
                        go_wp2_with (fail)
                        go_roundg (h + 1 - (b + 1))
                        case measure => have := HG4.out; omega
                        case rel => exact ⟨b + 1, ⟨mx, my, ma, mc⟩, by go_num, by omega, by omega, by omega, HQ5.out, HB5.out, HMN.out⟩
                  · have hybI : ¬ (y : Int) + (b : Int) ≤ (h : Int) := by omega
                    have HMN := Lib.hid (HM4.out.nextA HINN.out (show h < y + b by omega))
                    clear HM4
                    go_wp2
                    go_roundg (n + 1 - (a + 1))
                    case measure => have := HG3.out; omega
                    case rel => exact ⟨a + 1, m, by go_num, by omega, by omega, by omega, HQ4.out, HB4.out, HMN.out⟩
              · have hxaI : ¬ (x : Int) + (a : Int) ≤ (n : Int) := by omega
                have HMN := Lib.hid (HM3.out.nextX HINN.out (show n < x + a by omega))
                clear HM3
                go_wp2
                go_roundg (n - (x + 1))
                case measure => have := HG2.out; have := HXN.out; omega
                case rel => exact ⟨x + 1, m, by go_num, by have := HXN.out; omega, rfl, HQ3.out, HB3.out, HMN.out⟩
          · have HMN := Lib.hid (HM2.out.nextY HINN.out (show n ≤ x by omega))
            obtain rfl : x = n := by omega
            clear HM2
            go_wp2
            go_roundg (h - (y + 1))
            case measure => have := HG1.out; have := HYH.out; omega
            case rel => exact ⟨y + 1, m, by go_num, by have := HYH.out; omega, rfl, HQ2.out, HB2.out, HMN.out⟩
      · have hall := HM1.out.all HINN.out (show h ≤ y by omega)
        have hsm := HM1.out.sm HINN.out (by omega) (by omega)
        have HZE := Lib.hid (HZW.out wr HB1.out)
        have HBE := Lib.hid (HB12.out.trans (HB1.out.mono hBB))
        obtain ⟨z1, z2, z3⟩ := HZE.out.facts
        obtain ⟨k1, k2, k3⟩ := HQ1.out.facts
        obtain rfl : y = h := by omega
        clear HM1
        rcases hall with ⟨rfl, hno⟩ | ⟨hma, hbest⟩
        · have HNO := Lib.hid hno
          have e0 : wr.cell? ⟨bq, 0, none⟩ = some (.int .i64 0) := k1 0
          have e2 : wr.cell? ⟨bq, 2, none⟩ = some (.int .i64 0) := k1 2
          clear k1 hno hsm
          go_wp2
          have p1 := (four_set HZE.out (.int .i64 0) (.int .i64 0) (.int .i64 0) (.int .i64 0)).facts.1
          (try simp only [Exit.inBlock, Exit.then])
          refine bodyPost_ret (v := .tuple #[.agg #[.int .i64 0, .int .i64 0, .int .i64 0, .int .i64 0], .int .i64 7]) (by simp [results, Tryd.results19, go_sem, p1]) rfl ?_
          exact ⟨four_b HBE.out hrpw _ _ _ _, .inr (.inl ⟨HPS.out, by rw [← HU.out]; exact HNO.out, rfl⟩)⟩
        · have HBT := Lib.hid hbest
          obtain ⟨mx, my, ma, mc⟩ := m
          have e0 : wr.cell? ⟨bq, 0, none⟩ = some (.int .i64 (mx : Int)) := k1 0
          have e1 : wr.cell? ⟨bq, 1, none⟩ = some (.int .i64 (my : Int)) := k1 1
          have e2 : wr.cell? ⟨bq, 2, none⟩ = some (.int .i64 (ma : Int)) := k1 2
          have e3 : wr.cell? ⟨bq, 3, none⟩ = some (.int .i64 (mc : Int)) := k1 3
          have hma2 : ¬ (ma : Int) = 0 := by dsimp only at hma; omega
          have hma3 : ((ma : Int) == 0) = false := by simpa using hma2
          clear k1 hbest hsm hma
          go_wp2
          have p1 := (four_set HZE.out (.int .i64 (mx : Int)) (.int .i64 (my : Int)) (.int .i64 (ma : Int)) (.int .i64 (mc : Int))).facts.1
          (try simp only [Exit.inBlock, Exit.then])
          refine bodyPost_ret (v := .tuple #[.agg #[.int .i64 (mx : Int), .int .i64 (my : Int), .int .i64 (ma : Int), .int .i64 (mc : Int)], .int .i64 0]) (by simp [results, Tryd.results19, go_sem, p1]) rfl ?_
          exact ⟨four_b HBE.out hrpw _ _ _ _, .inr (.inr ⟨HPS.out, ⟨mx, my, ma, mc⟩, by rw [← HU.out]; exact HBT.out, rfl⟩)⟩
  · rw [decide_eq_false hps] at HGD
    have HPS := Lib.hid hps
    clear hps h hz
    go_enter Tryd.func19, Tryd.ntmps19
    go_wp2_with (go_at_call 21; refine (HGD.out).mono ?_; rintro e w1 ⟨rfl, hx1⟩; have HB1 := Lib.hid (bext HX0.out hx1 HX0.out.size); have HZ1 := Lib.hid (HZR.out.ext hx1); clear hx1; obtain ⟨z1, z2, z3⟩ := HZ1.out.facts)
    have p1 := (four_set HZ1.out (.int .i64 0) (.int .i64 0) (.int .i64 0) (.int .i64 0)).facts.1
    (try simp only [Exit.inBlock, Exit.then])
    refine bodyPost_ret (v := .tuple #[.agg #[.int .i64 0, .int .i64 0, .int .i64 0, .int .i64 0], .int .i64 2]) (by simp [results, Tryd.results19, go_sem, p1]) rfl ?_
    exact ⟨four_b HB1.out (Nat.le_refl _) _ _ _ _, .inl ⟨HPS.out, rfl⟩⟩
end Go.Proofs.YtmgofdgbenfjmaaDoor
