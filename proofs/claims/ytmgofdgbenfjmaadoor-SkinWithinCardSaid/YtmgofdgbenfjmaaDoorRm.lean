/- The reference's Maximal walked. Conditions: each string's length is an int. -/
import Derived.Test.YtmgofdgbenfjmaaDoorRf
import Derived.Test.YtmgofdgbenfjmaaDoorVr
import Derived.Test.YtmgofdgbenfjmaaDoorGok
namespace Go.Proofs.YtmgofdgbenfjmaaDoor
open Go.RowKit

/-- the five tests of a rectangle -/
theorem mx_five {us : Int × Int → Bool} {x y a b : Nat} (ha : 1 ≤ a) (hb : 1 ≤ b) : Mx us ⟨x, y, a, b⟩ ↔ fuB us x y a b = true ∧ fuR us ((x : Int) - 1) (y : Int) (a + 1) b = false ∧ fuR us (x : Int) ((y : Int) - 1) a (b + 1) = false ∧ fuB us x y (a + 1) b = false ∧ fuB us x y a (b + 1) = false := by
  have hF : fuB us x y a b = true ↔ Fu us x y a b := fu_iff
  rw [hF, fu_no, fu_no]
  have e1 : Fu us x y a b → (fuR us ((x : Int) - 1) (y : Int) (a + 1) b = false ↔ ¬ (1 ≤ x ∧ Fu us (x - 1) y 1 b)) := fun hf => by
    by_cases hx : 1 ≤ x
    · rw [show (x : Int) - 1 = ((x - 1 : Nat) : Int) by omega, fuR_nat, fu_no]
      refine ⟨fun h k => h ?_, fun h k => h ⟨hx, k.sub (Nat.le_refl _) (by omega) (Nat.le_refl _) (by omega)⟩⟩
      have := k.2.addX (a' := a) (by rw [show x - 1 + 1 = x by omega]; exact hf)
      rw [Nat.add_comm] at this; exact this
    · rw [fuR_x (by omega)]
      exact ⟨fun _ k => hx k.1, fun _ => rfl⟩
  have e2 : Fu us x y a b → (fuR us (x : Int) ((y : Int) - 1) a (b + 1) = false ↔ ¬ (1 ≤ y ∧ Fu us x (y - 1) a 1)) := fun hf => by
    by_cases hy : 1 ≤ y
    · rw [show (y : Int) - 1 = ((y - 1 : Nat) : Int) by omega, fuR_nat, fu_no]
      refine ⟨fun h k => h ?_, fun h k => h ⟨hy, k.sub (Nat.le_refl _) (by omega) (Nat.le_refl _) (by omega)⟩⟩
      have := k.2.addY (b' := b) (by rw [show y - 1 + 1 = y by omega]; exact hf)
      rw [Nat.add_comm] at this; exact this
    · rw [fuR_y (by omega)]
      exact ⟨fun _ k => hy k.1, fun _ => rfl⟩
  have e3 : Fu us x y a b → (¬ Fu us x y (a + 1) b ↔ ¬ Fu us (x + a) y 1 b) := fun hf =>
    ⟨fun h k => h (hf.addX k), fun h k => h (k.sub (by omega) (by omega) (Nat.le_refl _) (by omega))⟩
  have e4 : Fu us x y a b → (¬ Fu us x y a (b + 1) ↔ ¬ Fu us x (y + b) a 1) := fun hf =>
    ⟨fun h k => h (hf.addY k), fun h k => h (k.sub (Nat.le_refl _) (by omega) (by omega) (by omega))⟩
  constructor
  · rintro ⟨_, _, h, h1, h2, h3, h4⟩
    exact ⟨h, (e1 h).2 h1, (e2 h).2 h3, (e3 h).2 h2, (e4 h).2 h4⟩
  · rintro ⟨h, h1, h2, h3, h4⟩
    exact ⟨ha, hb, h, (e1 h).1 h1, (e3 h).1 h3, (e2 h).1 h2, (e4 h).1 h4⟩
/-- what the reference's Maximal knows of a world -/
def MrS (w : World) (B : Nat) (v : Value) (ms : List Rn) (wr : World) : Prop := Vr B wr v ms ∧ Below B w wr
theorem MrS.ext {w wr w' : World} {B : Nat} {v : Value} {ms : List Rn} (h : MrS w B v ms wr) (hb : Below wr.heap.size wr w') (hB : B ≤ w.heap.size := by first | assumption | omega) : MrS w B v ms w' := ⟨own_ext h.1 hb, bext h.2 hb (Nat.le_trans hB h.2.size)⟩
/-- the list under way is not long -/
theorem mxs_len {us : Int × Int → Bool} {n h : Nat} (hi : Inn us n h) (hn : n ≤ 48) (hh : h ≤ 48) {p : Rn} {ms : List Rn} (hm : MxS us p ms) : ms.length ≤ 10000000 := by
  refine mx_len hi hn hh (P := fun r => rlt r p) ⟨?_, hm.2⟩
  exact List.Pairwise.imp (R := rlt) (S := fun a b => a ≠ b) (fun {a b} hab e => by subst e; exact rlt_irr _ hab) hm.1
/-- what the reference's Maximal answers -/
def RetMx (w : World) (l : List ByteArray) (g : Int) (e : Ending) (w' : World) : Prop :=
  Below w.heap.size w w' ∧ ((¬ PsOk l g ∧ e = .returned (.tuple #[.slice none 0 0, .int .i64 2])) ∨
    (PsOk l g ∧ ∃ A cap ms, e = .returned (.tuple #[.slice A ms.length cap, .int .i64 0]) ∧ ms.length ≤ cap ∧ cap ≤ 9223372036854775807 ∧ ms.length ≤ 10000000 ∧ RSl w' A ms ∧ ms.Pairwise rlt ∧ ∀ r, r ∈ ms ↔ Mx (usb l g) r))
set_option maxRecDepth 100000 in
set_option maxHeartbeats 8000000 in
theorem rmaximal_any (A : Option Addr) (cap : Nat) (l : List ByteArray) (g : Int) (w : World) (hc : l.length ≤ cap) (hcm : cap ≤ 9223372036854775807) (h : TSl w A l) (hz : TSz l) :
    Calls Tryd.prog 16 #[.slice A l.length cap, .int .i64 g] w (RetMx w l g) := by
  have HGD := Lib.hid (good_any A cap l g w hc hcm h hz)
  by_cases hps : PsOk l g
  · rw [decide_eq_true hps] at HGD
    have HPS := Lib.hid hps
    have hok := hps.1
    have HSM := Lib.hid (fun W (hW : Below w.heap.size w W) => rsums_any A cap l g W hok (h.ext hW))
    rcases h with h0 | ⟨b, off, rfl, hblt, hcl⟩
    · have h1 := hok.1; rw [h0] at h1; simp at h1
    have HC := Lib.hid (show ∀ W, Below w.heap.size w W → b < W.heap.size ∧ ∃ r0 : ByteArray, W.cell? ⟨b, off, none⟩ = some (.string r0) ∧ r0.size = wid l from fun W hW => ⟨Nat.lt_of_lt_of_le hblt hW.size, first_row hok (fun j hj => (hW.cell (p := ⟨b, off + j, none⟩) hblt).trans (hcl j hj))⟩)
    have hl1 := hok.1
    have hl48 := hok.2.1
    have hw48 := hok.2.2.2.1
    have hg1 := hps.2.1
    have HFU := Lib.hid (fun v a b x y W ho hx hy ha hb => rfull_any l g v a b x y W ho hg1 hw48 hl48 hx hy ha hb)
    have HINN := Lib.hid (usb_inn (l := l) hg1)
    obtain ⟨us, hus⟩ : ∃ us, us = usb l g := ⟨_, rfl⟩
    have HU := Lib.hid hus
    rw [← hus] at HFU HINN
    obtain ⟨F, hF⟩ : ∃ F, F = sumF l g (wid l + 1) := ⟨_, rfl⟩
    rw [← hF] at HSM HFU
    obtain ⟨n, hn⟩ : ∃ n, n = wid l := ⟨_, rfl⟩
    rw [← hn] at HC hw48 HSM HFU HINN
    obtain ⟨N, hN⟩ : ∃ N, N = (n + 1) * (l.length + 1) := ⟨_, rfl⟩
    rw [← hN] at HSM HFU
    obtain ⟨h, hh⟩ : ∃ h, h = l.length := ⟨_, rfl⟩
    rw [← hh] at HFU HINN hl48
    have HH := Lib.hid hh
    have hhl : (l.length : Int) = (h : Int) := by omega
    clear hus hF hn hN hh hok hps hcl hblt hz
    go_enter Tryd.func16, Tryd.ntmps16
    go_upto_region 3 with (go_at_call 21; refine (HGD.out).mono ?_; rintro e w1 ⟨rfl, hx1⟩)
    obtain ⟨hb1, r0, c0, hr0⟩ := HC.out w1 hx1
    go_upto_region 4 with (fail)
    go_upto_region 6 with (go_at_call 55; refine (HSM.out w1 hx1).mono ?_; rintro e w2 ⟨v, rfl, hv1, ho, hx2⟩)
    have HO := Lib.hid ho
    have HB12 := Lib.hid (bext hx1 hx2 hx1.size)
    obtain ⟨B, hB⟩ : ∃ B, B = w2.heap.size := ⟨_, rfl⟩
    have hvB : v < B := by rw [hB]; exact ho.lt
    have hBw : B ≤ w2.heap.size := by omega
    have hBB : w.heap.size ≤ B := by rw [hB]; exact HB12.out.size
    have HS0 := Lib.hid (show MrS w2 B (.slice none 0 0) [] w2 from ⟨Vr.nil _ _, Below.refl _ _⟩)
    have HM0 := Lib.hid (MxS.start us)
    have HOW := Lib.hid (show ∀ W, Below B w2 W → Ow 3 v N F W from fun W hW => HO.out.below hW hvB)
    clear ho hx2 hv1 c0 hb1 hr0 hx1 hB HC HSM HGD
    go_wp2_with (fail)
    go_loopg [29, 9] h (fun gg z o wr => ∃ (y : Nat) (ms : List Rn), z = .int .i64 y ∧ y ≤ h ∧ gg = h - y ∧ MrS w2 B o ms wr ∧ MxS us ⟨0, y, 1, 1⟩ ms)
    case atStart => exact ⟨0, [], rfl, by omega, by omega, HS0.out, HM0.out⟩
    case round =>
      obtain ⟨y, ms, rfl, hy, hgg, hs, hm⟩ := hrel
      have HG1 := Lib.hid hgg
      have HS1 := Lib.hid hs
      have HM1 := Lib.hid hm
      clear hgg hs hm HS0 HM0
      by_cases hyh : y < h
      · have HYH := Lib.hid hyh
        go_wp2_with (fail)
        go_loopg [33, 9] n (fun gg z o wr => ∃ (x : Nat) (ms : List Rn), z = .int .i64 x ∧ x ≤ n ∧ gg = n - x ∧ MrS w2 B o ms wr ∧ MxS us ⟨x, y, 1, 1⟩ ms)
        case atStart => exact ⟨0, ms, rfl, by omega, by omega, HS1.out, HM1.out⟩
        case round =>
          obtain ⟨x, ms, rfl, hx, hgg, hs, hm⟩ := hrel
          have HG2 := Lib.hid hgg
          have HS2 := Lib.hid hs
          have HM2 := Lib.hid hm
          clear hgg hs hm HS1 HM1
          by_cases hxn : x < n
          · have HXN := Lib.hid hxn
            go_wp2_with (fail)
            go_loopg [12, 9] n (fun gg z o wr => ∃ (a : Nat) (ms : List Rn), z = .int .i64 a ∧ 1 ≤ a ∧ x + a ≤ n + 1 ∧ gg = n + 1 - a ∧ MrS w2 B o ms wr ∧ MxS us ⟨x, y, a, 1⟩ ms)
            case atStart => exact ⟨1, ms, rfl, by omega, by omega, by omega, HS2.out, HM2.out⟩
            case round =>
              obtain ⟨a, ms, rfl, ha1, ha2, hgg, hs, hm⟩ := hrel
              have HG3 := Lib.hid hgg
              have HS3 := Lib.hid hs
              have HM3 := Lib.hid hm
              clear hgg hs hm HS2 HM2
              by_cases hxa : x + a ≤ n
              · have hxaI : (x : Int) + (a : Int) ≤ (n : Int) := by omega
                go_wp2_with (fail)
                go_loopg [13, 9] h (fun gg z o wr => ∃ (b : Nat) (ms : List Rn), z = .int .i64 b ∧ 1 ≤ b ∧ y + b ≤ h + 1 ∧ gg = h + 1 - b ∧ MrS w2 B o ms wr ∧ MxS us ⟨x, y, a, b⟩ ms)
                case atStart => exact ⟨1, ms, rfl, by omega, by omega, by omega, HS3.out, HM3.out⟩
                case round =>
                  obtain ⟨b, ms, rfl, hb1, hb2, hgg, hs, hm⟩ := hrel
                  have HG4 := Lib.hid hgg
                  have HS4 := Lib.hid hs
                  have HM4 := Lib.hid hm
                  clear hgg hs hm HS3 HM3
                  by_cases hyb : y + b ≤ h
                  · have hybI : (y : Int) + (b : Int) ≤ (h : Int) := by omega
                    have hml : ms.length ≤ 100000000 := Nat.le_trans (mxs_len HINN.out hw48 hl48 HM4.out) (by decide)
                    have HXR := Lib.hid (ext_alloc wr (.cells #[.int .i64 (x : Int), .int .i64 (y : Int), .int .i64 (a : Int), .int .i64 (b : Int)] 31))
                    have HRS := Lib.hid (Bk.new 31 wr #[.int .i64 (x : Int), .int .i64 (y : Int), .int .i64 (a : Int), .int .i64 (b : Int)])
                    have HAS := Lib.hid (HS4.out.ext HXR.out)
                    go_upto_region 19 with (fail)
                    obtain ⟨rq, hrq⟩ : ∃ rq, rq = wr.heap.size := ⟨_, rfl⟩
                    obtain ⟨V, hV⟩ : ∃ V, V = wr.alloc (.cells #[.int .i64 (x : Int), .int .i64 (y : Int), .int .i64 (a : Int), .int .i64 (b : Int)] 31) := ⟨_, rfl⟩
                    rw [← hrq, ← hV]
                    rw [← hrq, ← hV] at HRS
                    rw [← hV] at HAS
                    clear hrq hV HXR HS4
                    obtain ⟨r1, r2, r3⟩ := HRS.out.facts
                    have H5 := Lib.hid (mx_five (us := us) (x := x) (y := y) ha1 hb1)
                    obtain ⟨xm, hxm⟩ : ∃ xm : Int, (x : Int) - 1 = xm := ⟨_, rfl⟩
                    obtain ⟨ym, hym⟩ : ∃ ym : Int, (y : Int) - 1 = ym := ⟨_, rfl⟩
                    obtain ⟨a1, ha1e⟩ : ∃ a1 : Int, (a : Int) + 1 = a1 := ⟨_, rfl⟩
                    obtain ⟨b1, hb1e⟩ : ∃ b1 : Int, (b : Int) + 1 = b1 := ⟨_, rfl⟩
                    rw [hxm, hym] at H5
                    have HF0 := Lib.hid (fun W (hW : MrS w2 B u9 ms W) => HFU.out v a b (x : Int) (y : Int) W (HOW.out W hW.2) (by omega) (by omega) (by omega) (by omega))
                    have HF1 := Lib.hid (fun W (hW : MrS w2 B u9 ms W) => HFU.out v (a + 1) b xm (y : Int) W (HOW.out W hW.2) (by omega) (by omega) (by omega) (by omega))
                    have HF2 := Lib.hid (fun W (hW : MrS w2 B u9 ms W) => HFU.out v a (b + 1) (x : Int) ym W (HOW.out W hW.2) (by omega) (by omega) (by omega) (by omega))
                    have HF3 := Lib.hid (fun W (hW : MrS w2 B u9 ms W) => HFU.out v (a + 1) b (x : Int) (y : Int) W (HOW.out W hW.2) (by omega) (by omega) (by omega) (by omega))
                    have HF4 := Lib.hid (fun W (hW : MrS w2 B u9 ms W) => HFU.out v a (b + 1) (x : Int) (y : Int) W (HOW.out W hW.2) (by omega) (by omega) (by omega) (by omega))
                    rw [fuR_nat] at HF0 HF3 HF4
                    rw [show ((a + 1 : Nat) : Int) = a1 from by rw [← ha1e]; push_cast; rfl] at HF1 HF3
                    rw [show ((b + 1 : Nat) : Int) = b1 from by rw [← hb1e]; push_cast; rfl] at HF2 HF4
                    cases hf0 : fuB us x y a b
                    · have HMN := Lib.hid (HM4.out.no (fun hm => by have := (H5.out.1 hm).1; rw [hf0] at this; cases this))
                      rw [hf0] at HF0
                      clear hf0 H5
                      go_wp2_with (first
                        | (go_at_call 56; refine (HF0.out _ HAS.out).mono ?_; rintro e0 z0 ⟨rfl, hx0⟩; have HA0 := Lib.hid (HAS.out.ext hx0); have HR0 := Lib.hid (HRS.out.ext hx0); clear hx0 r1 r2 r3; obtain ⟨r1, r2, r3⟩ := HR0.out.facts))
                      go_roundg (h + 1 - (b + 1))
                      case measure => have := HG4.out; omega
                      case rel => exact ⟨b + 1, ms, by go_num, by omega, by omega, by omega, HA0.out, HMN.out⟩
                    · rw [hf0] at HF0
                      cases hf1 : fuR us xm (y : Int) (a + 1) b
                      · rw [hf1] at HF1
                        cases hf2 : fuR us (x : Int) ym a (b + 1)
                        · rw [hf2] at HF2
                          cases hf3 : fuB us x y (a + 1) b
                          · rw [hf3] at HF3
                            cases hf4 : fuB us x y a (b + 1)
                            · rw [hf4] at HF4
                              have HMN := Lib.hid (HM4.out.yes (H5.out.2 ⟨hf0, hf1, hf2, hf3, hf4⟩))
                              clear hf0 hf1 hf2 hf3 hf4 H5
                              go_wp2_with (first
                                | (go_at_call_of 56 (Value.int .i64 xm); refine (HF1.out _ HA0.out).mono ?_; rintro e1 z1 ⟨rfl, hx1⟩; have HA1 := Lib.hid (HA0.out.ext hx1); have HR1 := Lib.hid (HR0.out.ext hx1); clear hx1 r1 r2 r3; obtain ⟨r1, r2, r3⟩ := HR1.out.facts)
                                | (go_at_call_of 56 (Value.int .i64 ym); refine (HF2.out _ HA1.out).mono ?_; rintro e2 z2 ⟨rfl, hx2⟩; have HA2 := Lib.hid (HA1.out.ext hx2); have HR2 := Lib.hid (HR1.out.ext hx2); clear hx2 r1 r2 r3; obtain ⟨r1, r2, r3⟩ := HR2.out.facts)
                                | (go_at_call_of 56 (Value.int .i64 a1); refine (HF3.out _ HA2.out).mono ?_; rintro e3 z3 ⟨rfl, hx3⟩; have HA3 := Lib.hid (HA2.out.ext hx3); have HR3 := Lib.hid (HR2.out.ext hx3); clear hx3 r1 r2 r3; obtain ⟨r1, r2, r3⟩ := HR3.out.facts)
                                | (go_at_call_of 56 (Value.int .i64 b1); refine (HF4.out _ HA3.out).mono ?_; rintro e4 z4 ⟨rfl, hx4⟩; have HA4 := Lib.hid (HA3.out.ext hx4); have HR4 := Lib.hid (HR3.out.ext hx4); clear hx4 r1 r2 r3; obtain ⟨r1, r2, r3⟩ := HR4.out.facts)
                                | (go_at_call 56; refine (HF0.out _ HAS.out).mono ?_; rintro e0 z0 ⟨rfl, hx0⟩; have HA0 := Lib.hid (HAS.out.ext hx0); have HR0 := Lib.hid (HRS.out.ext hx0); clear hx0 r1 r2 r3; obtain ⟨r1, r2, r3⟩ := HR0.out.facts)
                                | (at_builtin; refine wpList_pushRc _ rfl _ _ rfl B HA4.out.1 (by rfl) ⟨x, y, a, b⟩ (by rfl) rfl hml (Nat.le_trans hBw HA4.out.2.size) ?_; intro v5 w5 hv5 hb5; have HP := Lib.hid (show MrS w2 B v5 (ms ++ [⟨x, y, a, b⟩]) w5 from ⟨hv5, HA4.out.2.trans hb5⟩); clear hv5 hb5))
                              go_roundg (h + 1 - (b + 1))
                              case measure => have := HG4.out; omega
                              case rel => exact ⟨b + 1, ms ++ [⟨x, y, a, b⟩], by go_num, by omega, by omega, by omega, HP.out, HMN.out⟩
                            · have HMN := Lib.hid (HM4.out.no (fun hm => by have := (H5.out.1 hm).2.2.2.2; rw [hf4] at this; cases this))
                              rw [hf4] at HF4
                              clear hf0 hf1 hf2 hf3 hf4 H5
                              go_wp2_with (first
                                | (go_at_call_of 56 (Value.int .i64 xm); refine (HF1.out _ HA0.out).mono ?_; rintro e1 z1 ⟨rfl, hx1⟩; have HA1 := Lib.hid (HA0.out.ext hx1); have HR1 := Lib.hid (HR0.out.ext hx1); clear hx1 r1 r2 r3; obtain ⟨r1, r2, r3⟩ := HR1.out.facts)
                                | (go_at_call_of 56 (Value.int .i64 ym); refine (HF2.out _ HA1.out).mono ?_; rintro e2 z2 ⟨rfl, hx2⟩; have HA2 := Lib.hid (HA1.out.ext hx2); have HR2 := Lib.hid (HR1.out.ext hx2); clear hx2 r1 r2 r3; obtain ⟨r1, r2, r3⟩ := HR2.out.facts)
                                | (go_at_call_of 56 (Value.int .i64 a1); refine (HF3.out _ HA2.out).mono ?_; rintro e3 z3 ⟨rfl, hx3⟩; have HA3 := Lib.hid (HA2.out.ext hx3); have HR3 := Lib.hid (HR2.out.ext hx3); clear hx3 r1 r2 r3; obtain ⟨r1, r2, r3⟩ := HR3.out.facts)
                                | (go_at_call_of 56 (Value.int .i64 b1); refine (HF4.out _ HA3.out).mono ?_; rintro e4 z4 ⟨rfl, hx4⟩; have HA4 := Lib.hid (HA3.out.ext hx4); have HR4 := Lib.hid (HR3.out.ext hx4); clear hx4 r1 r2 r3; obtain ⟨r1, r2, r3⟩ := HR4.out.facts)
                                | (go_at_call 56; refine (HF0.out _ HAS.out).mono ?_; rintro e0 z0 ⟨rfl, hx0⟩; have HA0 := Lib.hid (HAS.out.ext hx0); have HR0 := Lib.hid (HRS.out.ext hx0); clear hx0 r1 r2 r3; obtain ⟨r1, r2, r3⟩ := HR0.out.facts))
                              go_roundg (h + 1 - (b + 1))
                              case measure => have := HG4.out; omega
                              case rel => exact ⟨b + 1, ms, by go_num, by omega, by omega, by omega, HA4.out, HMN.out⟩
                          · have HMN := Lib.hid (HM4.out.no (fun hm => by have := (H5.out.1 hm).2.2.2.1; rw [hf3] at this; cases this))
                            rw [hf3] at HF3
                            clear hf0 hf1 hf2 hf3 H5
                            go_wp2_with (first
                              | (go_at_call_of 56 (Value.int .i64 xm); refine (HF1.out _ HA0.out).mono ?_; rintro e1 z1 ⟨rfl, hx1⟩; have HA1 := Lib.hid (HA0.out.ext hx1); have HR1 := Lib.hid (HR0.out.ext hx1); clear hx1 r1 r2 r3; obtain ⟨r1, r2, r3⟩ := HR1.out.facts)
                              | (go_at_call_of 56 (Value.int .i64 ym); refine (HF2.out _ HA1.out).mono ?_; rintro e2 z2 ⟨rfl, hx2⟩; have HA2 := Lib.hid (HA1.out.ext hx2); have HR2 := Lib.hid (HR1.out.ext hx2); clear hx2 r1 r2 r3; obtain ⟨r1, r2, r3⟩ := HR2.out.facts)
                              | (go_at_call_of 56 (Value.int .i64 a1); refine (HF3.out _ HA2.out).mono ?_; rintro e3 z3 ⟨rfl, hx3⟩; have HA3 := Lib.hid (HA2.out.ext hx3); have HR3 := Lib.hid (HR2.out.ext hx3); clear hx3 r1 r2 r3; obtain ⟨r1, r2, r3⟩ := HR3.out.facts)
                              | (go_at_call 56; refine (HF0.out _ HAS.out).mono ?_; rintro e0 z0 ⟨rfl, hx0⟩; have HA0 := Lib.hid (HAS.out.ext hx0); have HR0 := Lib.hid (HRS.out.ext hx0); clear hx0 r1 r2 r3; obtain ⟨r1, r2, r3⟩ := HR0.out.facts))
                            go_roundg (h + 1 - (b + 1))
                            case measure => have := HG4.out; omega
                            case rel => exact ⟨b + 1, ms, by go_num, by omega, by omega, by omega, HA3.out, HMN.out⟩
                        · have HMN := Lib.hid (HM4.out.no (fun hm => by have := (H5.out.1 hm).2.2.1; rw [hf2] at this; cases this))
                          rw [hf2] at HF2
                          clear hf0 hf1 hf2 H5
                          go_wp2_with (first
                            | (go_at_call_of 56 (Value.int .i64 xm); refine (HF1.out _ HA0.out).mono ?_; rintro e1 z1 ⟨rfl, hx1⟩; have HA1 := Lib.hid (HA0.out.ext hx1); have HR1 := Lib.hid (HR0.out.ext hx1); clear hx1 r1 r2 r3; obtain ⟨r1, r2, r3⟩ := HR1.out.facts)
                            | (go_at_call_of 56 (Value.int .i64 ym); refine (HF2.out _ HA1.out).mono ?_; rintro e2 z2 ⟨rfl, hx2⟩; have HA2 := Lib.hid (HA1.out.ext hx2); have HR2 := Lib.hid (HR1.out.ext hx2); clear hx2 r1 r2 r3; obtain ⟨r1, r2, r3⟩ := HR2.out.facts)
                            | (go_at_call 56; refine (HF0.out _ HAS.out).mono ?_; rintro e0 z0 ⟨rfl, hx0⟩; have HA0 := Lib.hid (HAS.out.ext hx0); have HR0 := Lib.hid (HRS.out.ext hx0); clear hx0 r1 r2 r3; obtain ⟨r1, r2, r3⟩ := HR0.out.facts))
                          go_roundg (h + 1 - (b + 1))
                          case measure => have := HG4.out; omega
                          case rel => exact ⟨b + 1, ms, by go_num, by omega, by omega, by omega, HA2.out, HMN.out⟩
                      · have HMN := Lib.hid (HM4.out.no (fun hm => by have := (H5.out.1 hm).2.1; rw [hf1] at this; cases this))
                        rw [hf1] at HF1
                        clear hf0 hf1 H5
                        go_wp2_with (first
                          | (go_at_call_of 56 (Value.int .i64 xm); refine (HF1.out _ HA0.out).mono ?_; rintro e1 z1 ⟨rfl, hx1⟩; have HA1 := Lib.hid (HA0.out.ext hx1); have HR1 := Lib.hid (HR0.out.ext hx1); clear hx1 r1 r2 r3; obtain ⟨r1, r2, r3⟩ := HR1.out.facts)
                          | (go_at_call 56; refine (HF0.out _ HAS.out).mono ?_; rintro e0 z0 ⟨rfl, hx0⟩; have HA0 := Lib.hid (HAS.out.ext hx0); have HR0 := Lib.hid (HRS.out.ext hx0); clear hx0 r1 r2 r3; obtain ⟨r1, r2, r3⟩ := HR0.out.facts))
                        go_roundg (h + 1 - (b + 1))
                        case measure => have := HG4.out; omega
                        case rel => exact ⟨b + 1, ms, by go_num, by omega, by omega, by omega, HA1.out, HMN.out⟩
                  · have hybI : ¬ (y : Int) + (b : Int) ≤ (h : Int) := by omega
                    have HMN := Lib.hid (HM4.out.nextA HINN.out (show h < y + b by omega))
                    clear HM4
                    go_wp2
                    go_roundg (n + 1 - (a + 1))
                    case measure => have := HG3.out; omega
                    case rel => exact ⟨a + 1, ms, by go_num, by omega, by omega, by omega, HS4.out, HMN.out⟩
              · have hxaI : ¬ (x : Int) + (a : Int) ≤ (n : Int) := by omega
                have HMN := Lib.hid (HM3.out.nextX HINN.out (show n < x + a by omega))
                clear HM3
                go_wp2
                go_roundg (n - (x + 1))
                case measure => have := HG2.out; have := HXN.out; omega
                case rel => exact ⟨x + 1, ms, by go_num, by have := HXN.out; omega, rfl, HS3.out, HMN.out⟩
          · have HMN := Lib.hid (HM2.out.nextY HINN.out (show n ≤ x by omega))
            obtain rfl : x = n := by omega
            clear HM2
            go_wp2
            go_roundg (h - (y + 1))
            case measure => have := HG1.out; have := HYH.out; omega
            case rel => exact ⟨y + 1, ms, by go_num, by have := HYH.out; omega, rfl, HS2.out, HMN.out⟩
      · have HMA := Lib.hid (HM1.out.all HINN.out (show h ≤ y by omega))
        have hlen := mxs_len HINN.out hw48 hl48 HM1.out
        obtain ⟨A2, cap2, rfl, k1, k2, k3⟩ := HS1.out.1.rsl
        have K3 := Lib.hid k3
        have k2' : cap2 ≤ 9223372036854775807 := by unfold maxLen at k2; omega
        obtain rfl : y = h := by omega
        clear k2 k3 HM1
        go_wp2
        refine bodyPost_ret (v := .tuple #[.slice A2 ms.length cap2, .int .i64 0]) (by simp [results, Tryd.results16, go_sem]) rfl ?_
        refine ⟨HB12.out.trans (HS1.out.2.mono hBB), .inr ⟨HPS.out, A2, cap2, ms, rfl, k1, k2', hlen, K3.out, HMA.out.1, by rw [← HU.out]; exact HMA.out.2⟩⟩
  · rw [decide_eq_false hps] at HGD
    have HPS := Lib.hid hps
    clear hps h hz
    go_enter Tryd.func16, Tryd.ntmps16
    go_wp2_with (go_at_call 21; refine (HGD.out).mono ?_; rintro e w1 ⟨rfl, hx1⟩)
    refine bodyPost_ret (v := .tuple #[.slice none 0 0, .int .i64 2]) (by simp [results, Tryd.results16, go_sem]) rfl ?_
    exact ⟨hx1, .inl ⟨HPS.out, rfl⟩⟩
end Go.Proofs.YtmgofdgbenfjmaaDoor
