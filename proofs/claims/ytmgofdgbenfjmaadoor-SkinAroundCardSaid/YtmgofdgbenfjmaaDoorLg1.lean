/- Texts joined: Mxa, Lg, Mq, Lp. Conditions: see each. -/
import Derived.Test.YtmgofdgbenfjmaaDoorFu1
import Derived.Test.YtmgofdgbenfjmaaDoorSo1
import Derived.Test.YtmgofdgbenfjmaaDoorRf1
namespace Go.Proofs.YtmgofdgbenfjmaaDoor
open Go.RowKit

/-- what a run that ends is: the greatest rectangle of its row and height, or none -/
theorem mx_run {us : Int × Int → Bool} {x y a b : Nat} (ha : 1 ≤ a) (hb : 1 ≤ b) (hl : ¬ (1 ≤ x ∧ Fu us (x - 1) y 1 b)) (hf : Fu us x y a b) (hn : ¬ Fu us (x + a) y 1 b) : Mx us ⟨x, y, a, b⟩ ↔ fuZ us x ((y : Int) - 1) a 1 = false ∧ fuB us x (y + b) a 1 = false := by
  have h1 : fuZ us x ((y : Int) - 1) a 1 = false ↔ ¬ (1 ≤ y ∧ Fu us x (y - 1) a 1) := by
    by_cases hy : 1 ≤ y
    · rw [show (y : Int) - 1 = ((y - 1 : Nat) : Int) by omega, fuZ_nat, fu_no]
      exact ⟨fun h k => h k.2, fun h k => h ⟨hy, k⟩⟩
    · rw [fuZ_neg (by omega)]
      exact ⟨fun _ k => hy k.1, fun _ => rfl⟩
  rw [h1, fu_no]
  exact ⟨fun h => ⟨h.2.2.2.2.2.1, h.2.2.2.2.2.2⟩, fun h => ⟨ha, hb, hf, hl, hn, h.1, h.2⟩⟩
/-- what maximal knows of a world -/
def MaS (w : World) (v : Value) (ms : List Rn) (wr : World) : Prop := Vr w.heap.size wr v ms ∧ Below w.heap.size w wr
theorem MaS.ext {w wr w' : World} {v : Value} {ms : List Rn} (h : MaS w v ms wr) (hb : Below wr.heap.size wr w') : MaS w v ms w' := ⟨own_ext h.1 hb, bext h.2 hb h.2.size⟩
set_option maxRecDepth 100000 in
set_option maxHeartbeats 8000000 in
theorem maximal_any (l : List ByteArray) (g : Int) (base q : Nat) (w : World) (k : TbS (wid l) l.length l g base q l.length w) (hg : 1 ≤ g) (hok : SkOk l)
    (HSORT : ∀ (A : Option Addr) (cap : Nat) (ms : List Rn) (W : World), Vr w.heap.size W (.slice A ms.length cap) ms → Below w.heap.size w W → ms.length ≤ 10000000 → ms.Nodup → Calls Tryd.prog 90 #[.slice A ms.length cap, .func (.func 91) #[] #[]] W fun e w' => e = .returned (.tuple #[]) ∧ Below w.heap.size w w' ∧ ∃ ms', ms'.Pairwise rlt ∧ (∀ r, r ∈ ms' ↔ r ∈ ms) ∧ ms'.length = ms.length ∧ RSl w' A ms') :
    Calls Tryd.prog 54 #[.pointer (some ⟨q, 0, none⟩)] w fun e w' => Below w.heap.size w w' ∧ ∃ A cap ms, e = .returned (.slice A ms.length cap) ∧ ms.length ≤ cap ∧ cap ≤ 9223372036854775807 ∧ ms.length ≤ 10000000 ∧ RSl w' A ms ∧ ms.Pairwise rlt ∧ ∀ r, r ∈ ms ↔ Mx (usb l g) r := by
  have hn48 := hok.2.2.2.1
  have hh48 := hok.2.1
  have HFU := Lib.hid (fun x a b y W (hW : Below w.heap.size w W) hx hy ha hb => tfull_any l g base q x a b y W (k.ext hW) hg hn48 hh48 hx hy ha hb)
  have HTQ := Lib.hid (fun W (hW : Below w.heap.size w W) => (k.ext hW).read)
  have HINN := Lib.hid (usb_inn (l := l) hg)
  have HSO := Lib.hid HSORT
  clear HSORT
  obtain ⟨us, hus⟩ : ∃ us, us = usb l g := ⟨_, rfl⟩
  rw [← hus] at HFU HINN ⊢
  obtain ⟨n, hn⟩ : ∃ n, n = wid l := ⟨_, rfl⟩
  rw [← hn] at HINN hn48
  have HTQ := Lib.hid (show ∀ W, Below w.heap.size w W → W.cell? ⟨q, 0, none⟩ = some (.int .i64 (n : Int)) ∧ W.cell? ⟨q, 1, none⟩ = some (.int .i64 (l.length : Int)) ∧ q < W.heap.size from fun W hW => by
    obtain ⟨b, cap, r, hb, _⟩ := HTQ.out W hW
    rw [← hn] at hb
    exact ⟨hb.cell 0, hb.cell 1, hb.lt⟩)
  obtain ⟨h, hh⟩ : ∃ h, h = l.length := ⟨_, rfl⟩
  rw [← hh] at HINN HTQ hh48
  clear hus hn hh k hok
  obtain ⟨t1, t2, t3⟩ := HTQ.out w (Below.refl _ _)
  have HS0 := Lib.hid (show MaS w (.slice none 0 0) [] w from ⟨Vr.nil _ _, Below.refl _ _⟩)
  have HM0 := Lib.hid (MxL.start us)
  go_enter Tryd.func54, Tryd.ntmps54
  go_wp2_with (fail)
  go_loopg [12, 3] h (fun gg z v wr => ∃ (y : Nat) (ms : List Rn), z = .int .i64 y ∧ y ≤ h ∧ gg = h - y ∧ MaS w v ms wr ∧ MxL us (posI y 1 0) ms)
  case atStart => exact ⟨0, [], rfl, by omega, by omega, HS0.out, HM0.out⟩
  case round =>
    obtain ⟨y, ms, rfl, hy, hgg, hs, hm⟩ := hrel
    have HG := Lib.hid hgg
    have HS := Lib.hid hs
    have HM := Lib.hid hm
    clear hgg hs hm HS0 HM0
    by_cases hyh : y < h
    · have HYH := Lib.hid hyh
      go_wp2_with (fail)
      go_loopg [5, 3] (h + 1 - y) (fun gg z v wr => ∃ (b : Nat) (ms : List Rn), z = .int .i64 b ∧ 1 ≤ b ∧ y + b ≤ h + 1 ∧ gg = h + 1 - y - b + 1 ∧ MaS w v ms wr ∧ MxL us (posI y b 0) ms)
      case atStart => exact ⟨1, ms, rfl, by omega, by omega, by omega, HS.out, HM.out⟩
      case round =>
        obtain ⟨b, ms, rfl, hb1, hb2, hgg, hs, hm⟩ := hrel
        have HG2 := Lib.hid hgg
        have HS2 := Lib.hid hs
        have HM2 := Lib.hid hm
        clear hgg hs hm HS HM t1 t2 t3
        obtain ⟨t1, t2, t3⟩ := HTQ.out _ HS2.out.2
        by_cases hbh : y + b ≤ h
        · have hbI : (b : Int) ≤ (h : Int) - (y : Int) := by omega
          go_wp2_with (fail)
          go_loopg [6, 3] (n + 1) (fun gg z v wr => ∃ (x : Nat) (ms : List Rn), z = .int .i64 x ∧ x ≤ n + 1 ∧ gg = n + 1 - x ∧ MaS w v ms wr ∧ MxL us (posI y b x) ms ∧ ¬ (1 ≤ x ∧ Fu us (x - 1) y 1 b))
          case atStart => exact ⟨0, ms, rfl, by omega, by omega, HS2.out, HM2.out, fun h => by omega⟩
          case round =>
            obtain ⟨x, ms, rfl, hx, hgg, hs, hm, hl⟩ := hrel
            have HG3 := Lib.hid hgg
            have HS3 := Lib.hid hs
            have HM3 := Lib.hid hm
            have HL3 := Lib.hid hl
            clear hgg hs hm hl HS2 HM2 t1 t2 t3
            obtain ⟨t1, t2, t3⟩ := HTQ.out _ HS3.out.2
            by_cases hxn : x < n
            · have HXN := Lib.hid hxn
              have hxI : (x : Int) < (n : Int) := by omega
              have HXR := Lib.hid (ext_alloc wr (.cells #[.int .i64 (x : Int), .int .i64 (y : Int), .int .i64 1, .int .i64 (b : Int)] 31))
              have HR := Lib.hid (Bk.new 31 wr #[.int .i64 (x : Int), .int .i64 (y : Int), .int .i64 1, .int .i64 (b : Int)])
              have HS4 := Lib.hid (HS3.out.ext HXR.out)
              have HNO := Lib.hid (show some wr.heap.size ≠ u3.ownBlock from fun e => by have := (own_lt HS3.out.1 _ e.symm).2; omega)
              have hwr : w.heap.size ≤ wr.heap.size := HS3.out.2.size
              go_upto_region 12 with (fail)
              obtain ⟨rq, hrq⟩ : ∃ rq, rq = wr.heap.size := ⟨_, rfl⟩
              obtain ⟨V, hV⟩ : ∃ V, V = wr.alloc (.cells #[.int .i64 (x : Int), .int .i64 (y : Int), .int .i64 1, .int .i64 (b : Int)] 31) := ⟨_, rfl⟩
              rw [← hrq, ← hV]
              rw [← hrq] at HNO hwr
              rw [← hrq, ← hV] at HR
              rw [← hV] at HS4
              clear hrq hV HXR HS3 t1 t2 t3
              have HF1 := Lib.hid (HFU.out x 1 b (y : Int) V HS4.out.2 (by omega) (by omega) (by omega) (by omega))
              rw [fuZ_nat] at HF1
              obtain ⟨r1, r2, r3⟩ := HR.out.facts
              cases hf1 : fuB us x y 1 b
              · rw [hf1] at HF1
                have HMN := Lib.hid (HM3.out.skip (fu_no.1 hf1))
                have HLN := Lib.hid (show ¬ (1 ≤ x + 1 ∧ Fu us (x + 1 - 1) y 1 b) from fun hh => fu_no.1 hf1 (by have := hh.2; rwa [Nat.add_sub_cancel] at this))
                clear hf1
                go_wp2_with (go_at_call 61; refine (HF1.out).mono ?_; rintro e5 w5 ⟨rfl, hx5⟩; have HS5 := Lib.hid (HS4.out.ext hx5); clear hx5)
                go_roundg (n + 1 - (x + 1))
                case measure => have := HG3.out; have := HXN.out; omega
                case rel => exact ⟨x + 1, ms, by go_num, by have := HXN.out; omega, rfl, HS5.out, HMN.out, HLN.out⟩
              · rw [hf1] at HF1
                have HF0 := Lib.hid (fu_iff.1 hf1)
                clear hf1
                go_wp2_with (go_at_call 61; refine (HF1.out).mono ?_; rintro e5 w5 ⟨rfl, hx5⟩; have HS5 := Lib.hid (HS4.out.ext hx5); have HR5 := Lib.hid (HR.out.ext hx5); clear hx5)
                clear HS4 HR r1 r2 r3 HF1
                go_loopg [52] n (fun gg _ wr => ∃ a : Nat, 1 ≤ a ∧ x + a ≤ n ∧ gg = n + 1 - a ∧ MaS w u3 ms wr ∧ Bk 31 wr rq #[.int .i64 (x : Int), .int .i64 (y : Int), .int .i64 (a : Int), .int .i64 (b : Int)] ∧ Fu us x y a b)
                case atStart => exact ⟨1, by omega, by omega, by omega, HS5.out, HR5.out, HF0.out⟩
                case round =>
                  obtain ⟨a, ha1, hxa, hgg, hs, hr, hf⟩ := hrel
                  have HG4 := Lib.hid hgg
                  have HS6 := Lib.hid hs
                  have HR6 := Lib.hid hr
                  have HF6 := Lib.hid hf
                  obtain ⟨r1, r2, r3⟩ := hr.facts
                  clear hgg hs hr hf HS5 HR5 HF0
                  have HFA := Lib.hid (HFU.out x (a + 1) b (y : Int) wr HS6.out.2 (by omega) (by omega) (by omega) (by omega))
                  rw [fuZ_nat, show ((a + 1 : Nat) : Int) = (a : Int) + 1 from by push_cast; rfl] at HFA
                  cases hfa : fuB us x y (a + 1) b
                  · rw [hfa] at HFA
                    have HNF := Lib.hid (show ¬ Fu us (x + a) y 1 b from fun h2 => fu_no.1 hfa (HF6.out.addX h2))
                    have HRUN := Lib.hid (mx_run ha1 hb1 HL3.out HF6.out HNF.out)
                    obtain ⟨a1, ha1e⟩ : ∃ a1 : Int, (a : Int) + 1 = a1 := ⟨_, rfl⟩
                    rw [ha1e] at HFA
                    obtain ⟨ym, hym⟩ : ∃ ym : Int, (y : Int) - 1 = ym := ⟨_, rfl⟩
                    obtain ⟨yb, hyb⟩ : ∃ yb : Int, (y : Int) + (b : Int) = yb := ⟨_, rfl⟩
                    have HFC := Lib.hid (fun W hW => HFU.out x a 1 ym W hW (by omega) (by omega) (by omega) (by omega))
                    have HFD := Lib.hid (fun W hW => HFU.out x a 1 yb W hW (by omega) (by omega) (by omega) (by omega))
                    rw [show fuZ us x yb a 1 = fuB us x (y + b) a 1 from by rw [← hyb, show (y : Int) + (b : Int) = ((y + b : Nat) : Int) from by push_cast; rfl, fuZ_nat]] at HFD
                    rw [hym] at HRUN
                    have HLN := Lib.hid (show ¬ (1 ≤ x + a + 1 ∧ Fu us (x + a + 1 - 1) y 1 b) from fun hh => HNF.out (by have := hh.2; rwa [Nat.add_sub_cancel] at this))
                    clear hfa
                    cases hf1 : fuZ us x ym a 1
                    · rw [hf1] at HFC HRUN
                      cases hf2 : fuB us x (y + b) a 1
                      · rw [hf2] at HFD HRUN
                        have HMT := Lib.hid (HM3.out.take HL3.out (HRUN.out.2 ⟨rfl, rfl⟩))
                        have hml : ms.length ≤ 100000000 := Nat.le_trans (mx_len HINN.out hn48 hh48 HM3.out) (by decide)
                        clear hf1 hf2
                        go_wp2_with (first
                          | (go_at_call_of 61 (Value.int .i64 a1); refine (HFA.out).mono ?_; rintro e7 w7 ⟨rfl, hx7⟩; have HS7 := Lib.hid (HS6.out.ext hx7); have HR7 := Lib.hid (HR6.out.ext hx7); clear hx7 r1 r2 r3; obtain ⟨r1, r2, r3⟩ := HR7.out.facts)
                          | (go_at_call_of 61 (Value.int .i64 ym); refine (HFC.out _ HS7.out.2).mono ?_; rintro e8 w8 ⟨rfl, hx8⟩; have HS8 := Lib.hid (HS7.out.ext hx8); have HR8 := Lib.hid (HR7.out.ext hx8); clear hx8 r1 r2 r3; obtain ⟨r1, r2, r3⟩ := HR8.out.facts)
                          | (go_at_call_of 61 (Value.int .i64 yb); refine (HFD.out _ HS8.out.2).mono ?_; rintro e9 w9 ⟨rfl, hx9⟩; have HS9 := Lib.hid (HS8.out.ext hx9); have HR9 := Lib.hid (HR8.out.ext hx9); clear hx9 r1 r2 r3; obtain ⟨r1, r2, r3⟩ := HR9.out.facts)
                          | (at_builtin; refine wpList_pushRc _ rfl _ _ rfl w.heap.size HS9.out.1 (by rfl) ⟨x, y, a, b⟩ (by rfl) rfl hml HS9.out.2.size ?_; intro v5 w5 hv5 hb5; have HS10 := Lib.hid (show MaS w v5 (ms ++ [⟨x, y, a, b⟩]) w5 from ⟨hv5, HS9.out.2.trans hb5⟩); clear hv5 hb5))
                        go_roundg (n + 1 - (x + a + 1))
                        case measure => have := HG3.out; have := HXN.out; omega
                        case rel => exact ⟨x + a + 1, ms ++ [⟨x, y, a, b⟩], by go_num, by omega, rfl, HS10.out, HMT.out, HLN.out⟩
                      · rw [hf2] at HFD HRUN
                        have HMT := Lib.hid (HM3.out.leave ha1 HL3.out HF6.out HNF.out (fun h => by have := (HRUN.out.1 h).2; cases this))
                        clear hf1 hf2
                        go_wp2_with (first
                          | (go_at_call_of 61 (Value.int .i64 a1); refine (HFA.out).mono ?_; rintro e7 w7 ⟨rfl, hx7⟩; have HS7 := Lib.hid (HS6.out.ext hx7); have HR7 := Lib.hid (HR6.out.ext hx7); clear hx7 r1 r2 r3; obtain ⟨r1, r2, r3⟩ := HR7.out.facts)
                          | (go_at_call_of 61 (Value.int .i64 ym); refine (HFC.out _ HS7.out.2).mono ?_; rintro e8 w8 ⟨rfl, hx8⟩; have HS8 := Lib.hid (HS7.out.ext hx8); have HR8 := Lib.hid (HR7.out.ext hx8); clear hx8 r1 r2 r3; obtain ⟨r1, r2, r3⟩ := HR8.out.facts)
                          | (go_at_call_of 61 (Value.int .i64 yb); refine (HFD.out _ HS8.out.2).mono ?_; rintro e9 w9 ⟨rfl, hx9⟩; have HS9 := Lib.hid (HS8.out.ext hx9); have HR9 := Lib.hid (HR8.out.ext hx9); clear hx9 r1 r2 r3; obtain ⟨r1, r2, r3⟩ := HR9.out.facts))
                        go_roundg (n + 1 - (x + a + 1))
                        case measure => have := HG3.out; have := HXN.out; omega
                        case rel => exact ⟨x + a + 1, ms, by go_num, by omega, rfl, HS9.out, HMT.out, HLN.out⟩
                    · rw [hf1] at HFC HRUN
                      have HMT := Lib.hid (HM3.out.leave ha1 HL3.out HF6.out HNF.out (fun h => by have := (HRUN.out.1 h).1; cases this))
                      clear hf1
                      go_wp2_with (first
                        | (go_at_call_of 61 (Value.int .i64 a1); refine (HFA.out).mono ?_; rintro e7 w7 ⟨rfl, hx7⟩; have HS7 := Lib.hid (HS6.out.ext hx7); have HR7 := Lib.hid (HR6.out.ext hx7); clear hx7 r1 r2 r3; obtain ⟨r1, r2, r3⟩ := HR7.out.facts)
                        | (go_at_call_of 61 (Value.int .i64 ym); refine (HFC.out _ HS7.out.2).mono ?_; rintro e8 w8 ⟨rfl, hx8⟩; have HS8 := Lib.hid (HS7.out.ext hx8); have HR8 := Lib.hid (HR7.out.ext hx8); clear hx8 r1 r2 r3; obtain ⟨r1, r2, r3⟩ := HR8.out.facts)
                        | (go_at_call_of 61 (Value.int .i64 yb); refine (HFD.out _ HS8.out.2).mono ?_; rintro e9 w9 ⟨rfl, hx9⟩; have HS9 := Lib.hid (HS8.out.ext hx9); have HR9 := Lib.hid (HR8.out.ext hx9); clear hx9 r1 r2 r3; obtain ⟨r1, r2, r3⟩ := HR9.out.facts))
                      go_roundg (n + 1 - (x + a + 1))
                      case measure => have := HG3.out; have := HXN.out; omega
                      case rel => exact ⟨x + a + 1, ms, by go_num, by omega, rfl, HS8.out, HMT.out, HLN.out⟩
                  · rw [hfa] at HFA
                    have HFB := Lib.hid (fu_iff.1 hfa)
                    have hin := Fu.inn HINN.out (by omega) hb1 HFB.out
                    have HRS := Lib.hid (fun W (hW : Bk 31 W rq #[.int .i64 (x : Int), .int .i64 (y : Int), .int .i64 (a : Int), .int .i64 (b : Int)]) => hW.set 2 (.int .i64 ((a : Int) + 1)))
                    clear hfa
                    go_wp2_with (go_at_call 61; refine (HFA.out).mono ?_; rintro e7 w7 ⟨rfl, hx7⟩; have HS7 := Lib.hid (HS6.out.ext hx7); have HR7 := Lib.hid (HR6.out.ext hx7); clear hx7 r1 r2 r3; obtain ⟨r1, r2, r3⟩ := HR7.out.facts)
                    go_roundg (n + 1 - (a + 1))
                    case measure => have := HG4.out; omega
                    case rel => exact ⟨a + 1, by omega, by omega, rfl, ⟨own_set HS7.out.1 HNO.out, HS7.out.2.setCell hwr _⟩, by have h := HRS.out _ HR7.out; exact h, HFB.out⟩
            · have hxI : ¬ (x : Int) < (n : Int) := by omega
              have HMR := Lib.hid (HM3.out.row HINN.out (show n ≤ x by omega))
              clear HM3
              go_wp2
              go_roundg (h + 1 - y - (b + 1) + 1)
              case measure => have := HG2.out; omega
              case rel => exact ⟨b + 1, ms, by go_num, by omega, by omega, rfl, HS3.out, HMR.out⟩
        · have hbI : ¬ (b : Int) ≤ (h : Int) - (y : Int) := by omega
          have HMC := Lib.hid (HM2.out.col HINN.out (show h < y + b by omega))
          clear HM2
          go_wp2
          go_roundg (h - (y + 1))
          case measure => have := HG.out; have := HYH.out; omega
          case rel => exact ⟨y + 1, ms, by go_num, by have := HYH.out; omega, rfl, HS2.out, HMC.out⟩
    · have hyy : y = h := by omega
      have HMA := Lib.hid (HM.out.all HINN.out (show h ≤ y by omega))
      have hlen := mx_len HINN.out hn48 hh48 HMA.out
      obtain ⟨A, cap, hv, k1, k2, _⟩ := HS.out.1.rsl
      have HV := Lib.hid (show Vr w.heap.size wr (.slice A ms.length cap) ms from by rw [← hv]; exact HS.out.1)
      subst hv
      have HSR := Lib.hid (HSO.out A cap ms wr HV.out HS.out.2 hlen HMA.out.1)
      have k2' : cap ≤ 9223372036854775807 := by unfold maxLen at k2; omega
      subst hyy
      clear HM
      go_wp2_with (go_at_call 90; refine (HSR.out).mono ?_; rintro e9 w9 ⟨rfl, hx9, ms', hp, hm, hl2, hr⟩)
      refine bodyPost_ret (v := .slice A ms.length cap) (by simp [results, Tryd.results54, go_sem]) rfl ?_
      exact ⟨hx9, A, cap, ms', by rw [hl2], by rw [hl2]; exact k1, k2', by rw [hl2]; exact hlen, hr, hp, fun r => by rw [hm r, HMA.out.2 r]; simp⟩

def lgC (r s : Rn) : Int := orI [cmpI ((s.a * s.b : Nat) : Int) ((r.a * r.b : Nat) : Int), cmpI r.y s.y, cmpI r.x s.x, cmpI s.a r.a]
theorem lgC_lt (r s : Rn) : (lgC r s < 0 ↔ btr r s) := by
  unfold lgC orI orI orI orI orI cmpI btr
  generalize s.a * s.b = p
  generalize r.a * r.b = q
  repeat' split
  all_goals omega
theorem btr_irr (r : Rn) : ¬ btr r r := by unfold btr; omega
theorem btr_tr {r s t : Rn} (h : btr r s) (h' : btr s t) : btr r t := by unfold btr at *; omega
/-- a rectangle of a grid -/
def SmR (r : Rn) : Prop := r.x ≤ 100 ∧ r.y ≤ 100 ∧ r.a ≤ 100 ∧ r.b ≤ 100
set_option maxRecDepth 100000 in
set_option maxHeartbeats 4000000 in
theorem larger_any (r s : Rn) (hr : SmR r) (hs : SmR s) (W : World) : Calls Tryd.prog 58 #[.agg #[.int .i64 (r.x : Int), .int .i64 (r.y : Int), .int .i64 (r.a : Int), .int .i64 (r.b : Int)], .agg #[.int .i64 (s.x : Int), .int .i64 (s.y : Int), .int .i64 (s.a : Int), .int .i64 (s.b : Int)]] W fun e w' => e = .returned (.int .i64 (lgC r s)) ∧ Below W.heap.size W w' := by
  have HC1 := Lib.hid (fun V => compare_any ((s.a * s.b : Nat) : Int) ((r.a * r.b : Nat) : Int) V)
  have HC2 := Lib.hid (fun V => compare_any (r.y : Int) (s.y : Int) V)
  have HC3 := Lib.hid (fun V => compare_any (r.x : Int) (s.x : Int) V)
  have HC4 := Lib.hid (fun V => compare_any (s.a : Int) (r.a : Int) V)
  have HBF := Lib.hid (show lgC r s = orI [cmpI ((s.a * s.b : Nat) : Int) ((r.a * r.b : Nat) : Int), cmpI r.y s.y, cmpI r.x s.x, cmpI s.a r.a] from rfl)
  obtain ⟨bf, hbf⟩ : ∃ bf, bf = lgC r s := ⟨_, rfl⟩
  rw [← hbf] at HBF ⊢
  clear hbf
  obtain ⟨x1, y1, a1, b1⟩ := r
  obtain ⟨x2, y2, a2, b2⟩ := s
  unfold SmR at hr hs
  dsimp only at HC1 HC2 HC3 HC4 HBF hr hs ⊢
  obtain ⟨p1, hp1⟩ : ∃ p1, p1 = a1 * b1 := ⟨_, rfl⟩
  obtain ⟨p2, hp2⟩ : ∃ p2, p2 = a2 * b2 := ⟨_, rfl⟩
  rw [← hp1, ← hp2] at HC1 HBF
  have hp1i : (a1 : Int) * (b1 : Int) = (p1 : Int) := by rw [hp1]; push_cast; rfl
  have hp2i : (a2 : Int) * (b2 : Int) = (p2 : Int) := by rw [hp2]; push_cast; rfl
  have hp1b : p1 ≤ 100 * 100 := by rw [hp1]; exact Nat.mul_le_mul hr.2.2.1 hr.2.2.2
  have hp2b : p2 ≤ 100 * 100 := by rw [hp2]; exact Nat.mul_le_mul hs.2.2.1 hs.2.2.2
  have hw1 : IntKind.i64.wrap (p1 : Int) = (p1 : Int) := by simp [IntKind.wrap, IntKind.bits, IntKind.signed]; omega
  have hw2 : IntKind.i64.wrap (p2 : Int) = (p2 : Int) := by simp [IntKind.wrap, IntKind.bits, IntKind.signed]; omega
  obtain ⟨c1, hc1⟩ : ∃ c1, c1 = cmpI (p2 : Int) (p1 : Int) := ⟨_, rfl⟩
  obtain ⟨c2, hc2⟩ : ∃ c2, c2 = cmpI (y1 : Int) (y2 : Int) := ⟨_, rfl⟩
  obtain ⟨c3, hc3⟩ : ∃ c3, c3 = cmpI (x1 : Int) (x2 : Int) := ⟨_, rfl⟩
  obtain ⟨c4, hc4⟩ : ∃ c4, c4 = cmpI (a2 : Int) (a1 : Int) := ⟨_, rfl⟩
  rw [← hc1, ← hc2, ← hc3, ← hc4] at HBF
  rw [← hc1] at HC1
  rw [← hc2] at HC2
  rw [← hc3] at HC3
  rw [← hc4] at HC4
  clear hc1 hc2 hc3 hc4 hp1 hp2 hr hs
  have HOR := Lib.hid (show ∀ b V, Bk 3 V b #[.int .i64 c1, .int .i64 c2, .int .i64 c3, .int .i64 c4] → Calls Tryd.prog 59 #[.slice (some ⟨b, 0, none⟩) 4 4] V fun e w' => e = .returned (.int .i64 bf) ∧ w' = V from fun b V hV => by rw [HBF.out]; exact or_any b [c1, c2, c3, c4] (by simp) V hV)
  have HB1 := Lib.hid ((Bk.new 31 W #[.int .i64 (x1 : Int), .int .i64 (y1 : Int), .int .i64 (a1 : Int), .int .i64 (b1 : Int)]).alloc (.cells #[.int .i64 (x2 : Int), .int .i64 (y2 : Int), .int .i64 (a2 : Int), .int .i64 (b2 : Int)] 31))
  have hb2 := Bk.new 31 (W.alloc (.cells #[.int .i64 (x1 : Int), .int .i64 (y1 : Int), .int .i64 (a1 : Int), .int .i64 (b1 : Int)] 31)) #[.int .i64 (x2 : Int), .int .i64 (y2 : Int), .int .i64 (a2 : Int), .int .i64 (b2 : Int)]
  rw [World.size_alloc] at hb2
  have HB2 := Lib.hid hb2
  have HXV := Lib.hid (ext_trans (ext_alloc W (.cells #[.int .i64 (x1 : Int), .int .i64 (y1 : Int), .int .i64 (a1 : Int), .int .i64 (b1 : Int)] 31)) (ext_alloc _ (.cells #[.int .i64 (x2 : Int), .int .i64 (y2 : Int), .int .i64 (a2 : Int), .int .i64 (b2 : Int)] 31)))
  clear hb2
  obtain ⟨p, hp⟩ : ∃ p, p = W.heap.size := ⟨_, rfl⟩
  obtain ⟨q, hq⟩ : ∃ q, q = W.heap.size + 1 := ⟨_, rfl⟩
  obtain ⟨V, hV⟩ : ∃ V, V = (W.alloc (.cells #[.int .i64 (x1 : Int), .int .i64 (y1 : Int), .int .i64 (a1 : Int), .int .i64 (b1 : Int)] 31)).alloc (.cells #[.int .i64 (x2 : Int), .int .i64 (y2 : Int), .int .i64 (a2 : Int), .int .i64 (b2 : Int)] 31) := ⟨_, rfl⟩
  have HF := Lib.hid (fun (X : World) (hX : Below V.heap.size V X) => show X.cell? ⟨p, 0, none⟩ = some (.int .i64 (x1 : Int)) ∧ X.cell? ⟨p, 1, none⟩ = some (.int .i64 (y1 : Int)) ∧ X.cell? ⟨p, 2, none⟩ = some (.int .i64 (a1 : Int)) ∧ X.cell? ⟨p, 3, none⟩ = some (.int .i64 (b1 : Int)) ∧ X.cell? ⟨q, 0, none⟩ = some (.int .i64 (x2 : Int)) ∧ X.cell? ⟨q, 1, none⟩ = some (.int .i64 (y2 : Int)) ∧ X.cell? ⟨q, 2, none⟩ = some (.int .i64 (a2 : Int)) ∧ X.cell? ⟨q, 3, none⟩ = some (.int .i64 (b2 : Int)) ∧ p < X.heap.size ∧ q < X.heap.size from by
    have h1 := HB1.out
    have h2 := HB2.out
    rw [← hV] at h1 h2
    rw [← hp] at h1
    rw [← hq] at h2
    have h1 := h1.ext hX
    have h2 := h2.ext hX
    exact ⟨h1.cell 0, h1.cell 1, h1.cell 2, h1.cell 3, h2.cell 0, h2.cell 1, h2.cell 2, h2.cell 3, h1.lt, h2.lt⟩)
  rw [← hV] at HXV
  clear HB1 HB2
  go_enter Tryd.func58, Tryd.ntmps58
  go_upto_region 1 with (fail)
  rw [← hV, ← hq, ← hp]
  clear hV hp hq
  refine wp_region_T (S := fun W => Below V.heap.size V W) 28 (by kernel_rfl) (ext_drew _) (fun hHeld => ?_)
  refine wpAnyT_take (i := 0) (v := ?v1) [] rfl (by kernel_rfl) (fun _ _ _ h => h) (Or.inl ⟨by rfl, ?hy1⟩) hHeld ?rst1
  case hy1 => (intro wx hSw; obtain ⟨q1, q2, q3, q4, q5, q6, q7, q8, q9, q10⟩ := HF.out wx hSw; go_simp; try (with_reducible rfl))
  try simp only [List.getElem_toArray, List.getElem_cons_zero, Act.put, List.setIfInBounds_toArray, List.set_cons_zero, List.set_cons_succ]
  refine wpAnyT_take (i := 1) (v := ?v2) [] rfl (by kernel_rfl) (fun _ _ _ h => h) (Or.inl ⟨by rfl, ?hy2⟩) hHeld ?rst2
  case hy2 => (intro wx hSw; obtain ⟨q1, q2, q3, q4, q5, q6, q7, q8, q9, q10⟩ := HF.out wx hSw; go_simp; try (with_reducible rfl))
  try simp only [List.getElem_toArray, List.getElem_cons_zero, List.getElem_cons_succ, Act.put, List.setIfInBounds_toArray, List.set_cons_zero, List.set_cons_succ]
  refine wpAnyT_take (i := 2) (v := ?v3) [] rfl (by kernel_rfl) (fun _ _ _ h => h) (Or.inl ⟨by rfl, ?hy3⟩) hHeld ?rst3
  case hy3 => (intro wx hSw; obtain ⟨q1, q2, q3, q4, q5, q6, q7, q8, q9, q10⟩ := HF.out wx hSw; go_simp; try (with_reducible rfl))
  try simp only [List.getElem_toArray, List.getElem_cons_zero, List.getElem_cons_succ, Act.put, List.setIfInBounds_toArray, List.set_cons_zero, List.set_cons_succ]
  refine wpAnyT_take (i := 3) (v := ?v4) [] rfl (by kernel_rfl) (fun _ _ _ h => h) (Or.inl ⟨by rfl, ?hy4⟩) hHeld ?rst4
  case hy4 => (intro wx hSw; obtain ⟨q1, q2, q3, q4, q5, q6, q7, q8, q9, q10⟩ := HF.out wx hSw; go_simp; try (with_reducible rfl))
  try simp only [List.getElem_toArray, List.getElem_cons_zero, List.getElem_cons_succ, Act.put, List.setIfInBounds_toArray, List.set_cons_zero, List.set_cons_succ]
  refine wpAnyT_take (i := 4) (v := ?v5) [] rfl (by kernel_rfl) (fun _ _ _ h => h) (Or.inl ⟨by rfl, ?hy5⟩) hHeld ?rst5
  case hy5 => (intro wx hSw; obtain ⟨q1, q2, q3, q4, q5, q6, q7, q8, q9, q10⟩ := HF.out wx hSw; go_simp; try (with_reducible rfl))
  try simp only [List.getElem_toArray, List.getElem_cons_zero, List.getElem_cons_succ, Act.put, List.setIfInBounds_toArray, List.set_cons_zero, List.set_cons_succ]
  refine wpAnyT_take (i := 5) (v := ?v6) [] rfl (by kernel_rfl) (fun _ _ _ h => h) (Or.inl ⟨by rfl, ?hy6⟩) hHeld ?rst6
  case hy6 => (intro wx hSw; obtain ⟨q1, q2, q3, q4, q5, q6, q7, q8, q9, q10⟩ := HF.out wx hSw; go_simp; try (with_reducible rfl))
  try simp only [List.getElem_toArray, List.getElem_cons_zero, List.getElem_cons_succ, Act.put, List.setIfInBounds_toArray, List.set_cons_zero, List.set_cons_succ]
  refine wpAnyT_take (i := 6) (v := ?v7) [] rfl (by kernel_rfl) (fun _ _ _ h => h) (Or.inl ⟨by rfl, ?hy7⟩) hHeld ?rst7
  case hy7 => (intro wx hSw; obtain ⟨q1, q2, q3, q4, q5, q6, q7, q8, q9, q10⟩ := HF.out wx hSw; go_simp; try (with_reducible rfl))
  try simp only [List.getElem_toArray, List.getElem_cons_zero, List.getElem_cons_succ, Act.put, List.setIfInBounds_toArray, List.set_cons_zero, List.set_cons_succ]
  refine wpAnyT_take (i := 7) (v := ?v8) [] rfl (by kernel_rfl) (fun _ _ _ h => h) (Or.inl ⟨by rfl, ?hy8⟩) hHeld ?rst8
  case hy8 => (intro wx hSw; obtain ⟨q1, q2, q3, q4, q5, q6, q7, q8, q9, q10⟩ := HF.out wx hSw; go_simp; try (with_reducible rfl))
  try simp only [List.getElem_toArray, List.getElem_cons_zero, List.getElem_cons_succ, Act.put, List.setIfInBounds_toArray, List.set_cons_zero, List.set_cons_succ]
  refine wpAnyT_take (i := 8) (v := ?v9) [] rfl (by kernel_rfl) (fun _ _ _ h => h) (Or.inl ⟨by rfl, ?hy9⟩) hHeld ?rst9
  case hy9 => (intro wx hSw; obtain ⟨q1, q2, q3, q4, q5, q6, q7, q8, q9, q10⟩ := HF.out wx hSw; go_simp; try (with_reducible rfl))
  try simp only [List.getElem_toArray, List.getElem_cons_zero, List.getElem_cons_succ, Act.put, List.setIfInBounds_toArray, List.set_cons_zero, List.set_cons_succ]
  refine wpAnyT_take (i := 9) (v := ?v10) [] rfl (by kernel_rfl) (fun _ _ _ h => h) (Or.inl ⟨by rfl, ?hy10⟩) hHeld ?rst10
  case hy10 => (intro wx hSw; obtain ⟨q1, q2, q3, q4, q5, q6, q7, q8, q9, q10⟩ := HF.out wx hSw; go_simp; try (with_reducible rfl))
  try simp only [List.getElem_toArray, List.getElem_cons_zero, List.getElem_cons_succ, Act.put, List.setIfInBounds_toArray, List.set_cons_zero, List.set_cons_succ]
  refine wpAnyT_take (i := 11) (v := ?v11) [] rfl (by kernel_rfl) (fun _ _ _ h => h) (Or.inl ⟨by rfl, ?hy11⟩) hHeld ?rst11
  case hy11 => (intro wx hSw; obtain ⟨q1, q2, q3, q4, q5, q6, q7, q8, q9, q10⟩ := HF.out wx hSw; go_simp; try (with_reducible rfl))
  try simp only [List.getElem_toArray, List.getElem_cons_zero, List.getElem_cons_succ, Act.put, List.setIfInBounds_toArray, List.set_cons_zero, List.set_cons_succ]
  refine wpAnyT_take (i := 12) (v := ?v12) [] rfl (by kernel_rfl) (fun _ _ _ h => h) (Or.inl ⟨by rfl, ?hy12⟩) hHeld ?rst12
  case hy12 => (intro wx hSw; obtain ⟨q1, q2, q3, q4, q5, q6, q7, q8, q9, q10⟩ := HF.out wx hSw; go_simp; try (with_reducible rfl))
  try simp only [List.getElem_toArray, List.getElem_cons_zero, List.getElem_cons_succ, Act.put, List.setIfInBounds_toArray, List.set_cons_zero, List.set_cons_succ]
  refine wpAnyT_take (i := 13) (v := ?v13) [] rfl (by kernel_rfl) (fun _ _ _ h => h) (Or.inl ⟨by rfl, ?hy13⟩) hHeld ?rst13
  case hy13 => (intro wx hSw; obtain ⟨q1, q2, q3, q4, q5, q6, q7, q8, q9, q10⟩ := HF.out wx hSw; go_simp; try (with_reducible rfl))
  try simp only [List.getElem_toArray, List.getElem_cons_zero, List.getElem_cons_succ, Act.put, List.setIfInBounds_toArray, List.set_cons_zero, List.set_cons_succ]
  refine wpAnyT_take (i := 14) (v := ?v14) [] rfl (by kernel_rfl) (fun _ _ _ h => h) (Or.inl ⟨by rfl, ?hy14⟩) hHeld ?rst14
  case hy14 => (intro wx hSw; obtain ⟨q1, q2, q3, q4, q5, q6, q7, q8, q9, q10⟩ := HF.out wx hSw; go_simp; try (with_reducible rfl))
  try simp only [List.getElem_toArray, List.getElem_cons_zero, List.getElem_cons_succ, Act.put, List.setIfInBounds_toArray, List.set_cons_zero, List.set_cons_succ]
  refine wpAnyT_take (i := 16) (v := ?v15) [] rfl (by kernel_rfl) (fun _ _ _ h => h) (Or.inl ⟨by rfl, ?hy15⟩) hHeld ?rst15
  case hy15 => (intro wx hSw; obtain ⟨q1, q2, q3, q4, q5, q6, q7, q8, q9, q10⟩ := HF.out wx hSw; go_simp; try (with_reducible rfl))
  try simp only [List.getElem_toArray, List.getElem_cons_zero, List.getElem_cons_succ, Act.put, List.setIfInBounds_toArray, List.set_cons_zero, List.set_cons_succ]
  refine wpAnyT_take (i := 17) (v := ?v16) [] rfl (by kernel_rfl) (fun _ _ _ h => h) (Or.inl ⟨by rfl, ?hy16⟩) hHeld ?rst16
  case hy16 => (intro wx hSw; obtain ⟨q1, q2, q3, q4, q5, q6, q7, q8, q9, q10⟩ := HF.out wx hSw; go_simp; try (with_reducible rfl))
  try simp only [List.getElem_toArray, List.getElem_cons_zero, List.getElem_cons_succ, Act.put, List.setIfInBounds_toArray, List.set_cons_zero, List.set_cons_succ]
  refine wpAnyT_take (i := 18) (v := ?v17) [] rfl (by kernel_rfl) (fun _ _ _ h => h) (Or.inl ⟨by rfl, ?hy17⟩) hHeld ?rst17
  case hy17 => (intro wx hSw; obtain ⟨q1, q2, q3, q4, q5, q6, q7, q8, q9, q10⟩ := HF.out wx hSw; go_simp; try (with_reducible rfl))
  try simp only [List.getElem_toArray, List.getElem_cons_zero, List.getElem_cons_succ, Act.put, List.setIfInBounds_toArray, List.set_cons_zero, List.set_cons_succ]
  refine wpAnyT_take (i := 19) (v := ?v18) [] rfl (by kernel_rfl) (fun _ _ _ h => h) (Or.inl ⟨by rfl, ?hy18⟩) hHeld ?rst18
  case hy18 => (intro wx hSw; obtain ⟨q1, q2, q3, q4, q5, q6, q7, q8, q9, q10⟩ := HF.out wx hSw; go_simp; try (with_reducible rfl))
  try simp only [List.getElem_toArray, List.getElem_cons_zero, List.getElem_cons_succ, Act.put, List.setIfInBounds_toArray, List.set_cons_zero, List.set_cons_succ]
  refine wpAnyT_take (i := 21) (v := ?v19) [] rfl (by kernel_rfl) (fun _ _ _ h => h) (Or.inl ⟨by rfl, ?hy19⟩) hHeld ?rst19
  case hy19 => (intro wx hSw; obtain ⟨q1, q2, q3, q4, q5, q6, q7, q8, q9, q10⟩ := HF.out wx hSw; go_simp; try (with_reducible rfl))
  try simp only [List.getElem_toArray, List.getElem_cons_zero, List.getElem_cons_succ, Act.put, List.setIfInBounds_toArray, List.set_cons_zero, List.set_cons_succ]
  refine wpAnyT_take (i := 22) (v := ?v20) [] rfl (by kernel_rfl) (fun _ _ _ h => h) (Or.inl ⟨by rfl, ?hy20⟩) hHeld ?rst20
  case hy20 => (intro wx hSw; obtain ⟨q1, q2, q3, q4, q5, q6, q7, q8, q9, q10⟩ := HF.out wx hSw; go_simp; try (with_reducible rfl))
  try simp only [List.getElem_toArray, List.getElem_cons_zero, List.getElem_cons_succ, Act.put, List.setIfInBounds_toArray, List.set_cons_zero, List.set_cons_succ]
  refine wpAnyT_take (i := 23) (v := ?v21) [] rfl (by kernel_rfl) (fun _ _ _ h => h) (Or.inl ⟨by rfl, ?hy21⟩) hHeld ?rst21
  case hy21 => (intro wx hSw; obtain ⟨q1, q2, q3, q4, q5, q6, q7, q8, q9, q10⟩ := HF.out wx hSw; go_simp; try (with_reducible rfl))
  try simp only [List.getElem_toArray, List.getElem_cons_zero, List.getElem_cons_succ, Act.put, List.setIfInBounds_toArray, List.set_cons_zero, List.set_cons_succ]
  refine wpAnyT_take (i := 24) (v := ?v22) [] rfl (by kernel_rfl) (fun _ _ _ h => h) (Or.inl ⟨by rfl, ?hy22⟩) hHeld ?rst22
  case hy22 => (intro wx hSw; obtain ⟨q1, q2, q3, q4, q5, q6, q7, q8, q9, q10⟩ := HF.out wx hSw; go_simp; try (with_reducible rfl))
  try simp only [List.getElem_toArray, List.getElem_cons_zero, List.getElem_cons_succ, Act.put, List.setIfInBounds_toArray, List.set_cons_zero, List.set_cons_succ]
  refine wpAnyT_one (i := 10) (by kernel_rfl) rfl (fun K hK => ?_)
  go_simp
  go_at_call 60
  refine (HC1.out _).mono ?_
  rintro e1 w1 ⟨rfl, rfl⟩
  refine hK.out _ _ (hHeld) (fun hHeld => ?_)
  clear hK K
  try simp only [List.getElem_toArray, List.getElem_cons_zero, List.getElem_cons_succ, Act.put, List.setIfInBounds_toArray, List.set_cons_zero, List.set_cons_succ]
  refine wpAnyT_one (i := 15) (by kernel_rfl) rfl (fun K hK => ?_)
  go_simp
  go_at_call 60
  refine (HC2.out _).mono ?_
  rintro e2 w2 ⟨rfl, rfl⟩
  refine hK.out _ _ (hHeld) (fun hHeld => ?_)
  clear hK K
  try simp only [List.getElem_toArray, List.getElem_cons_zero, List.getElem_cons_succ, Act.put, List.setIfInBounds_toArray, List.set_cons_zero, List.set_cons_succ]
  refine wpAnyT_one (i := 20) (by kernel_rfl) rfl (fun K hK => ?_)
  go_simp
  go_at_call 60
  refine (HC3.out _).mono ?_
  rintro e3 w3 ⟨rfl, rfl⟩
  refine hK.out _ _ (hHeld) (fun hHeld => ?_)
  clear hK K
  try simp only [List.getElem_toArray, List.getElem_cons_zero, List.getElem_cons_succ, Act.put, List.setIfInBounds_toArray, List.set_cons_zero, List.set_cons_succ]
  refine wpAnyT_one (i := 25) (by kernel_rfl) rfl (fun K hK => ?_)
  go_simp
  go_at_call 60
  refine (HC4.out _).mono ?_
  rintro e4 w4 ⟨rfl, rfl⟩
  refine hK.out _ _ (hHeld) (fun hHeld => ?_)
  clear hK K
  try simp only [List.getElem_toArray, List.getElem_cons_zero, List.getElem_cons_succ, Act.put, List.setIfInBounds_toArray, List.set_cons_zero, List.set_cons_succ]
  refine wpAnyT_one (i := 26) (by kernel_rfl) rfl (fun K hK => ?_)
  go_simp
  refine hK.out _ _ (ext_trans (ext_alloc V _) (ext_drew _)) (fun hHeld => ?_)
  clear hK K
  try simp only [List.getElem_toArray, List.getElem_cons_zero, List.getElem_cons_succ, Act.put, List.setIfInBounds_toArray, List.set_cons_zero, List.set_cons_succ]
  refine wpAnyT_one (i := 27) (by kernel_rfl) rfl (fun K hK => ?_)
  go_simp
  go_at_call 59
  refine (HOR.out _ _ ((Bk.new 3 V _).ext (ext_drew _))).mono ?_
  rintro e5 w5 ⟨rfl, rfl⟩
  refine hK.out _ _ (hHeld) (fun hHeld => ?_)
  clear hK K
  try simp only [List.getElem_toArray, List.getElem_cons_zero, List.getElem_cons_succ, Act.put, List.setIfInBounds_toArray, List.set_cons_zero, List.set_cons_succ]
  refine wpAnyT_last (by kernel_rfl) (by kernel_rfl) rfl (fun K hK => ?_)
  go_simp
  refine hK.out _ _ ?_
  clear hK K
  go_wp2
  go_ret
  exact ⟨rfl, ext_trans HXV.out (ext_trans (ext_alloc V _) (ext_drew _))⟩
theorem rect_put (W : World) (q : Nat) {r : Rn} (s : Rn) (h : Bk 31 W q (rcs r).toArray) : Bk 31 ((((W.setCell ⟨q, 0, none⟩ (.int .i64 (s.x : Int))).setCell ⟨q, 1, none⟩ (.int .i64 (s.y : Int))).setCell ⟨q, 2, none⟩ (.int .i64 (s.a : Int))).setCell ⟨q, 3, none⟩ (.int .i64 (s.b : Int))) q (rcs s).toArray := by
  exact (((h.set 0 _).set 1 _).set 2 _).set 3 _
set_option maxRecDepth 100000 in
set_option maxHeartbeats 8000000 in
theorem minfunc_any (A : Option Addr) (cap : Nat) (l : List Rn) (w : World) (hl : l.length ≤ 10000000) (h0 : l ≠ []) (hs : ∀ r ∈ l, SmR r) (h : RSl w A l) :
    Calls Tryd.prog 57 #[.slice A l.length cap, .func (.func 58) #[] #[]] w fun e w' => Below w.heap.size w w' ∧ ∃ m : Rn, e = .returned (.agg #[.int .i64 (m.x : Int), .int .i64 (m.y : Int), .int .i64 (m.a : Int), .int .i64 (m.b : Int)]) ∧ m ∈ l ∧ ∀ s ∈ l, ¬ btr s m := by
  rcases h with h | ⟨b, off, rfl, hblt, hcl⟩
  · exact absurd h h0
  have hl1 : 1 ≤ l.length := by
    cases l with
    | nil => exact absurd rfl h0
    | cons _ _ => simp
  have HC := Lib.hid (show ∀ W, Below w.heap.size w W → b < W.heap.size ∧ ∀ j (hj : j < l.length), W.cell? ⟨b, off + j * 4, none⟩ = some (.int .i64 (l[j].x : Int)) ∧ W.cell? ⟨b, off + j * 4 + 1, none⟩ = some (.int .i64 (l[j].y : Int)) ∧ W.cell? ⟨b, off + j * 4 + 2, none⟩ = some (.int .i64 (l[j].a : Int)) ∧ W.cell? ⟨b, off + j * 4 + 3, none⟩ = some (.int .i64 (l[j].b : Int)) from fun W hW =>
    ⟨Nat.lt_of_lt_of_le hblt hW.size, fun j hj => ⟨(hW.cell (p := ⟨b, _, none⟩) hblt).trans (hcl j hj).1, (hW.cell (p := ⟨b, _, none⟩) hblt).trans (hcl j hj).2.1, (hW.cell (p := ⟨b, _, none⟩) hblt).trans (hcl j hj).2.2.1, (hW.cell (p := ⟨b, _, none⟩) hblt).trans (hcl j hj).2.2.2⟩⟩)
  have HS := Lib.hid hs
  obtain ⟨r0, hr0⟩ : ∃ r0, r0 = l[0]'(by omega) := ⟨_, rfl⟩
  have hx0 := ext_alloc w (.cells #[.int .i64 0, .int .i64 0, .int .i64 0, .int .i64 0] 31)
  have HZ := Lib.hid (Bk.new 31 w #[.int .i64 0, .int .i64 0, .int .i64 0, .int .i64 0])
  obtain ⟨hb0, hcl0⟩ := HC.out _ hx0
  obtain ⟨c1, c2, c3, c4⟩ := hcl0 0 (by omega)
  simp only [Nat.zero_mul, Nat.add_zero] at c1 c2 c3 c4
  rw [← hr0] at c1 c2 c3 c4
  have HR0 := Lib.hid hr0
  have HX0 := Lib.hid hx0
  obtain ⟨x0, y0, a0, b0⟩ := r0
  dsimp only at c1 c2 c3 c4
  have HXM := Lib.hid (ext_alloc (w.alloc (.cells #[.int .i64 0, .int .i64 0, .int .i64 0, .int .i64 0] 31)) (.cells #[.int .i64 (x0 : Int), .int .i64 (y0 : Int), .int .i64 (a0 : Int), .int .i64 (b0 : Int)] 31))
  have HM0 := Lib.hid (Bk.new 31 (w.alloc (.cells #[.int .i64 0, .int .i64 0, .int .i64 0, .int .i64 0] 31)) #[.int .i64 (x0 : Int), .int .i64 (y0 : Int), .int .i64 (a0 : Int), .int .i64 (b0 : Int)])
  have hl1I : ¬ (l.length : Int) < 1 := by omega
  clear hcl hs h0 hcl0 hr0 hx0 hblt
  go_enter Tryd.func57, Tryd.ntmps57
  go_upto_region 4 with (fail)
  obtain ⟨rp, hrp⟩ : ∃ rp, rp = w.heap.size := ⟨_, rfl⟩
  obtain ⟨mq, hmq⟩ : ∃ mq, mq = w.heap.size + 1 := ⟨_, rfl⟩
  obtain ⟨w2, hw2⟩ : ∃ w2, w2 = (w.alloc (.cells #[.int .i64 0, .int .i64 0, .int .i64 0, .int .i64 0] 31)).alloc (.cells #[.int .i64 (x0 : Int), .int .i64 (y0 : Int), .int .i64 (a0 : Int), .int .i64 (b0 : Int)] 31) := ⟨_, rfl⟩
  have HZ2 := Lib.hid (HZ.out.ext HXM.out)
  have HB2 := Lib.hid (bext HX0.out HXM.out HX0.out.size)
  have hm0 := HM0.out
  rw [World.size_alloc] at hm0
  rw [← hw2] at hm0 HZ2 HB2 ⊢
  rw [← hmq] at hm0 ⊢
  rw [← hrp] at HZ2 ⊢
  have hrw : w.heap.size ≤ rp := by omega
  have hmw : w.heap.size ≤ mq := by omega
  have hrm : rp ≠ mq := by omega
  have HM2 := Lib.hid hm0
  clear hw2 hmq hrp hm0 HZ HX0 HXM HM0 c1 c2 c3 c4 hb0
  go_wp2_with (fail)
  go_loopg [6] l.length (fun gg z wr => ∃ (i : Nat) (m : Rn), z = .int .i64 i ∧ 1 ≤ i ∧ i ≤ l.length ∧ gg = l.length - i + 1 ∧ Bk 31 wr mq (rcs m).toArray ∧ Bk 31 wr rp #[.int .i64 0, .int .i64 0, .int .i64 0, .int .i64 0] ∧ Below w.heap.size w wr ∧ m ∈ l ∧ ∀ j (hj : j < l.length), j < i → ¬ btr l[j] m)
  case atStart => exact ⟨1, ⟨x0, y0, a0, b0⟩, rfl, Nat.le_refl _, hl1, by omega, HM2.out, HZ2.out, HB2.out, by rw [HR0.out]; exact List.getElem_mem _, fun j hj hji => by
    obtain rfl : j = 0 := by omega
    rw [HR0.out]; exact btr_irr _⟩
  case round =>
    obtain ⟨i, m, rfl, hi1, hi2, hgg, hm, hz, hb, hml, hmin⟩ := hrel
    have HG := Lib.hid hgg
    have HM := Lib.hid hm
    have HZ := Lib.hid hz
    have HB := Lib.hid hb
    have HML := Lib.hid hml
    have HMN := Lib.hid hmin
    clear hgg hm hz hb hml hmin HM2 HZ2 HB2
    by_cases hlt : i < l.length
    · have hltI : (i : Int) < (l.length : Int) := by omega
      obtain ⟨r, hr⟩ : ∃ r, r = l[i] := ⟨_, rfl⟩
      have HRI := Lib.hid hr
      have HLG := Lib.hid (fun W => larger_any r m (HS.out r (by rw [hr]; exact List.getElem_mem _)) (HS.out m HML.out) W)
      have HLT := Lib.hid (lgC_lt r m)
      obtain ⟨cv, hcv⟩ : ∃ cv, cv = lgC r m := ⟨_, rfl⟩
      rw [← hcv] at HLG HLT
      have HF7 := Lib.hid (show ∀ W, Below wr.heap.size wr W → W.cell? ⟨b, off + i * 4, none⟩ = some (.int .i64 (r.x : Int)) ∧ W.cell? ⟨b, off + i * 4 + 1, none⟩ = some (.int .i64 (r.y : Int)) ∧ W.cell? ⟨b, off + i * 4 + 2, none⟩ = some (.int .i64 (r.a : Int)) ∧ W.cell? ⟨b, off + i * 4 + 3, none⟩ = some (.int .i64 (r.b : Int)) ∧ W.cell? ⟨mq, 0, none⟩ = some (.int .i64 (m.x : Int)) ∧ W.cell? ⟨mq, 1, none⟩ = some (.int .i64 (m.y : Int)) ∧ W.cell? ⟨mq, 2, none⟩ = some (.int .i64 (m.a : Int)) ∧ W.cell? ⟨mq, 3, none⟩ = some (.int .i64 (m.b : Int)) ∧ b < W.heap.size ∧ mq < W.heap.size from fun W hW => by
        obtain ⟨h1, h2⟩ := HC.out W (bext HB.out hW HB.out.size)
        obtain ⟨k1, k2, k3, k4⟩ := h2 i hlt
        rw [← hr] at k1 k2 k3 k4
        have h3 := HM.out.ext hW
        exact ⟨k1, k2, k3, k4, h3.cell 0, h3.cell 1, h3.cell 2, h3.cell 3, h1, h3.lt⟩)
      have HPUT := Lib.hid (fun W (hW : Below wr.heap.size wr W) => rect_put W mq r (HM.out.ext hW))
      clear hr hcv
      by_cases hcn : cv < 0
      · have HBT := Lib.hid (HLT.out.1 hcn)
        go_upto_region 7 with (fail)
        obtain ⟨q1, q2, q3, q4, q5, q6, q7, q8, q9, q10⟩ := HF7.out wr (Below.refl _ _)
        refine wp_region_T (S := fun W => Below wr.heap.size wr W) 7 (by kernel_rfl) (ext_drew _) (fun hHeld => ?_)
        refine wpAnyT_take (i := 0) (v := ?v23) [6] rfl (by kernel_rfl) (fun _ _ _ h => h) (Or.inl ⟨by rfl, ?hy23⟩) hHeld ?rst23
        case hy23 => (intro wx hSw; obtain ⟨q1, q2, q3, q4, q5, q6, q7, q8, q9, q10⟩ := HF7.out wx hSw; go_simp; try (with_reducible rfl))
        try simp only [List.getElem_toArray, List.getElem_cons_zero, Act.put, List.setIfInBounds_toArray, List.set_cons_zero, List.set_cons_succ]
        refine wpAnyT_take (i := 1) (v := ?v24) [6, 4, 3] rfl (by kernel_rfl) (fun _ _ _ h => h) (Or.inl ⟨by rfl, ?hy24⟩) hHeld ?rst24
        case hy24 => (intro wx hSw; obtain ⟨q1, q2, q3, q4, q5, q6, q7, q8, q9, q10⟩ := HF7.out wx hSw; go_simp; try (with_reducible rfl))
        try simp only [List.getElem_toArray, List.getElem_cons_zero, List.getElem_cons_succ, Act.put, List.setIfInBounds_toArray, List.set_cons_zero, List.set_cons_succ]
        refine wpAnyT_take (i := 2) (v := ?v25) [6, 4, 3] rfl (by kernel_rfl) (fun _ _ _ h => h) (Or.inl ⟨by rfl, ?hy25⟩) hHeld ?rst25
        case hy25 => (intro wx hSw; obtain ⟨q1, q2, q3, q4, q5, q6, q7, q8, q9, q10⟩ := HF7.out wx hSw; go_simp; try (with_reducible rfl))
        try simp only [List.getElem_toArray, List.getElem_cons_zero, List.getElem_cons_succ, Act.put, List.setIfInBounds_toArray, List.set_cons_zero, List.set_cons_succ]
        refine wpAnyT_take (i := 3) (v := ?v26) [6, 4] rfl (by kernel_rfl) (fun _ _ _ h => h) (Or.inl ⟨by rfl, ?hy26⟩) hHeld ?rst26
        case hy26 => (intro wx hSw; obtain ⟨q1, q2, q3, q4, q5, q6, q7, q8, q9, q10⟩ := HF7.out wx hSw; go_simp; try (with_reducible rfl))
        try simp only [List.getElem_toArray, List.getElem_cons_zero, List.getElem_cons_succ, Act.put, List.setIfInBounds_toArray, List.set_cons_zero, List.set_cons_succ]
        refine wpAnyT_take (i := 4) (v := ?v27) [6] rfl (by kernel_rfl) (fun _ _ _ h => h) (Or.inl ⟨by rfl, ?hy27⟩) hHeld ?rst27
        case hy27 => (intro wx hSw; obtain ⟨q1, q2, q3, q4, q5, q6, q7, q8, q9, q10⟩ := HF7.out wx hSw; go_simp; try (with_reducible rfl))
        try simp only [List.getElem_toArray, List.getElem_cons_zero, List.getElem_cons_succ, Act.put, List.setIfInBounds_toArray, List.set_cons_zero, List.set_cons_succ]
        refine wpAnyT_take (i := 5) (v := ?v28) [6] rfl (by kernel_rfl) (fun _ _ _ h => h) (Or.inl ⟨by rfl, ?hy28⟩) hHeld ?rst28
        case hy28 => (intro wx hSw; obtain ⟨q1, q2, q3, q4, q5, q6, q7, q8, q9, q10⟩ := HF7.out wx hSw; go_simp; try (with_reducible rfl))
        try simp only [List.getElem_toArray, List.getElem_cons_zero, List.getElem_cons_succ, Act.put, List.setIfInBounds_toArray, List.set_cons_zero, List.set_cons_succ]
        refine wpAnyT_one (i := 6) (by kernel_rfl) rfl (fun K hK => ?_)
        go_simp
        go_at_call 58
        refine (HLG.out _).mono ?_
        rintro e9 w9 ⟨rfl, hx9⟩
        have B9 := bext hHeld hx9 hHeld.size
        clear hx9
        refine hK.out _ _ (B9) (fun hHeld => ?_)
        clear hK K
        try simp only [List.getElem_toArray, List.getElem_cons_zero, List.getElem_cons_succ, Act.put, List.setIfInBounds_toArray, List.set_cons_zero, List.set_cons_succ]
        refine wpAnyT_last (by kernel_rfl) (by kernel_rfl) rfl (fun K hK => ?_)
        go_simp
        refine hK.out _ _ ?_
        clear hK K
        clear q1 q2 q3 q4 q5 q6 q7 q8 q9 q10
        obtain ⟨q1, q2, q3, q4, q5, q6, q7, q8, q9, q10⟩ := HF7.out w9 hHeld
        have p2 := (HM.out.ext hHeld).frozen
        have HP9 := Lib.hid (HPUT.out w9 hHeld)
        have HZ9 := Lib.hid (HZ.out.ext hHeld)
        have HB9 := Lib.hid (bext HB.out hHeld HB.out.size)
        go_wp2
        go_roundg (l.length - (i + 1) + 1)
        case measure => have := HG.out; omega
        case rel => exact ⟨i + 1, r, by go_num, by omega, by omega, rfl, HP9.out, ((((HZ9.out.set_ne hrm _).set_ne hrm _).set_ne hrm _).set_ne hrm _), ((((HB9.out.setCell hmw _).setCell hmw _).setCell hmw _).setCell hmw _), by rw [HRI.out]; exact List.getElem_mem _, fun j hj hji hbt => by
          by_cases e : j = i
          · subst e; rw [← HRI.out] at hbt; exact btr_irr _ hbt
          · exact HMN.out j hj (by omega) (btr_tr hbt HBT.out)⟩
      · have HBT := Lib.hid (fun h => hcn (HLT.out.2 h))
        go_upto_region 7 with (fail)
        obtain ⟨q1, q2, q3, q4, q5, q6, q7, q8, q9, q10⟩ := HF7.out wr (Below.refl _ _)
        refine wp_region_T (S := fun W => Below wr.heap.size wr W) 7 (by kernel_rfl) (ext_drew _) (fun hHeld => ?_)
        refine wpAnyT_take (i := 0) (v := ?v29) [6] rfl (by kernel_rfl) (fun _ _ _ h => h) (Or.inl ⟨by rfl, ?hy29⟩) hHeld ?rst29
        case hy29 => (intro wx hSw; obtain ⟨q1, q2, q3, q4, q5, q6, q7, q8, q9, q10⟩ := HF7.out wx hSw; go_simp; try (with_reducible rfl))
        try simp only [List.getElem_toArray, List.getElem_cons_zero, Act.put, List.setIfInBounds_toArray, List.set_cons_zero, List.set_cons_succ]
        refine wpAnyT_take (i := 1) (v := ?v30) [6, 4, 3] rfl (by kernel_rfl) (fun _ _ _ h => h) (Or.inl ⟨by rfl, ?hy30⟩) hHeld ?rst30
        case hy30 => (intro wx hSw; obtain ⟨q1, q2, q3, q4, q5, q6, q7, q8, q9, q10⟩ := HF7.out wx hSw; go_simp; try (with_reducible rfl))
        try simp only [List.getElem_toArray, List.getElem_cons_zero, List.getElem_cons_succ, Act.put, List.setIfInBounds_toArray, List.set_cons_zero, List.set_cons_succ]
        refine wpAnyT_take (i := 2) (v := ?v31) [6, 4, 3] rfl (by kernel_rfl) (fun _ _ _ h => h) (Or.inl ⟨by rfl, ?hy31⟩) hHeld ?rst31
        case hy31 => (intro wx hSw; obtain ⟨q1, q2, q3, q4, q5, q6, q7, q8, q9, q10⟩ := HF7.out wx hSw; go_simp; try (with_reducible rfl))
        try simp only [List.getElem_toArray, List.getElem_cons_zero, List.getElem_cons_succ, Act.put, List.setIfInBounds_toArray, List.set_cons_zero, List.set_cons_succ]
        refine wpAnyT_take (i := 3) (v := ?v32) [6, 4] rfl (by kernel_rfl) (fun _ _ _ h => h) (Or.inl ⟨by rfl, ?hy32⟩) hHeld ?rst32
        case hy32 => (intro wx hSw; obtain ⟨q1, q2, q3, q4, q5, q6, q7, q8, q9, q10⟩ := HF7.out wx hSw; go_simp; try (with_reducible rfl))
        try simp only [List.getElem_toArray, List.getElem_cons_zero, List.getElem_cons_succ, Act.put, List.setIfInBounds_toArray, List.set_cons_zero, List.set_cons_succ]
        refine wpAnyT_take (i := 4) (v := ?v33) [6] rfl (by kernel_rfl) (fun _ _ _ h => h) (Or.inl ⟨by rfl, ?hy33⟩) hHeld ?rst33
        case hy33 => (intro wx hSw; obtain ⟨q1, q2, q3, q4, q5, q6, q7, q8, q9, q10⟩ := HF7.out wx hSw; go_simp; try (with_reducible rfl))
        try simp only [List.getElem_toArray, List.getElem_cons_zero, List.getElem_cons_succ, Act.put, List.setIfInBounds_toArray, List.set_cons_zero, List.set_cons_succ]
        refine wpAnyT_take (i := 5) (v := ?v34) [6] rfl (by kernel_rfl) (fun _ _ _ h => h) (Or.inl ⟨by rfl, ?hy34⟩) hHeld ?rst34
        case hy34 => (intro wx hSw; obtain ⟨q1, q2, q3, q4, q5, q6, q7, q8, q9, q10⟩ := HF7.out wx hSw; go_simp; try (with_reducible rfl))
        try simp only [List.getElem_toArray, List.getElem_cons_zero, List.getElem_cons_succ, Act.put, List.setIfInBounds_toArray, List.set_cons_zero, List.set_cons_succ]
        refine wpAnyT_one (i := 6) (by kernel_rfl) rfl (fun K hK => ?_)
        go_simp
        go_at_call 58
        refine (HLG.out _).mono ?_
        rintro e9 w9 ⟨rfl, hx9⟩
        have B9 := bext hHeld hx9 hHeld.size
        clear hx9
        refine hK.out _ _ (B9) (fun hHeld => ?_)
        clear hK K
        try simp only [List.getElem_toArray, List.getElem_cons_zero, List.getElem_cons_succ, Act.put, List.setIfInBounds_toArray, List.set_cons_zero, List.set_cons_succ]
        refine wpAnyT_last (by kernel_rfl) (by kernel_rfl) rfl (fun K hK => ?_)
        go_simp
        refine hK.out _ _ ?_
        clear hK K
        go_wp2
        go_roundg (l.length - (i + 1) + 1)
        case measure => have := HG.out; omega
        case rel => exact ⟨i + 1, m, by go_num, by omega, by omega, rfl, HM.out.ext hHeld, HZ.out.ext hHeld, bext HB.out hHeld HB.out.size, HML.out, fun j hj hji => by
          by_cases e : j = i
          · subst e; rw [← HRI.out]; exact HBT.out
          · exact HMN.out j hj (by omega)⟩
    · have hltI : ¬ (i : Int) < (l.length : Int) := by omega
      obtain ⟨mx, my, ma, mb⟩ := m
      obtain ⟨q1, q2, q3⟩ := HM.out.facts
      have e0 := q1 0
      have e1 := q1 1
      have e2 := q1 2
      have e3 := q1 3
      simp only [rcs, List.getElem?_toArray, List.getElem?_cons_zero, List.getElem?_cons_succ] at e0 e1 e2 e3
      obtain ⟨r1, r2, r3⟩ := HZ.out.facts
      clear q1
      go_wp2
      have p1 := (four_set HZ.out (.int .i64 (mx : Int)) (.int .i64 (my : Int)) (.int .i64 (ma : Int)) (.int .i64 (mb : Int))).facts.1
      refine bodyPost_ret (v := .agg #[.int .i64 (mx : Int), .int .i64 (my : Int), .int .i64 (ma : Int), .int .i64 (mb : Int)]) (by simp [results, Tryd.results57, go_sem, p1]) rfl ?_
      refine ⟨four_b HB.out hrw _ _ _ _, ⟨mx, my, ma, mb⟩, rfl, HML.out, fun s hs => ?_⟩
      obtain ⟨j, hj, rfl⟩ := List.getElem_of_mem hs
      exact HMN.out j hj (by omega)

set_option maxRecDepth 100000 in
set_option maxHeartbeats 1000000 in
theorem equal_rects (A B : Option Addr) (c c' : Nat) (l : List Rn) (w : World) (hl : l.length ≤ 9223372036854775807) (hA : RSl w A l) (hB : RSl w B l) :
    Calls Tryd.prog 17 #[.slice A l.length c, .slice B l.length c'] w fun e w' => e = .returned (.bool true) ∧ Below w.heap.size w w' := by
  have HA := Lib.hid hA
  have HB := Lib.hid hB
  clear hA hB
  go_enter Tryd.func17, Tryd.ntmps17
  go_wp2
  go_loopg [13] l.length (fun g i wr => ∃ k : Nat, i = .int .i64 k ∧ k ≤ l.length ∧ g = l.length - k ∧ Below w.heap.size w wr)
  case atStart => exact ⟨0, rfl, by omega, by omega, Below.refl _ _⟩
  case round =>
    obtain ⟨k, rfl, hk, hg, hbl⟩ := hrel
    have HG := Lib.hid hg
    clear hg
    by_cases hlt : k < l.length
    · have hf := HA.out.ext hbl
      have hf' := HB.out.ext hbl
      rcases hf with hf | ⟨b, off, rfl, hblt, hc⟩
      · rw [hf] at hlt; simp at hlt
      · rcases hf' with hf' | ⟨b', off', rfl, hblt', hc'⟩
        · rw [hf'] at hlt; simp at hlt
        · obtain ⟨c1, c2, c3, c4⟩ := hc k hlt
          obtain ⟨d1, d2, d3, d4⟩ := hc' k hlt
          generalize l[k] = y at *
          obtain ⟨yx, yy, ya, yb⟩ := y
          dsimp only at c1 c2 c3 c4 d1 d2 d3 d4
          have i0 : (0 : Int) ≤ (k : Int) := by omega
          have i1 : (k : Int) < (l.length : Int) := by omega
          clear hc hc'
          go_wp2
          go_quiet (fail)
          go_wp2
          go_roundg (l.length - (k + 1))
          case measure => have := HG.out; omega
          case rel => exact ⟨k + 1, by go_num, by omega, rfl, ext_trans hbl (ext_drewN _ _)⟩
    · go_wp2
      go_ret
      exact ⟨rfl, hbl⟩
/-- the table's maximal, the sort paid -/
theorem tmaximal_any (l : List ByteArray) (g : Int) (base q : Nat) (w : World) (k : TbS (wid l) l.length l g base q l.length w) (hg : 1 ≤ g) (hok : SkOk l) :
    Calls Tryd.prog 54 #[.pointer (some ⟨q, 0, none⟩)] w fun e w' => Below w.heap.size w w' ∧ ∃ A cap ms, e = .returned (.slice A ms.length cap) ∧ ms.length ≤ cap ∧ cap ≤ 9223372036854775807 ∧ ms.length ≤ 10000000 ∧ RSl w' A ms ∧ ms.Pairwise rlt ∧ ∀ r, r ∈ ms ↔ Mx (usb l g) r := by
  refine maximal_any l g base q w k hg hok fun A cap ms W hv hW hl hn => ?_
  refine (sort_any w.heap.size A cap ms W hv hW.size hl hn).mono ?_
  rintro e w' ⟨rfl, hb, ms', h1, h2, h3, h4⟩
  exact ⟨rfl, hW.trans hb, ms', h1, h2, h3, h4⟩
set_option maxRecDepth 100000 in
set_option maxHeartbeats 2000000 in
theorem smaximal_any (A : Option Addr) (cap : Nat) (l : List ByteArray) (g : Int) (w : World) (hc : l.length ≤ cap) (hcm : cap ≤ 9223372036854775807) (h : TSl w A l) (hz : TSz l) :
    Calls Tryd.prog 15 #[.slice A l.length cap, .int .i64 g] w (RetMx w l g) := by
  have HNT := Lib.hid (newtable_any A cap l g w hc hcm h hz)
  clear h hz
  by_cases hps : PsOk l g
  · have HPS := Lib.hid hps
    have HNT := Lib.hid (HNT.out.mono (R' := fun e w' => Below w.heap.size w w' ∧ ∃ q, e = .returned (.tuple #[.pointer (some ⟨q, 0, none⟩), .int .i64 0]) ∧ TbS (wid l) l.length l g w.heap.size q l.length w') (fun e w' hr => ⟨hr.1, hr.2.elim (fun h => absurd hps h.1) (fun h => h.2)⟩))
    have HMX := Lib.hid (fun base q W k => tmaximal_any l g base q W k hps.2.1 hps.1)
    clear hps
    go_enter Tryd.func15, Tryd.ntmps15
    go_wp2_with (first
      | (go_at_call 53; refine (HNT.out).mono ?_; rintro e w1 ⟨hx1, q, rfl, ht⟩)
      | (go_at_call 54; refine (HMX.out _ _ _ ht).mono ?_; rintro e w2 ⟨hx2, A2, cap2, ms, rfl, k1, k2, k3, k4, k5, k6⟩))
    refine bodyPost_ret (v := .tuple #[.slice A2 ms.length cap2, .int .i64 0]) (by simp [results, Tryd.results15, go_sem]) rfl ?_
    exact ⟨bext hx1 hx2 hx1.size, .inr ⟨HPS.out, A2, cap2, ms, rfl, k1, k2, k3, k4, k5, k6⟩⟩
  · have HPS := Lib.hid hps
    have HNT := Lib.hid (HNT.out.mono (R' := fun e w' => Below w.heap.size w w' ∧ e = .returned (.tuple #[.pointer none, .int .i64 2])) (fun e w' hr => ⟨hr.1, hr.2.elim (fun h => h.2) (fun h => absurd h.1 hps)⟩))
    clear hps
    go_enter Tryd.func15, Tryd.ntmps15
    go_wp2_with (go_at_call 53; refine (HNT.out).mono ?_; rintro e w1 ⟨hx1, rfl⟩)
    refine bodyPost_ret (v := .tuple #[.slice none 0 0, .int .i64 2]) (by simp [results, Tryd.results15, go_sem]) rfl ?_
    exact ⟨hx1, .inl ⟨HPS.out, rfl⟩⟩
/-- the error of a skin and a grade -/
def erM (l : List ByteArray) (g : Int) : Int := if PsOk l g then 0 else 2
/-- both answers have one form -/
theorem mx_same (l : List ByteArray) (g : Int) : (∀ w e w', RetMx w l g e w' → ∃ P er, (P = [] ∨ PsOk l g) ∧ er = erM l g ∧ (PsOk l g → P.Pairwise rlt ∧ ∀ r, r ∈ P ↔ Mx (usb l g) r) ∧ P.length ≤ 10000000 ∧ ∃ A cap, e = .returned (.tuple #[.slice A P.length cap, .int .i64 er]) ∧ P.length ≤ cap ∧ cap ≤ 9223372036854775807 ∧ RSl w' A P ∧ Below w.heap.size w w') := by
  rintro w e w' ⟨hb, ⟨hn, rfl⟩ | ⟨hp, A, cap, ms, rfl, k1, k2, k3, k4, k5, k6⟩⟩
  · exact ⟨[], 2, .inl rfl, by unfold erM; rw [if_neg hn], fun h => absurd h hn, by simp, none, 0, rfl, by simp, by simp, .inl rfl, hb⟩
  · exact ⟨ms, 0, .inr hp, by unfold erM; rw [if_pos hp], fun _ => ⟨k5, k6⟩, k3, A, cap, rfl, k1, k2, k4, hb⟩

/-- usable, and a square where asked -/
def UsR (us : Int × Int → Bool) (sq : Bool) (r : Rn) : Prop := 1 ≤ r.a ∧ 1 ≤ r.b ∧ Fu us r.x r.y r.a r.b ∧ (sq = true → r.a = r.b)
def BestR (us : Int × Int → Bool) (sq : Bool) (m : Rn) : Prop := UsR us sq m ∧ ∀ s, UsR us sq s → ¬ btr s m
theorem BestR.uniq {us : Int × Int → Bool} {sq : Bool} {m m' : Rn} (h : BestR us sq m) (h' : BestR us sq m') : m = m' := btr_tot (h'.2 m h.1) (h.2 m' h'.1) h.1.1 |> fun e => e
/-- the best of the greatest is the best of all -/
theorem best_all {us : Int × Int → Bool} {n k : Nat} (hi : Inn us n k) {l : List Rn} (hl : ∀ r, r ∈ l ↔ Mx us r) {m : Rn} (hm : m ∈ l) (hmb : ∀ s ∈ l, ¬ btr s m) : BestR us false m := by
  have mm := (hl m).1 hm
  refine ⟨⟨mm.1, mm.2.1, mm.2.2.1, fun h => by cases h⟩, fun s hs hbt => ?_⟩
  obtain ⟨t, t1, t2, t3, t4, t5, t6, t7⟩ := within' hi s hs.1 hs.2.1 hs.2.2.1
  have ht := hmb t ((hl t).2 t1)
  by_cases he : s.a = t.a ∧ s.b = t.b
  · have e : t = s := Rn.ext' (by omega) (by omega) he.1.symm he.2.symm
    rw [e] at ht; exact ht hbt
  · have := area_lt t6 t7 hs.1 hs.2.1 he
    refine ht (.inl ?_)
    unfold btr at hbt
    omega
/-- what Largest and Square answer -/
def RetLg (w : World) (l : List ByteArray) (g : Int) (sq : Bool) (e : Ending) (w' : World) : Prop :=
  Below w.heap.size w w' ∧ ((¬ PsOk l g ∧ e = .returned (.tuple #[.agg #[.int .i64 0, .int .i64 0, .int .i64 0, .int .i64 0], .int .i64 2])) ∨
    (PsOk l g ∧ (∀ s, ¬ UsR (usb l g) sq s) ∧ e = .returned (.tuple #[.agg #[.int .i64 0, .int .i64 0, .int .i64 0, .int .i64 0], .int .i64 7])) ∨
    (PsOk l g ∧ ∃ m : Rn, BestR (usb l g) sq m ∧ e = .returned (.tuple #[.agg #[.int .i64 (m.x : Int), .int .i64 (m.y : Int), .int .i64 (m.a : Int), .int .i64 (m.b : Int)], .int .i64 0])))
set_option maxRecDepth 100000 in
set_option maxHeartbeats 4000000 in
theorem largest_any (A : Option Addr) (cap : Nat) (l : List ByteArray) (g : Int) (w : World) (hc : l.length ≤ cap) (hcm : cap ≤ 9223372036854775807) (h : TSl w A l) (hz : TSz l) :
    Calls Tryd.prog 18 #[.slice A l.length cap, .int .i64 g] w (RetLg w l g false) := by
  have hx0 := ext_alloc w (.cells #[.int .i64 0, .int .i64 0, .int .i64 0, .int .i64 0] 31)
  have HX0 := Lib.hid hx0
  have HZ := Lib.hid (Bk.new 31 w #[.int .i64 0, .int .i64 0, .int .i64 0, .int .i64 0])
  have HNT := Lib.hid (newtable_any A cap l g _ hc hcm (h.ext hx0) hz)
  clear h hz hx0
  by_cases hps : PsOk l g
  · have HPS := Lib.hid hps
    have HNT := Lib.hid (HNT.out.mono (R' := fun e w' => Below (w.alloc (.cells #[.int .i64 0, .int .i64 0, .int .i64 0, .int .i64 0] 31)).heap.size (w.alloc (.cells #[.int .i64 0, .int .i64 0, .int .i64 0, .int .i64 0] 31)) w' ∧ ∃ base q, e = .returned (.tuple #[.pointer (some ⟨q, 0, none⟩), .int .i64 0]) ∧ TbS (wid l) l.length l g base q l.length w') (fun e w' hr => ⟨hr.1, hr.2.elim (fun h => absurd hps h.1) (fun h => by obtain ⟨_, q, h1, h2⟩ := h; exact ⟨_, q, h1, h2⟩)⟩))
    have HMX := Lib.hid (fun base q W k => tmaximal_any l g base q W k hps.2.1 hps.1)
    have HINN := Lib.hid (usb_inn (l := l) hps.2.1)
    have hn48 := hps.1.2.2.2.1
    have hh48 := hps.1.2.1
    clear hps
    go_enter Tryd.func18, Tryd.ntmps18
    go_upto_region 5 with (first
      | (go_at_call 53; refine (HNT.out).mono ?_; rintro e w1 ⟨hx1, base, q, rfl, ht⟩; have HX1 := Lib.hid hx1; clear hx1)
      | (go_at_call 54; refine (HMX.out _ _ _ ht).mono ?_; rintro e w2 ⟨hx2, A2, cap2, ms, rfl, k1, k2, k3, k4, k5, k6⟩; have HX2 := Lib.hid hx2; clear hx2))
    have HB2 := Lib.hid (bext (bext HX0.out HX1.out HX0.out.size) HX2.out (bext HX0.out HX1.out HX0.out.size).size)
    have HZ2 := Lib.hid ((HZ.out.ext HX1.out).ext HX2.out)
    obtain ⟨z1, z2, z3⟩ := HZ2.out.facts
    by_cases hm0 : ms = []
    · have HNO := Lib.hid (show ∀ s, ¬ UsR (usb l g) false s from fun s hs => by
        obtain ⟨t, t1, _⟩ := within' HINN.out s hs.1 hs.2.1 hs.2.2.1
        have := (k6 t).2 t1
        rw [hm0] at this; simp at this)
      subst hm0
      clear k6 k5 k4
      go_wp2
      have p1 := (four_set HZ2.out (.int .i64 0) (.int .i64 0) (.int .i64 0) (.int .i64 0)).facts.1
      refine bodyPost_ret (v := .tuple #[.agg #[.int .i64 0, .int .i64 0, .int .i64 0, .int .i64 0], .int .i64 7]) (by simp [results, Tryd.results18, go_sem, p1]) rfl ?_
      exact ⟨four_b HB2.out (Nat.le_refl _) _ _ _ _, .inr (.inl ⟨HPS.out, HNO.out, rfl⟩)⟩
    · have hml : ¬ (ms.length : Int) = 0 := by
        have : ms.length ≠ 0 := fun e => hm0 (List.eq_nil_of_length_eq_zero e)
        omega
      have hml2 : 1 ≤ ms.length := by omega
      have HMF := Lib.hid (minfunc_any A2 cap2 ms w2 k3 hm0 (fun r hr => by
        have h1 := (k6 r).1 hr
        have h2 := Fu.inn HINN.out h1.1 h1.2.1 h1.2.2.1
        unfold SmR; omega) k4)
      have HBA := Lib.hid (fun m (hm : m ∈ ms) hmb => best_all HINN.out k6 hm hmb)
      clear k6 k5 k4 hm0
      go_wp2_with (go_at_call 57; refine (HMF.out).mono ?_; rintro e w3 ⟨hx3, m, rfl, hm1, hm2⟩; have HX3 := Lib.hid hx3; have HZ3 := Lib.hid (HZ2.out.ext hx3); clear hx3 z1 z2 z3; obtain ⟨z1, z2, z3⟩ := HZ3.out.facts)
      have p1 := (four_set HZ3.out (.int .i64 (m.x : Int)) (.int .i64 (m.y : Int)) (.int .i64 (m.a : Int)) (.int .i64 (m.b : Int))).facts.1
      refine bodyPost_ret (v := .tuple #[.agg #[.int .i64 (m.x : Int), .int .i64 (m.y : Int), .int .i64 (m.a : Int), .int .i64 (m.b : Int)], .int .i64 0]) (by simp [results, Tryd.results18, go_sem, p1]) rfl ?_
      exact ⟨four_b (bext HB2.out HX3.out HB2.out.size) (Nat.le_refl _) _ _ _ _, .inr (.inr ⟨HPS.out, m, HBA.out m hm1 hm2, rfl⟩)⟩
  · have HPS := Lib.hid hps
    have HNT := Lib.hid (HNT.out.mono (R' := fun e w' => Below (w.alloc (.cells #[.int .i64 0, .int .i64 0, .int .i64 0, .int .i64 0] 31)).heap.size (w.alloc (.cells #[.int .i64 0, .int .i64 0, .int .i64 0, .int .i64 0] 31)) w' ∧ e = .returned (.tuple #[.pointer none, .int .i64 2])) (fun e w' hr => ⟨hr.1, hr.2.elim (fun h => h.2) (fun h => absurd h.1 hps)⟩))
    clear hps
    go_enter Tryd.func18, Tryd.ntmps18
    go_wp2_with (go_at_call 53; refine (HNT.out).mono ?_; rintro e w1 ⟨hx1, rfl⟩; have HB1 := Lib.hid (bext HX0.out hx1 HX0.out.size); have HZ1 := Lib.hid (HZ.out.ext hx1); clear hx1; obtain ⟨z1, z2, z3⟩ := HZ1.out.facts)
    have p1 := (four_set HZ1.out (.int .i64 0) (.int .i64 0) (.int .i64 0) (.int .i64 0)).facts.1
    refine bodyPost_ret (v := .tuple #[.agg #[.int .i64 0, .int .i64 0, .int .i64 0, .int .i64 0], .int .i64 2]) (by simp [results, Tryd.results18, go_sem, p1]) rfl ?_
    exact ⟨four_b HB1.out (Nat.le_refl _) _ _ _ _, .inl ⟨HPS.out, rfl⟩⟩
end Go.Proofs.YtmgofdgbenfjmaaDoor
