/- The table's maximal walked. Conditions: a table of a skin, a grade. -/
import Derived.Test.YtmgofdgbenfjmaaDoorVr
namespace Go.Proofs.YtmgofdgbenfjmaaDoor
open Go.RowKit

/-- what a run that ends is: the greatest rectangle of its row and height, or none -/
theorem mx_run {us : Int × Int → Bool} {x y a b : Nat} (ha : 1 ≤ a) (hb : 1 ≤ b) (hl : ¬ (1 ≤ x ∧ Fu us (x - 1) y 1 b)) (hf : Fu us x y a b) (hn : ¬ Fu us (x + a) y 1 b) : Mx us ⟨x, y, a, b⟩ ↔ fuZ us x ((y : Int) - 1) a 1 = false ∧ fuB us x (y + b) a 1 = false := by
  have h1 : fuZ us x ((y : Int) - 1) a 1 = false ↔ ¬ (1 ≤ y ∧ Fu us x (y - 1) a 1) := by
    by_cases hy : 1 ≤ y
    · rw [show (y : Int) - 1 = ((y - 1 : Nat) : Int) by omega, fuZ_nat, fu_no]
      exact ⟨fun h k => h k.2, fun h k => h ⟨hy, k⟩⟩
    · rw [fuZ_neg (by omega)]
      exact ⟨fun _ k => hy k.1, fun _ => rfl⟩
  rw [h1, fu_no]
  exact ⟨fun h => ⟨h.2.2.2.2.2.1, h.2.2.2.2.2.2⟩, fun h => ⟨ha, hb, hf, hl, hn, h.1, h.2⟩⟩
/-- what maximal knows of a world -/
def MaS (w : World) (v : Value) (ms : List Rn) (wr : World) : Prop := Vr w.heap.size wr v ms ∧ Below w.heap.size w wr
theorem MaS.ext {w wr w' : World} {v : Value} {ms : List Rn} (h : MaS w v ms wr) (hb : Below wr.heap.size wr w') : MaS w v ms w' := ⟨own_ext h.1 hb, bext h.2 hb h.2.size⟩
set_option maxRecDepth 100000 in
set_option maxHeartbeats 8000000 in
theorem maximal_any (l : List ByteArray) (g : Int) (base q : Nat) (w : World) (k : TbS (wid l) l.length l g base q l.length w) (hg : 1 ≤ g) (hok : SkOk l)
    (HSORT : ∀ (A : Option Addr) (cap : Nat) (ms : List Rn) (W : World), Vr w.heap.size W (.slice A ms.length cap) ms → Below w.heap.size w W → ms.length ≤ 10000000 → ms.Nodup → Calls Tryd.prog 90 #[.slice A ms.length cap, .func (.func 91) #[] #[]] W fun e w' => e = .returned (.tuple #[]) ∧ Below w.heap.size w w' ∧ ∃ ms', ms'.Pairwise rlt ∧ (∀ r, r ∈ ms' ↔ r ∈ ms) ∧ ms'.length = ms.length ∧ RSl w' A ms') :
    Calls Tryd.prog 54 #[.pointer (some ⟨q, 0, none⟩)] w fun e w' => Below w.heap.size w w' ∧ ∃ A cap ms, e = .returned (.slice A ms.length cap) ∧ ms.length ≤ cap ∧ cap ≤ 9223372036854775807 ∧ ms.length ≤ 10000000 ∧ RSl w' A ms ∧ ms.Pairwise rlt ∧ ∀ r, r ∈ ms ↔ Mx (usb l g) r := by
  have hn48 := hok.2.2.2.1
  have hh48 := hok.2.1
  have HFU := Lib.hid (fun x a b y W (hW : Below w.heap.size w W) hx hy ha hb => tfull_any l g base q x a b y W (k.ext hW) hg hn48 hh48 hx hy ha hb)
  have HTQ := Lib.hid (fun W (hW : Below w.heap.size w W) => (k.ext hW).read)
  have HINN := Lib.hid (usb_inn (l := l) hg)
  have HSO := Lib.hid HSORT
  clear HSORT
  obtain ⟨us, hus⟩ : ∃ us, us = usb l g := ⟨_, rfl⟩
  rw [← hus] at HFU HINN ⊢
  obtain ⟨n, hn⟩ : ∃ n, n = wid l := ⟨_, rfl⟩
  rw [← hn] at HINN hn48
  have HTQ := Lib.hid (show ∀ W, Below w.heap.size w W → W.cell? ⟨q, 0, none⟩ = some (.int .i64 (n : Int)) ∧ W.cell? ⟨q, 1, none⟩ = some (.int .i64 (l.length : Int)) ∧ q < W.heap.size from fun W hW => by
    obtain ⟨b, cap, r, hb, _⟩ := HTQ.out W hW
    rw [← hn] at hb
    exact ⟨hb.cell 0, hb.cell 1, hb.lt⟩)
  obtain ⟨h, hh⟩ : ∃ h, h = l.length := ⟨_, rfl⟩
  rw [← hh] at HINN HTQ hh48
  clear hus hn hh k hok
  obtain ⟨t1, t2, t3⟩ := HTQ.out w (Below.refl _ _)
  have HS0 := Lib.hid (show MaS w (.slice none 0 0) [] w from ⟨Vr.nil _ _, Below.refl _ _⟩)
  have HM0 := Lib.hid (MxL.start us)
  go_enter Tryd.func54, Tryd.ntmps54
  go_wp2_with (fail)
  go_loopg [12, 3] h (fun gg z v wr => ∃ (y : Nat) (ms : List Rn), z = .int .i64 y ∧ y ≤ h ∧ gg = h - y ∧ MaS w v ms wr ∧ MxL us (posI y 1 0) ms)
  case atStart => exact ⟨0, [], rfl, by omega, by omega, HS0.out, HM0.out⟩
  case round =>
    obtain ⟨y, ms, rfl, hy, hgg, hs, hm⟩ := hrel
    have HG := Lib.hid hgg
    have HS := Lib.hid hs
    have HM := Lib.hid hm
    clear hgg hs hm HS0 HM0
    by_cases hyh : y < h
    · have HYH := Lib.hid hyh
      go_wp2_with (fail)
      go_loopg [5, 3] (h + 1 - y) (fun gg z v wr => ∃ (b : Nat) (ms : List Rn), z = .int .i64 b ∧ 1 ≤ b ∧ y + b ≤ h + 1 ∧ gg = h + 1 - y - b + 1 ∧ MaS w v ms wr ∧ MxL us (posI y b 0) ms)
      case atStart => exact ⟨1, ms, rfl, by omega, by omega, by omega, HS.out, HM.out⟩
      case round =>
        obtain ⟨b, ms, rfl, hb1, hb2, hgg, hs, hm⟩ := hrel
        have HG2 := Lib.hid hgg
        have HS2 := Lib.hid hs
        have HM2 := Lib.hid hm
        clear hgg hs hm HS HM t1 t2 t3
        obtain ⟨t1, t2, t3⟩ := HTQ.out _ HS2.out.2
        by_cases hbh : y + b ≤ h
        · have hbI : (b : Int) ≤ (h : Int) - (y : Int) := by omega
          go_wp2_with (fail)
          go_loopg [6, 3] (n + 1) (fun gg z v wr => ∃ (x : Nat) (ms : List Rn), z = .int .i64 x ∧ x ≤ n + 1 ∧ gg = n + 1 - x ∧ MaS w v ms wr ∧ MxL us (posI y b x) ms ∧ ¬ (1 ≤ x ∧ Fu us (x - 1) y 1 b))
          case atStart => exact ⟨0, ms, rfl, by omega, by omega, HS2.out, HM2.out, fun h => by omega⟩
          case round =>
            obtain ⟨x, ms, rfl, hx, hgg, hs, hm, hl⟩ := hrel
            have HG3 := Lib.hid hgg
            have HS3 := Lib.hid hs
            have HM3 := Lib.hid hm
            have HL3 := Lib.hid hl
            clear hgg hs hm hl HS2 HM2 t1 t2 t3
            obtain ⟨t1, t2, t3⟩ := HTQ.out _ HS3.out.2
            by_cases hxn : x < n
            · have HXN := Lib.hid hxn
              have hxI : (x : Int) < (n : Int) := by omega
              have HXR := Lib.hid (ext_alloc wr (.cells #[.int .i64 (x : Int), .int .i64 (y : Int), .int .i64 1, .int .i64 (b : Int)] 31))
              have HR := Lib.hid (Bk.new 31 wr #[.int .i64 (x : Int), .int .i64 (y : Int), .int .i64 1, .int .i64 (b : Int)])
              have HS4 := Lib.hid (HS3.out.ext HXR.out)
              have HNO := Lib.hid (show some wr.heap.size ≠ u3.ownBlock from fun e => by have := (own_lt HS3.out.1 _ e.symm).2; omega)
              have hwr : w.heap.size ≤ wr.heap.size := HS3.out.2.size
              go_upto_region 12 with (fail)
              obtain ⟨rq, hrq⟩ : ∃ rq, rq = wr.heap.size := ⟨_, rfl⟩
              obtain ⟨V, hV⟩ : ∃ V, V = wr.alloc (.cells #[.int .i64 (x : Int), .int .i64 (y : Int), .int .i64 1, .int .i64 (b : Int)] 31) := ⟨_, rfl⟩
              rw [← hrq, ← hV]
              rw [← hrq] at HNO hwr
              rw [← hrq, ← hV] at HR
              rw [← hV] at HS4
              clear hrq hV HXR HS3 t1 t2 t3
              have HF1 := Lib.hid (HFU.out x 1 b (y : Int) V HS4.out.2 (by omega) (by omega) (by omega) (by omega))
              rw [fuZ_nat] at HF1
              obtain ⟨r1, r2, r3⟩ := HR.out.facts
              cases hf1 : fuB us x y 1 b
              · rw [hf1] at HF1
                have HMN := Lib.hid (HM3.out.skip (fu_no.1 hf1))
                have HLN := Lib.hid (show ¬ (1 ≤ x + 1 ∧ Fu us (x + 1 - 1) y 1 b) from fun hh => fu_no.1 hf1 (by have := hh.2; rwa [Nat.add_sub_cancel] at this))
                clear hf1
                go_wp2_with (go_at_call 61; refine (HF1.out).mono ?_; rintro e5 w5 ⟨rfl, hx5⟩; have HS5 := Lib.hid (HS4.out.ext hx5); clear hx5)
                go_roundg (n + 1 - (x + 1))
                case measure => have := HG3.out; have := HXN.out; omega
                case rel => exact ⟨x + 1, ms, by go_num, by have := HXN.out; omega, rfl, HS5.out, HMN.out, HLN.out⟩
              · rw [hf1] at HF1
                have HF0 := Lib.hid (fu_iff.1 hf1)
                clear hf1
                go_wp2_with (go_at_call 61; refine (HF1.out).mono ?_; rintro e5 w5 ⟨rfl, hx5⟩; have HS5 := Lib.hid (HS4.out.ext hx5); have HR5 := Lib.hid (HR.out.ext hx5); clear hx5)
                clear HS4 HR r1 r2 r3 HF1
                go_loopg [52] n (fun gg _ wr => ∃ a : Nat, 1 ≤ a ∧ x + a ≤ n ∧ gg = n + 1 - a ∧ MaS w u3 ms wr ∧ Bk 31 wr rq #[.int .i64 (x : Int), .int .i64 (y : Int), .int .i64 (a : Int), .int .i64 (b : Int)] ∧ Fu us x y a b)
                case atStart => exact ⟨1, by omega, by omega, by omega, HS5.out, HR5.out, HF0.out⟩
                case round =>
                  obtain ⟨a, ha1, hxa, hgg, hs, hr, hf⟩ := hrel
                  have HG4 := Lib.hid hgg
                  have HS6 := Lib.hid hs
                  have HR6 := Lib.hid hr
                  have HF6 := Lib.hid hf
                  obtain ⟨r1, r2, r3⟩ := hr.facts
                  clear hgg hs hr hf HS5 HR5 HF0
                  have HFA := Lib.hid (HFU.out x (a + 1) b (y : Int) wr HS6.out.2 (by omega) (by omega) (by omega) (by omega))
                  rw [fuZ_nat, show ((a + 1 : Nat) : Int) = (a : Int) + 1 from by push_cast; rfl] at HFA
                  cases hfa : fuB us x y (a + 1) b
                  · rw [hfa] at HFA
                    have HNF := Lib.hid (show ¬ Fu us (x + a) y 1 b from fun h2 => fu_no.1 hfa (HF6.out.addX h2))
                    have HRUN := Lib.hid (mx_run ha1 hb1 HL3.out HF6.out HNF.out)
                    obtain ⟨a1, ha1e⟩ : ∃ a1 : Int, (a : Int) + 1 = a1 := ⟨_, rfl⟩
                    rw [ha1e] at HFA
                    obtain ⟨ym, hym⟩ : ∃ ym : Int, (y : Int) - 1 = ym := ⟨_, rfl⟩
                    obtain ⟨yb, hyb⟩ : ∃ yb : Int, (y : Int) + (b : Int) = yb := ⟨_, rfl⟩
                    have HFC := Lib.hid (fun W hW => HFU.out x a 1 ym W hW (by omega) (by omega) (by omega) (by omega))
                    have HFD := Lib.hid (fun W hW => HFU.out x a 1 yb W hW (by omega) (by omega) (by omega) (by omega))
                    rw [show fuZ us x yb a 1 = fuB us x (y + b) a 1 from by rw [← hyb, show (y : Int) + (b : Int) = ((y + b : Nat) : Int) from by push_cast; rfl, fuZ_nat]] at HFD
                    rw [hym] at HRUN
                    have HLN := Lib.hid (show ¬ (1 ≤ x + a + 1 ∧ Fu us (x + a + 1 - 1) y 1 b) from fun hh => HNF.out (by have := hh.2; rwa [Nat.add_sub_cancel] at this))
                    clear hfa
                    cases hf1 : fuZ us x ym a 1
                    · rw [hf1] at HFC HRUN
                      cases hf2 : fuB us x (y + b) a 1
                      · rw [hf2] at HFD HRUN
                        have HMT := Lib.hid (HM3.out.take HL3.out (HRUN.out.2 ⟨rfl, rfl⟩))
                        have hml : ms.length ≤ 100000000 := Nat.le_trans (mx_len HINN.out hn48 hh48 HM3.out) (by decide)
                        clear hf1 hf2
                        go_wp2_with (first
                          | (go_at_call_of 61 (Value.int .i64 a1); refine (HFA.out).mono ?_; rintro e7 w7 ⟨rfl, hx7⟩; have HS7 := Lib.hid (HS6.out.ext hx7); have HR7 := Lib.hid (HR6.out.ext hx7); clear hx7 r1 r2 r3; obtain ⟨r1, r2, r3⟩ := HR7.out.facts)
                          | (go_at_call_of 61 (Value.int .i64 ym); refine (HFC.out _ HS7.out.2).mono ?_; rintro e8 w8 ⟨rfl, hx8⟩; have HS8 := Lib.hid (HS7.out.ext hx8); have HR8 := Lib.hid (HR7.out.ext hx8); clear hx8 r1 r2 r3; obtain ⟨r1, r2, r3⟩ := HR8.out.facts)
                          | (go_at_call_of 61 (Value.int .i64 yb); refine (HFD.out _ HS8.out.2).mono ?_; rintro e9 w9 ⟨rfl, hx9⟩; have HS9 := Lib.hid (HS8.out.ext hx9); have HR9 := Lib.hid (HR8.out.ext hx9); clear hx9 r1 r2 r3; obtain ⟨r1, r2, r3⟩ := HR9.out.facts)
                          | (at_builtin; refine wpList_pushRc _ rfl _ _ rfl w.heap.size HS9.out.1 (by rfl) ⟨x, y, a, b⟩ (by rfl) rfl hml HS9.out.2.size ?_; intro v5 w5 hv5 hb5; have HS10 := Lib.hid (show MaS w v5 (ms ++ [⟨x, y, a, b⟩]) w5 from ⟨hv5, HS9.out.2.trans hb5⟩); clear hv5 hb5))
                        go_roundg (n + 1 - (x + a + 1))
                        case measure => have := HG3.out; have := HXN.out; omega
                        case rel => exact ⟨x + a + 1, ms ++ [⟨x, y, a, b⟩], by go_num, by omega, rfl, HS10.out, HMT.out, HLN.out⟩
                      · rw [hf2] at HFD HRUN
                        have HMT := Lib.hid (HM3.out.leave ha1 HL3.out HF6.out HNF.out (fun h => by have := (HRUN.out.1 h).2; cases this))
                        clear hf1 hf2
                        go_wp2_with (first
                          | (go_at_call_of 61 (Value.int .i64 a1); refine (HFA.out).mono ?_; rintro e7 w7 ⟨rfl, hx7⟩; have HS7 := Lib.hid (HS6.out.ext hx7); have HR7 := Lib.hid (HR6.out.ext hx7); clear hx7 r1 r2 r3; obtain ⟨r1, r2, r3⟩ := HR7.out.facts)
                          | (go_at_call_of 61 (Value.int .i64 ym); refine (HFC.out _ HS7.out.2).mono ?_; rintro e8 w8 ⟨rfl, hx8⟩; have HS8 := Lib.hid (HS7.out.ext hx8); have HR8 := Lib.hid (HR7.out.ext hx8); clear hx8 r1 r2 r3; obtain ⟨r1, r2, r3⟩ := HR8.out.facts)
                          | (go_at_call_of 61 (Value.int .i64 yb); refine (HFD.out _ HS8.out.2).mono ?_; rintro e9 w9 ⟨rfl, hx9⟩; have HS9 := Lib.hid (HS8.out.ext hx9); have HR9 := Lib.hid (HR8.out.ext hx9); clear hx9 r1 r2 r3; obtain ⟨r1, r2, r3⟩ := HR9.out.facts))
                        go_roundg (n + 1 - (x + a + 1))
                        case measure => have := HG3.out; have := HXN.out; omega
                        case rel => exact ⟨x + a + 1, ms, by go_num, by omega, rfl, HS9.out, HMT.out, HLN.out⟩
                    · rw [hf1] at HFC HRUN
                      have HMT := Lib.hid (HM3.out.leave ha1 HL3.out HF6.out HNF.out (fun h => by have := (HRUN.out.1 h).1; cases this))
                      clear hf1
                      go_wp2_with (first
                        | (go_at_call_of 61 (Value.int .i64 a1); refine (HFA.out).mono ?_; rintro e7 w7 ⟨rfl, hx7⟩; have HS7 := Lib.hid (HS6.out.ext hx7); have HR7 := Lib.hid (HR6.out.ext hx7); clear hx7 r1 r2 r3; obtain ⟨r1, r2, r3⟩ := HR7.out.facts)
                        | (go_at_call_of 61 (Value.int .i64 ym); refine (HFC.out _ HS7.out.2).mono ?_; rintro e8 w8 ⟨rfl, hx8⟩; have HS8 := Lib.hid (HS7.out.ext hx8); have HR8 := Lib.hid (HR7.out.ext hx8); clear hx8 r1 r2 r3; obtain ⟨r1, r2, r3⟩ := HR8.out.facts)
                        | (go_at_call_of 61 (Value.int .i64 yb); refine (HFD.out _ HS8.out.2).mono ?_; rintro e9 w9 ⟨rfl, hx9⟩; have HS9 := Lib.hid (HS8.out.ext hx9); have HR9 := Lib.hid (HR8.out.ext hx9); clear hx9 r1 r2 r3; obtain ⟨r1, r2, r3⟩ := HR9.out.facts))
                      go_roundg (n + 1 - (x + a + 1))
                      case measure => have := HG3.out; have := HXN.out; omega
                      case rel => exact ⟨x + a + 1, ms, by go_num, by omega, rfl, HS8.out, HMT.out, HLN.out⟩
                  · rw [hfa] at HFA
                    have HFB := Lib.hid (fu_iff.1 hfa)
                    have hin := Fu.inn HINN.out (by omega) hb1 HFB.out
                    have HRS := Lib.hid (fun W (hW : Bk 31 W rq #[.int .i64 (x : Int), .int .i64 (y : Int), .int .i64 (a : Int), .int .i64 (b : Int)]) => hW.set 2 (.int .i64 ((a : Int) + 1)))
                    clear hfa
                    go_wp2_with (go_at_call 61; refine (HFA.out).mono ?_; rintro e7 w7 ⟨rfl, hx7⟩; have HS7 := Lib.hid (HS6.out.ext hx7); have HR7 := Lib.hid (HR6.out.ext hx7); clear hx7 r1 r2 r3; obtain ⟨r1, r2, r3⟩ := HR7.out.facts)
                    go_roundg (n + 1 - (a + 1))
                    case measure => have := HG4.out; omega
                    case rel => exact ⟨a + 1, by omega, by omega, rfl, ⟨own_set HS7.out.1 HNO.out, HS7.out.2.setCell hwr _⟩, by have h := HRS.out _ HR7.out; exact h, HFB.out⟩
            · have hxI : ¬ (x : Int) < (n : Int) := by omega
              have HMR := Lib.hid (HM3.out.row HINN.out (show n ≤ x by omega))
              clear HM3
              go_wp2
              go_roundg (h + 1 - y - (b + 1) + 1)
              case measure => have := HG2.out; omega
              case rel => exact ⟨b + 1, ms, by go_num, by omega, by omega, rfl, HS3.out, HMR.out⟩
        · have hbI : ¬ (b : Int) ≤ (h : Int) - (y : Int) := by omega
          have HMC := Lib.hid (HM2.out.col HINN.out (show h < y + b by omega))
          clear HM2
          go_wp2
          go_roundg (h - (y + 1))
          case measure => have := HG.out; have := HYH.out; omega
          case rel => exact ⟨y + 1, ms, by go_num, by have := HYH.out; omega, rfl, HS2.out, HMC.out⟩
    · have hyy : y = h := by omega
      have HMA := Lib.hid (HM.out.all HINN.out (show h ≤ y by omega))
      have hlen := mx_len HINN.out hn48 hh48 HMA.out
      obtain ⟨A, cap, hv, k1, k2, _⟩ := HS.out.1.rsl
      have HV := Lib.hid (show Vr w.heap.size wr (.slice A ms.length cap) ms from by rw [← hv]; exact HS.out.1)
      subst hv
      have HSR := Lib.hid (HSO.out A cap ms wr HV.out HS.out.2 hlen HMA.out.1)
      have k2' : cap ≤ 9223372036854775807 := by unfold maxLen at k2; omega
      subst hyy
      clear HM
      go_wp2_with (go_at_call 90; refine (HSR.out).mono ?_; rintro e9 w9 ⟨rfl, hx9, ms', hp, hm, hl2, hr⟩)
      refine bodyPost_ret (v := .slice A ms.length cap) (by simp [results, Tryd.results54, go_sem]) rfl ?_
      exact ⟨hx9, A, cap, ms', by rw [hl2], by rw [hl2]; exact k1, k2', by rw [hl2]; exact hlen, hr, hp, fun r => by rw [hm r, HMA.out.2 r]; simp⟩
end Go.Proofs.YtmgofdgbenfjmaaDoor
