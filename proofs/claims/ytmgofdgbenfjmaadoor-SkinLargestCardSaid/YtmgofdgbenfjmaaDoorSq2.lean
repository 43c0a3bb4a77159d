/- The program's Square walked. Conditions: each string's length is an int. -/
import Derived.Test.YtmgofdgbenfjmaaDoorSqP
namespace Go.Proofs.YtmgofdgbenfjmaaDoor
open Go.RowKit

set_option maxRecDepth 100000 in
set_option maxHeartbeats 4000000 in
theorem square_any (A : Option Addr) (cap : Nat) (l : List ByteArray) (g : Int) (w : World) (hc : l.length ≤ cap) (hcm : cap ≤ 9223372036854775807) (h : TSl w A l) (hz : TSz l) :
    Calls Tryd.prog 20 #[.slice A l.length cap, .int .i64 g] w (RetLg w l g true) := by
  have hx0 := ext_alloc w (.cells #[.int .i64 0, .int .i64 0, .int .i64 0, .int .i64 0] 31)
  have HX0 := Lib.hid hx0
  have HZ := Lib.hid (Bk.new 31 w #[.int .i64 0, .int .i64 0, .int .i64 0, .int .i64 0])
  have HNT := Lib.hid (newtable_any A cap l g _ hc hcm (h.ext hx0) hz)
  clear h hz hx0
  by_cases hps : PsOk l g
  · have HPS := Lib.hid hps
    have HNT := Lib.hid (HNT.out.mono (R' := fun e w' => Below (w.alloc (.cells #[.int .i64 0, .int .i64 0, .int .i64 0, .int .i64 0] 31)).heap.size (w.alloc (.cells #[.int .i64 0, .int .i64 0, .int .i64 0, .int .i64 0] 31)) w' ∧ ∃ base q, e = .returned (.tuple #[.pointer (some ⟨q, 0, none⟩), .int .i64 0]) ∧ TbS (wid l) l.length l g base q l.length w') (fun e w' hr => ⟨hr.1, hr.2.elim (fun h => absurd hps h.1) (fun h => by obtain ⟨_, q, h1, h2⟩ := h; exact ⟨_, q, h1, h2⟩)⟩))
    have HINN := Lib.hid (usb_inn (l := l) hps.2.1)
    have hn48 := hps.1.2.2.2.1
    have hh48 := hps.1.2.1
    have hg1 := hps.2.1
    clear hps
    go_enter Tryd.func20, Tryd.ntmps20
    go_upto_region 4 with (go_at_call 53; refine (HNT.out).mono ?_; rintro e w1 ⟨hx1, base, q, rfl, ht⟩; have HX1 := Lib.hid hx1; have HT := Lib.hid ht; clear hx1 ht)
    have HB1 := Lib.hid (bext HX0.out HX1.out HX0.out.size)
    have HZ1 := Lib.hid (HZ.out.ext HX1.out)
    have HFU := Lib.hid (fun n x y W (hW : Below w1.heap.size w1 W) (hx : x ≤ 100) (hy : -10 ≤ y ∧ y ≤ 100) (hn : 1 ≤ n ∧ n ≤ 100) => tfull_any l g base q x n n y W (HT.out.ext hW) hg1 hn48 hh48 hx hy hn hn)
    have HTQ := Lib.hid (fun W (hW : Below w1.heap.size w1 W) => (HT.out.ext hW).read)
    obtain ⟨us, hus⟩ : ∃ us, us = usb l g := ⟨_, rfl⟩
    have HU := Lib.hid hus
    rw [← hus] at HFU HINN
    obtain ⟨n, hn⟩ : ∃ n, n = wid l := ⟨_, rfl⟩
    rw [← hn] at HINN hn48
    have HTQ := Lib.hid (show ∀ W, Below w1.heap.size w1 W → W.cell? ⟨q, 0, none⟩ = some (.int .i64 (n : Int)) ∧ W.cell? ⟨q, 1, none⟩ = some (.int .i64 (l.length : Int)) ∧ q < W.heap.size from fun W hW => by
      obtain ⟨b, cap, r, hb, _⟩ := HTQ.out W hW
      rw [← hn] at hb
      exact ⟨hb.cell 0, hb.cell 1, hb.lt⟩)
    obtain ⟨h, hh⟩ : ∃ h, h = l.length := ⟨_, rfl⟩
    rw [← hh] at HINN HTQ hh48
    have HM0 := Lib.hid (SqI.start HINN.out)
    clear hus hn hh HT HX1 HZ HX0 HNT
    have HZW := Lib.hid (show ∀ W, Below w1.heap.size w1 W → Bk 31 W w.heap.size #[.int .i64 0, .int .i64 0, .int .i64 0, .int .i64 0] from fun W hW => HZ1.out.ext hW)
    have HR1 := Lib.hid (Below.refl w1.heap.size w1)
    obtain ⟨t1, t2, t3⟩ := HTQ.out w1 (Below.refl _ _)
    obtain ⟨s0, hs0⟩ : ∃ s0 : Nat, s0 = min n h := ⟨_, rfl⟩
    have hmin : min (n : Int) (h : Int) = (s0 : Int) := by omega
    have hs48 : s0 ≤ 48 := by omega
    rw [← hs0] at HM0
    clear hs0
    go_quiet (fail)
    have HRD := Lib.hid (show Below w1.heap.size w1 (w1.drewN nq) from ext_drewN _ _)
    go_wp2_with (fail)
    go_loopg [8] (s0 + 1) (fun gg z wr => ∃ k : Nat, z = .int .i64 k ∧ k ≤ 48 ∧ gg = k + 1 ∧ Below w1.heap.size w1 wr ∧ SqI us k 0 0)
    case atStart => exact ⟨s0, rfl, by omega, by omega, HRD.out, HM0.out⟩
    case round =>
      obtain ⟨k, rfl, hk, hgg, hb, hm⟩ := hrel
      have HG1 := Lib.hid hgg
      have HB2 := Lib.hid hb
      have HM1 := Lib.hid hm
      clear hgg hb hm HM0 t1 t2 t3
      by_cases hk0 : 0 < k
      · have hkI : (0 : Int) < (k : Int) := by omega
        obtain ⟨k1, hk1⟩ : ∃ k1, k = k1 + 1 := ⟨k - 1, by omega⟩
        have HK1 := Lib.hid hk1
        clear hk1
        go_wp2_with (fail)
        go_loopg [9] (h + 1) (fun gg z wr => ∃ y : Nat, z = .int .i64 y ∧ y ≤ 49 ∧ gg = h + 1 - y ∧ y + k ≤ h + 1 + k ∧ Below w1.heap.size w1 wr ∧ SqI us k y 0)
        case atStart => exact ⟨0, rfl, by omega, by omega, by omega, HB2.out, HM1.out⟩
        case round =>
          obtain ⟨y, rfl, hy, hgg, hyk, hb, hm⟩ := hrel
          have HG2 := Lib.hid hgg
          have HB3 := Lib.hid hb
          have HM2 := Lib.hid hm
          clear hgg hb hm HB2 HM1
          obtain ⟨t1, t2, t3⟩ := HTQ.out _ HB3.out
          by_cases hyh : y + k ≤ h
          · have hyI : (y : Int) + (k : Int) ≤ (h : Int) := by omega
            go_wp2_with (fail)
            go_loopg [10] (n + 1) (fun gg z wr => ∃ x : Nat, z = .int .i64 x ∧ x ≤ 49 ∧ gg = n + 1 - x ∧ x ≤ n + 1 ∧ Below w1.heap.size w1 wr ∧ SqI us k y x)
            case atStart => exact ⟨0, rfl, by omega, by omega, by omega, HB3.out, HM2.out⟩
            case round =>
              obtain ⟨x, rfl, hx, hgg, hxn, hb, hm⟩ := hrel
              have HG3 := Lib.hid hgg
              have HB4 := Lib.hid hb
              have HM3 := Lib.hid hm
              clear hgg hb hm HB3 HM2 t1 t2 t3
              obtain ⟨t1, t2, t3⟩ := HTQ.out _ HB4.out
              by_cases hxk : x + k ≤ n
              · have hxI : (x : Int) + (k : Int) ≤ (n : Int) := by omega
                have HXR := Lib.hid (ext_alloc wr (.cells #[.int .i64 (x : Int), .int .i64 (y : Int), .int .i64 (k : Int), .int .i64 (k : Int)] 31))
                have HR := Lib.hid (Bk.new 31 wr #[.int .i64 (x : Int), .int .i64 (y : Int), .int .i64 (k : Int), .int .i64 (k : Int)])
                have HB5 := Lib.hid (bext HB4.out HXR.out HB4.out.size)
                go_upto_region 14 with (fail)
                obtain ⟨rq, hrq⟩ : ∃ rq, rq = wr.heap.size := ⟨_, rfl⟩
                obtain ⟨V, hV⟩ : ∃ V, V = wr.alloc (.cells #[.int .i64 (x : Int), .int .i64 (y : Int), .int .i64 (k : Int), .int .i64 (k : Int)] 31) := ⟨_, rfl⟩
                rw [← hrq, ← hV]
                rw [← hrq, ← hV] at HR
                rw [← hV] at HB5
                clear hrq hV HXR HB4 t1 t2 t3
                have HF1 := Lib.hid (HFU.out k x (y : Int) V HB5.out (by omega) (by omega) (by omega))
                rw [fuZ_nat] at HF1
                obtain ⟨r1, r2, r3⟩ := HR.out.facts
                cases hf : fuB us x y k k
                · rw [hf] at HF1
                  have HMN := Lib.hid (HM3.out.no (fun hu => fu_no.1 hf hu.2.2.1))
                  clear hf
                  go_wp2_with (go_at_call 61; refine (HF1.out).mono ?_; rintro e5 w5 ⟨rfl, hx5⟩; have HB6 := Lib.hid (bext HB5.out hx5 HB5.out.size); clear hx5)
                  go_roundg (n + 1 - (x + 1))
                  case measure => have := HG3.out; omega
                  case rel => exact ⟨x + 1, by go_num, by omega, rfl, by omega, HB6.out, HMN.out⟩
                · rw [hf] at HF1
                  have HBT := Lib.hid (HM3.out.hit ⟨hk0, hk0, fu_iff.1 hf, fun _ => rfl⟩)
                  clear hf
                  go_wp2_with (go_at_call 61; refine (HF1.out).mono ?_; rintro e5 w5 ⟨rfl, hx5⟩; have HB6 := Lib.hid (bext HB5.out hx5 HB5.out.size); have HR5 := Lib.hid (HR.out.ext hx5); clear hx5 r1 r2 r3; obtain ⟨r1, r2, r3⟩ := HR5.out.facts; obtain ⟨z1, z2, z3⟩ := (HZW.out _ HB6.out).facts)
                  have p1 := (four_set (HZW.out _ HB6.out) (.int .i64 (x : Int)) (.int .i64 (y : Int)) (.int .i64 (k : Int)) (.int .i64 (k : Int))).facts.1
                  (try simp only [Exit.inBlock, Exit.then])
                  refine bodyPost_ret (v := .tuple #[.agg #[.int .i64 (x : Int), .int .i64 (y : Int), .int .i64 (k : Int), .int .i64 (k : Int)], .int .i64 0]) (by simp [results, Tryd.results20, go_sem, p1]) rfl ?_
                  exact ⟨four_b (HB1.out.trans (HB6.out.mono HB1.out.size)) (Nat.le_refl _) _ _ _ _, .inr (.inr ⟨HPS.out, ⟨x, y, k, k⟩, by rw [← HU.out]; exact HBT.out, rfl⟩)⟩
              · have hxI : ¬ (x : Int) + (k : Int) ≤ (n : Int) := by omega
                have HMN := Lib.hid (HM3.out.nextY HINN.out (show n < x + k by omega))
                go_wp2_with (fail)
                go_roundg (h + 1 - (y + 1))
                case measure => have := HG2.out; omega
                case rel => exact ⟨y + 1, by go_num, by omega, rfl, by omega, HB4.out, HMN.out⟩
          · have hyI : ¬ (y : Int) + (k : Int) ≤ (h : Int) := by omega
            have HMN := Lib.hid (show SqI us k1 0 0 from SqI.nextN HINN.out (y := y) (by have := HM2.out; rw [HK1.out] at this; exact this) (by have := HK1.out; omega))
            have hkI2 : (k : Int) - 1 = (k1 : Int) := by have := HK1.out; omega
            go_wp2_with (fail)
            go_roundg (k1 + 1)
            case measure => have := HG1.out; have := HK1.out; omega
            case rel => exact ⟨k1, by go_num, by have := HK1.out; omega, rfl, HB3.out, HMN.out⟩
      · obtain rfl : k = 0 := by omega
        have HNO := Lib.hid HM1.out.none
        clear hk0
        obtain ⟨z1, z2, z3⟩ := (HZW.out _ HB2.out).facts
        go_wp2_with (fail)
        have p1 := (four_set (HZW.out _ HB2.out) (.int .i64 0) (.int .i64 0) (.int .i64 0) (.int .i64 0)).facts.1
        (try simp only [Exit.inBlock, Exit.then])
        refine bodyPost_ret (v := .tuple #[.agg #[.int .i64 0, .int .i64 0, .int .i64 0, .int .i64 0], .int .i64 7]) (by simp [results, Tryd.results20, go_sem, p1]) rfl ?_
        exact ⟨four_b (HB1.out.trans (HB2.out.mono HB1.out.size)) (Nat.le_refl _) _ _ _ _, .inr (.inl ⟨HPS.out, by rw [← HU.out]; exact HNO.out, rfl⟩)⟩
  · have HPS := Lib.hid hps
    have HNT := Lib.hid (HNT.out.mono (R' := fun e w' => Below (w.alloc (.cells #[.int .i64 0, .int .i64 0, .int .i64 0, .int .i64 0] 31)).heap.size (w.alloc (.cells #[.int .i64 0, .int .i64 0, .int .i64 0, .int .i64 0] 31)) w' ∧ e = .returned (.tuple #[.pointer none, .int .i64 2])) (fun e w' hr => ⟨hr.1, hr.2.elim (fun h => h.2) (fun h => absurd h.1 hps)⟩))
    clear hps
    go_enter Tryd.func20, Tryd.ntmps20
    go_wp2_with (go_at_call 53; refine (HNT.out).mono ?_; rintro e w1 ⟨hx1, rfl⟩; have HB1 := Lib.hid (bext HX0.out hx1 HX0.out.size); have HZ1 := Lib.hid (HZ.out.ext hx1); clear hx1; obtain ⟨z1, z2, z3⟩ := HZ1.out.facts)
    have p1 := (four_set HZ1.out (.int .i64 0) (.int .i64 0) (.int .i64 0) (.int .i64 0)).facts.1
    refine bodyPost_ret (v := .tuple #[.agg #[.int .i64 0, .int .i64 0, .int .i64 0, .int .i64 0], .int .i64 2]) (by simp [results, Tryd.results20, go_sem, p1]) rfl ?_
    exact ⟨four_b HB1.out (Nat.le_refl _) _ _ _ _, .inl ⟨HPS.out, rfl⟩⟩
end Go.Proofs.YtmgofdgbenfjmaaDoor
