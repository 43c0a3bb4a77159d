/- Crop walked, the program's and the reference's. Conditions: each string's length is an int. -/
import Derived.Test.YtdkoomcgnaokgaaDoorRc
namespace Go.Proofs.YtdkoomcgnaokgaaDoor
open Go.RowKit

/-- the cut out skin -/
def crpP (l : List ByteArray) (x y a b : Int) : List ByteArray := skF a.toNat b.toNat fun i j => cellB l (x.toNat + i) (y.toNat + j)
theorem ft_ok {l : List ByteArray} {x y a b : Int} (h : ftE l x y a b = 0) : SkOk l ∧ RcOk x y a b ∧ RcIn x y a b (wid l) l.length := by
  unfold ftE at h
  split at h
  · rename_i h1
    split at h
    · rename_i h2; exact ⟨h1.1, h1.2, h2⟩
    · omega
  · omega
/-- the sizes of a rectangle that fits -/
theorem ft_nat {l : List ByteArray} {x y a b : Int} (h : ftE l x y a b = 0) : ∃ xn yn an bn : Nat, x = xn ∧ y = yn ∧ a = an ∧ b = bn ∧ 1 ≤ an ∧ 1 ≤ bn ∧ xn + an ≤ wid l ∧ yn + bn ≤ l.length := by
  obtain ⟨_, ⟨h1, h2, h3, h4⟩, ⟨h5, h6, h7, h8⟩⟩ := ft_ok h
  exact ⟨x.toNat, y.toNat, a.toNat, b.toNat, by omega, by omega, by omega, by omega, by omega, by omega, by omega, by omega⟩
set_option maxRecDepth 100000 in
set_option maxHeartbeats 2000000 in
theorem crop_cell (i j xn yn : Nat) (an bn : Int) (p q : Nat) (A : Option Addr) (cap : Nat) (l : List ByteArray) (W : World) (hok : SkOk l) (h : TSl W A l) (hp : W.cell? ⟨p, 0, none⟩ = some (.slice A l.length cap)) (hq : Bk 31 W q #[.int .i64 (xn : Int), .int .i64 (yn : Int), .int .i64 an, .int .i64 bn]) (hx : xn + i < wid l) (hy : yn + j < l.length) :
    Calls Tryd.prog 70 #[.int .i64 (i : Int), .int .i64 (j : Int), .pointer (some ⟨p, 0, none⟩), .pointer (some ⟨q, 0, none⟩)] W fun e w' => e = .returned (.int .u8 (cellB l (xn + i) (yn + j) : Int)) ∧ Below W.heap.size W w' := by
  have hw48 := hok.2.2.2.1
  have hl48 := hok.2.1
  rcases h with h0 | ⟨b, off, rfl, hblt, hcl⟩
  · rw [h0] at hy; simp at hy
  have c1 := hcl (yn + j) hy
  have hs := (hok.row hy).1
  have HCB := Lib.hid (cellB_at (x := xn + i) hy)
  obtain ⟨r, hr⟩ : ∃ r, r = l[yn + j] := ⟨_, rfl⟩
  rw [← hr] at c1 hs HCB
  obtain ⟨q1, q2, q3⟩ := hq.facts
  obtain ⟨m, hm⟩ : ∃ m, m = yn + j := ⟨_, rfl⟩
  obtain ⟨n, hn⟩ : ∃ n, n = xn + i := ⟨_, rfl⟩
  rw [← hm] at c1 HCB ⊢
  rw [← hn] at HCB ⊢
  have e1 : (yn : Int) + (j : Int) = (m : Int) := by omega
  have e2 : (xn : Int) + (i : Int) = (n : Int) := by omega
  have hml : m < l.length := by omega
  have hml2 : (m : Int) < (l.length : Int) := by omega
  have hnr : n < r.size := by omega
  have hnr2 : (n : Int) < (r.size : Int) := by omega
  have hjb : j < 100 := by omega
  have hib : i < 100 := by omega
  have hyb : yn < 100 := by omega
  have hxb : xn < 100 := by omega
  have HB := Lib.hid (show byteAt r n = r[n].toNat from dif_pos hnr)
  obtain ⟨z, hz⟩ : ∃ z, z = cellB l n m := ⟨_, rfl⟩
  have HZ := Lib.hid hz
  rw [← hz]
  clear hcl hr hm hn hz hs hq hx hy
  go_enter Tryd.func70, Tryd.ntmps70
  go_upto_region 1 with (fail)
  go_quiet (fail)
  go_wp2
  go_ret
  refine ⟨?_, ext_drewN _ _⟩
  rw [HZ.out, HCB.out, HB.out]
  rfl
set_option maxRecDepth 100000 in
set_option maxHeartbeats 4000000 in
theorem crop_any (A : Option Addr) (cap : Nat) (l : List ByteArray) (x y a b : Int) (w : World) (hc : l.length ≤ cap) (hcm : cap ≤ 9223372036854775807) (h : TSl w A l) (hz : TSz l) :
    Calls Tryd.prog 39 #[.slice A l.length cap, .agg #[.int .i64 x, .int .i64 y, .int .i64 a, .int .i64 b]] w (RetS2 w (ftE l x y a b = 0) (ftE l x y a b) (crpP l x y a b)) := by
  have hmf : ∀ (fn : Fn) (first cap : Array Value) (w : World), (Instr.makeFunc fn first cap).run Tryd.prog w = .ok (.func fn first cap) w := fun _ _ _ _ => rfl
  have hx0 := ext_trans (ext_alloc w (.cells #[.slice A l.length cap] 22)) (ext_alloc _ (.cells #[.int .i64 x, .int .i64 y, .int .i64 a, .int .i64 b] 31))
  have HX0 := Lib.hid hx0
  have HB0 := Lib.hid ((Bk.new 22 w #[.slice A l.length cap]).alloc (.cells #[.int .i64 x, .int .i64 y, .int .i64 a, .int .i64 b] 31))
  have hq0 := Bk.new 31 (w.alloc (.cells #[.slice A l.length cap] 22)) #[.int .i64 x, .int .i64 y, .int .i64 a, .int .i64 b]
  rw [World.size_alloc] at hq0
  have HQ0 := Lib.hid hq0
  have HFT := Lib.hid (fits_any A cap l x y a b _ hc hcm (h.ext hx0) hz)
  have HT := Lib.hid h
  clear hq0 hx0 hz
  by_cases hft : ftE l x y a b = 0
  · have HOK := Lib.hid (ft_ok hft).1
    have HF0 := Lib.hid hft
    obtain ⟨xn, yn, an, bn, rfl, rfl, rfl, rfl, ha, hb, hxa, hyb⟩ := ft_nat hft
    rw [hft] at HFT
    have hl48 := HOK.out.2.1
    have hw48 := HOK.out.2.2.2.1
    clear hft h
    go_enter Tryd.func39, Tryd.ntmps39
    go_upto_region 4 with (go_at_call 69; refine (HFT.out).mono ?_; rintro e w1 ⟨rfl, hx1⟩; have BB1 := Lib.hid (bext HX0.out hx1 HX0.out.size); have HB1 := Lib.hid (HB0.out.ext hx1); have HQ1 := Lib.hid (HQ0.out.ext hx1); clear hx1; obtain ⟨f1, f2, f3⟩ := HB1.out.facts; obtain ⟨q1, q2, q3⟩ := HQ1.out.facts)
    clear f1 f2 f3 q1 q2 q3
    obtain ⟨f1, f2, f3⟩ := HB1.out.facts
    obtain ⟨q1, q2, q3⟩ := HQ1.out.facts
    have HTU := Lib.hid (turned_any an bn 70 #[.pointer (some ⟨w.heap.size, 0, none⟩), .pointer (some ⟨w.heap.size + 1, 0, none⟩)] (fun i j => cellB l (xn + i) (yn + j)) w1 (by omega) (by omega) (fun _ _ => rfl)
      (fun V hV i j hi hj => crop_cell i j xn yn an bn w.heap.size (w.heap.size + 1) A cap l V HOK.out (HT.out.ext (bext BB1.out hV BB1.out.size)) ((HB1.out.ext hV).cell 0) (HQ1.out.ext hV) (by omega) (by omega))
      (fun i j _ _ => by have := cellB_rg HOK.out (xn + i) (yn + j); omega))
    unfold RetSk at HTU
    obtain ⟨ms, hms⟩ : ∃ ms, ms = crpP l xn yn an bn := ⟨_, rfl⟩
    have HMS := Lib.hid hms
    rw [show (skF an bn fun i j => cellB l (xn + i) (yn + j)) = ms from by rw [hms]; rfl] at HTU
    clear hms
    go_wp2_with (go_at_call 61; refine (HTU.out).mono ?_; rintro e w5 ⟨hx5, A5, cap5, rfl, k1, k2, k3⟩)
    refine bodyPost_ret (v := .tuple #[.slice A5 ms.length cap5, .int .i64 0]) (by simp [results, Tryd.results39, go_sem]) rfl ?_
    have hm2 := HMS.out
    subst hm2
    exact ⟨bext BB1.out hx5 BB1.out.size, .inr ⟨HF0.out, A5, cap5, rfl, k1, k2, k3⟩⟩
  · have HF0 := Lib.hid hft
    obtain ⟨ev, hev⟩ : ∃ ev, ev = ftE l x y a b := ⟨_, rfl⟩
    have HEV := Lib.hid hev
    rw [← hev] at HFT hft
    have hev2 : (ev != 0) = true := by simpa using hft
    clear hft h hev
    go_enter Tryd.func39, Tryd.ntmps39
    go_wp2_with (go_at_call 69; refine (HFT.out).mono ?_; rintro e w1 ⟨rfl, hx1⟩; have BB1 := Lib.hid (bext HX0.out hx1 HX0.out.size); have HB1 := Lib.hid (HB0.out.ext hx1); have HQ1 := Lib.hid (HQ0.out.ext hx1); clear hx1; obtain ⟨f1, f2, f3⟩ := HB1.out.facts; obtain ⟨q1, q2, q3⟩ := HQ1.out.facts)
    refine bodyPost_ret (v := .tuple #[.slice none 0 0, .int .i64 ev]) (by simp [results, Tryd.results39, go_sem]) rfl ?_
    exact ⟨BB1.out, .inl ⟨HF0.out, by rw [← HEV.out]⟩⟩
set_option maxRecDepth 100000 in
set_option maxHeartbeats 4000000 in
theorem rcrop_any (A : Option Addr) (cap : Nat) (l : List ByteArray) (x y a b : Int) (w : World) (hc : l.length ≤ cap) (hcm : cap ≤ 9223372036854775807) (h : TSl w A l) (hz : TSz l) :
    Calls Tryd.prog 40 #[.slice A l.length cap, .agg #[.int .i64 x, .int .i64 y, .int .i64 a, .int .i64 b]] w (RetS2 w (ftE l x y a b = 0) (ftE l x y a b) (crpP l x y a b)) := by
  have hx0 := ext_alloc w (.cells #[.int .i64 x, .int .i64 y, .int .i64 a, .int .i64 b] 31)
  have HX0 := Lib.hid hx0
  have HQ0 := Lib.hid (Bk.new 31 w #[.int .i64 x, .int .i64 y, .int .i64 a, .int .i64 b])
  have HFT := Lib.hid (rchecked_any A cap l x y a b _ hc hcm (h.ext hx0) hz)
  have HT := Lib.hid h
  clear hx0 hz
  by_cases hft : ftE l x y a b = 0
  · have HOK := Lib.hid (ft_ok hft).1
    have HF0 := Lib.hid hft
    obtain ⟨xn, yn, an, bn, rfl, rfl, rfl, rfl, ha, hb, hxa, hyb⟩ := ft_nat hft
    rw [hft] at HFT
    have hl48 := HOK.out.2.1
    have hw48 := HOK.out.2.2.2.1
    have HGR := Lib.hid (fun x y W (hW : Below w.heap.size w W) => rgrade_any A cap l x y W HOK.out (HT.out.ext hW))
    clear hft h
    go_enter Tryd.func40, Tryd.ntmps40
    go_upto_region 4 with (go_at_call 71; refine (HFT.out).mono ?_; rintro e w1 ⟨rfl, hx1⟩; have BB1 := Lib.hid (bext HX0.out hx1 HX0.out.size); have HQ1 := Lib.hid (HQ0.out.ext hx1); clear hx1; obtain ⟨q1, q2, q3⟩ := HQ1.out.facts)
    obtain ⟨V0, hV0⟩ : ∃ V0, V0 = w1 := ⟨_, rfl⟩
    subst hV0
    go_wp2_with (fail)
    go_loopg [18, 7] bn (fun gg i v wr => ∃ j : Nat, i = .int .i64 j ∧ j ≤ bn ∧ gg = bn - j ∧ Below w.heap.size w wr ∧ Bk 31 wr w.heap.size #[.int .i64 (xn : Int), .int .i64 (yn : Int), .int .i64 (an : Int), .int .i64 (bn : Int)] ∧ Vi (w.heap.size + 1) wr v (gridP an (fun i j => gr l ((xn + i : Nat) : Int) ((yn + j : Nat) : Int)) j 0))
    case atStart => exact ⟨0, rfl, by omega, by omega, BB1.out, HQ1.out, by rw [gridP_none]; exact Vi.nil _ _⟩
    case round =>
      obtain ⟨j, rfl, hj, hg, hb1, hq1, hv1⟩ := hrel
      have HG := Lib.hid hg
      have HB := Lib.hid hb1
      have HQ := Lib.hid hq1
      have HVV := Lib.hid hv1
      clear hg hb1 hq1 hv1 q1 q2 q3 BB1 HQ1
      obtain ⟨q1, q2, q3⟩ := HQ.out.facts
      by_cases hlt : j < bn
      · go_wp2
        go_loopg [23, 7] an (fun gg i v wr => ∃ i' : Nat, i = .int .i64 i' ∧ i' ≤ an ∧ gg = an - i' ∧ Below w.heap.size w wr ∧ Bk 31 wr w.heap.size #[.int .i64 (xn : Int), .int .i64 (yn : Int), .int .i64 (an : Int), .int .i64 (bn : Int)] ∧ Vi (w.heap.size + 1) wr v (gridP an (fun i j => gr l ((xn + i : Nat) : Int) ((yn + j : Nat) : Int)) j i'))
        case atStart => exact ⟨0, rfl, by omega, by omega, HB.out, HQ.out, HVV.out⟩
        case round =>
          obtain ⟨i, rfl, hi, hg2, hb2, hq2, hv2⟩ := hrel
          have HG2 := Lib.hid hg2
          have HB2 := Lib.hid hb2
          have HQ2 := Lib.hid hq2
          have HV2 := Lib.hid hv2
          have HLT := Lib.hid hlt
          have hgl := gridP_len an (fun i j => gr l ((xn + i : Nat) : Int) ((yn + j : Nat) : Int)) j i
          clear hg2 hb2 hq2 hv2 HB HVV HQ q1 q2 q3
          obtain ⟨q1, q2, q3⟩ := HQ2.out.facts
          by_cases hxn : i < an
          · have HGC := Lib.hid (HGR.out ((xn + i : Nat) : Int) ((yn + j : Nat) : Int) wr HB2.out)
            have HGS := Lib.hid (gridP_cell an (fun i j => gr l ((xn + i : Nat) : Int) ((yn + j : Nat) : Int)) j i)
            obtain ⟨z, hz⟩ : ∃ z, z = gr l ((xn + i : Nat) : Int) ((yn + j : Nat) : Int) := ⟨_, rfl⟩
            try dsimp only at HGS
            rw [← hz] at HGC HGS
            obtain ⟨m, hm⟩ : ∃ m, m = xn + i := ⟨_, rfl⟩
            obtain ⟨m', hm'⟩ : ∃ m', m' = yn + j := ⟨_, rfl⟩
            have e1 : (xn : Int) + (i : Int) = (m : Int) := by omega
            have e2 : (yn : Int) + (j : Int) = (m' : Int) := by omega
            rw [← hm, ← hm'] at HGC
            have hib : i < 100 := by omega
            have hjb : j < 100 := by omega
            have hxb : xn < 100 := by omega
            have hyb2 : yn < 100 := by omega
            have hyx : j * an + i ≤ 48 * 48 + 48 := by
              have := Nat.mul_le_mul (show j ≤ 48 by omega) (show an ≤ 48 by omega)
              omega
            have hgl2 : (gridP an (fun i j => gr l ((xn + i : Nat) : Int) ((yn + j : Nat) : Int)) j i).length ≤ 1000000 := by omega
            have hbs : w.heap.size + 1 ≤ wr.heap.size := q3
            clear hz hgl hyx hm hm'
            go_wp2_with (first
              | (go_at_call 53; refine (HGC.out).mono ?_; rintro e w9 ⟨rfl, rfl⟩)
              | (at_builtin; refine wpList_pushI _ rfl _ _ rfl (w.heap.size + 1) HV2.out (by rfl) (by rfl) rfl hgl2 hbs ?_; intro v5 w5 hv5 hb5 hk5 _; have HV5 := Lib.hid hv5; have HB5 := Lib.hid (HB2.out.trans (hb5.mono (by omega))); have HQ5 := Lib.hid ((hk5 _ HQ2.out.lt (own_ne_lt HV2.out (by omega))).trans HQ2.out); clear hv5 hb5 hk5))
            go_roundg (an - (i + 1))
            case measure => have := HG2.out; omega
            case rel => exact ⟨i + 1, by go_num, by omega, rfl, HB5.out, HQ5.out, by rw [HGS.out]; exact HV5.out⟩
          · obtain rfl : i = an := by omega
            have HR := Lib.hid (gridP_row i (fun i j => gr l ((xn + i : Nat) : Int) ((yn + j : Nat) : Int)) j)
            clear hgl
            go_wp2
            go_roundg (bn - (j + 1))
            case measure => have := HG.out; have := HLT.out; omega
            case rel => exact ⟨j + 1, by go_num, by have := HLT.out; omega, rfl, HB2.out, HQ2.out, by rw [← HR.out]; exact HV2.out⟩
      · obtain rfl : j = bn := by omega
        obtain ⟨C, cc, hv2, k1, k2, k3⟩ := HVV.out.isl
        subst hv2
        have HDR := Lib.hid (drawn_any an j (fun i j => gr l ((xn + i : Nat) : Int) ((yn + j : Nat) : Int)) C cc wr (by omega) (by omega) (fun x y _ _ => gr_rg HOK.out _ _) k3)
        unfold RetSk at HDR
        obtain ⟨ms, hms⟩ : ∃ ms, ms = crpP l xn yn an j := ⟨_, rfl⟩
        have HMS := Lib.hid hms
        have e1 : (skF an j fun i j => 48 + (gr l ((xn + i : Nat) : Int) ((yn + j : Nat) : Int)).toNat) = ms := by
          rw [hms]
          show _ = skF an j fun i j => cellB l (xn + i) (yn + j)
          refine skF_congr fun i j' hi hj => ?_
          exact gr_cellN HOK.out (by omega) (by omega)
        rw [e1] at HDR
        clear hms e1 k1 k2 k3 hlt
        go_wp2_with (go_at_call 63; refine (HDR.out).mono ?_; rintro e w5 ⟨hx5, A5, cap5, rfl, k1, k2, k3⟩)
        refine bodyPost_ret (v := .tuple #[.slice A5 ms.length cap5, .int .i64 0]) (by simp [results, Tryd.results40, go_sem]) rfl ?_
        have hm2 := HMS.out
        subst hm2
        exact ⟨bext HB.out hx5 HB.out.size, .inr ⟨HF0.out, A5, cap5, rfl, k1, k2, k3⟩⟩
  · have HF0 := Lib.hid hft
    obtain ⟨ev, hev⟩ : ∃ ev, ev = ftE l x y a b := ⟨_, rfl⟩
    have HEV := Lib.hid hev
    rw [← hev] at HFT hft
    have hev2 : (ev != 0) = true := by simpa using hft
    clear hft h hev
    go_enter Tryd.func40, Tryd.ntmps40
    go_wp2_with (go_at_call 71; refine (HFT.out).mono ?_; rintro e w1 ⟨rfl, hx1⟩; have BB1 := Lib.hid (bext HX0.out hx1 HX0.out.size); have HQ1 := Lib.hid (HQ0.out.ext hx1); clear hx1; obtain ⟨q1, q2, q3⟩ := HQ1.out.facts)
    refine bodyPost_ret (v := .tuple #[.slice none 0 0, .int .i64 ev]) (by simp [results, Tryd.results40, go_sem]) rfl ?_
    exact ⟨BB1.out, .inl ⟨HF0.out, by rw [← HEV.out]⟩⟩
end Go.Proofs.YtdkoomcgnaokgaaDoor
