/- The table's count, Count; the reference's Good and Count walked. Conditions: the rectangle lies within, where count is called. -/
import Derived.Test.YtmgofdgbenfjmaaDoorTb
import Derived.Test.YtmgofdgbenfjmaaDoorRc
import Derived.Test.YtmgofdgbenfjmaaDoorLNobody
import Derived.Test.YtmgofdgbenfjmaaDoorRg
import Derived.Test.YtmgofdgbenfjmaaDoorGok
namespace Go.Proofs.YtmgofdgbenfjmaaDoor
open Go.RowKit

set_option maxRecDepth 100000 in
set_option maxHeartbeats 4000000 in
theorem tcount_any (n h : Nat) (l : List ByteArray) (g : Int) (base q x y a b : Nat) (w : World) (k : TbS n h l g base q h w) (hn : n ≤ 48) (hh : h ≤ 48) (hx : x + a ≤ n) (hy : y + b ≤ h) :
    Calls Tryd.prog 94 #[.pointer (some ⟨q, 0, none⟩), .agg #[.int .i64 (x : Int), .int .i64 (y : Int), .int .i64 (a : Int), .int .i64 (b : Int)]] w fun e w' => e = .returned (.int .i64 (cnt l g x y a b)) ∧ Below w.heap.size w w' := by
  have HE := Lib.hid (cnt_tab l g x y a b)
  have hx0 := ext_alloc w (.cells #[.int .i64 (x : Int), .int .i64 (y : Int), .int .i64 (a : Int), .int .i64 (b : Int)] 31)
  have HX0 := Lib.hid hx0
  have HR := Lib.hid (Bk.new 31 w #[.int .i64 (x : Int), .int .i64 (y : Int), .int .i64 (a : Int), .int .i64 (b : Int)])
  obtain ⟨B, cap, r, hbk, _, _, hB, hrow⟩ := (k.ext hx0).read
  have hpos := k.lt
  clear hx0
  go_enter Tryd.func94, Tryd.ntmps94
  go_upto_region 1 with (fail)
  obtain ⟨V, hV⟩ : ∃ V, V = w.alloc (.cells #[.int .i64 (x : Int), .int .i64 (y : Int), .int .i64 (a : Int), .int .i64 (b : Int)] 31) := ⟨_, rfl⟩
  obtain ⟨p, hp⟩ : ∃ p, p = w.heap.size := ⟨_, rfl⟩
  rw [← hV] at HX0 HR hbk hB hrow ⊢
  rw [← hp] at HR ⊢
  have HP := Lib.hid hp
  clear hV hp k
  obtain ⟨r1, r2, r3⟩ := HR.out.facts
  obtain ⟨q1, q2, q3⟩ := hbk.facts
  obtain ⟨c1, c2, c3⟩ := hrow y (by omega)
  obtain ⟨d1, d2, d3⟩ := hrow (y + b) (by omega)
  have t1 := c3 x (by omega)
  have t2 := c3 (x + a) (by omega)
  have t3 := d3 x (by omega)
  have t4 := d3 (x + a) (by omega)
  have b1 := tab_bd l g (x := x) (by omega) y
  have b2 := tab_bd l g (x := x + a) (by omega) y
  have b3 := tab_bd l g (x := x) (by omega) (y + b)
  have b4 := tab_bd l g (x := x + a) (by omega) (y + b)
  obtain ⟨v1, hv1⟩ : ∃ v, v = tab l g x y := ⟨_, rfl⟩
  obtain ⟨v2, hv2⟩ : ∃ v, v = tab l g (x + a) y := ⟨_, rfl⟩
  obtain ⟨v3, hv3⟩ : ∃ v, v = tab l g x (y + b) := ⟨_, rfl⟩
  obtain ⟨v4, hv4⟩ : ∃ v, v = tab l g (x + a) (y + b) := ⟨_, rfl⟩
  rw [← hv1] at t1 b1 HE
  rw [← hv2] at t2 b2 HE
  rw [← hv3] at t3 b3 HE
  rw [← hv4] at t4 b4 HE
  obtain ⟨r₁, hr₁⟩ : ∃ r₁, r₁ = r y := ⟨_, rfl⟩
  obtain ⟨r₂, hr₂⟩ : ∃ r₂, r₂ = r (y + b) := ⟨_, rfl⟩
  rw [← hr₁] at c1 c2 t1 t2
  rw [← hr₂] at d1 d2 t3 t4
  clear hv1 hv2 hv3 hv4 hr₁ hr₂ hrow c3 d3 hbk
  have hyb : y + b ≤ 48 := by omega
  go_quiet (fail)
  go_upto_region 2 with (fail)
  go_quiet (fail)
  go_wp2
  refine bodyPost_ret (v := .int .i64 (v4 - v3 - v2 + v1)) (by simp [results, Tryd.results94, go_sem]) rfl ?_
  exact ⟨by rw [HE.out], bdrewN (bdrewN HX0.out _) _⟩
/-- what Count answers -/
def ctE (n h : Nat) (x y a b : Int) : Int := if RcOk x y a b then (if RcIn x y a b n h then 0 else 5) else 2
def ctV (n h : Nat) (l : List ByteArray) (g x y a b : Int) : Int := if RcOk x y a b then (if RcIn x y a b n h then cnt l g x.toNat y.toNat a.toNat b.toNat else 0) else 0
theorem some_ints (W : World) (a : Addr) (n c : Nat) : (binOp .eql 94 (.slice (some a) n c) (.slice none 0 0)).run Tryd.prog W = .ok (.bool false) W := by kernel_rfl
/-- the reference's Count of a rectangle within -/
theorem cnt_snoc (l : List ByteArray) (g : Int) (x y a b : Nat) : cnt l g x y a b + rct l g (y + b) x a = cnt l g x y a (b + 1) := rfl
set_option maxRecDepth 100000 in
set_option maxHeartbeats 4000000 in
theorem rcount_any (A : Option Addr) (cap : Nat) (l : List ByteArray) (g : Int) (x y a b : Nat) (w : World) (hok : SkOk l) (h : TSl w A l) (hx : x + a ≤ wid l) (hy : y + b ≤ l.length) :
    Calls Tryd.prog 25 #[.slice A l.length cap, .int .i64 g, .agg #[.int .i64 (x : Int), .int .i64 (y : Int), .int .i64 (a : Int), .int .i64 (b : Int)]] w fun e w' => e = .returned (.int .i64 (cnt l g x y a b)) ∧ Below w.heap.size w w' := by
  have HX0 := Lib.hid (ext_alloc w (.cells #[.int .i64 (x : Int), .int .i64 (y : Int), .int .i64 (a : Int), .int .i64 (b : Int)] 31))
  have HR0 := Lib.hid (Bk.new 31 w #[.int .i64 (x : Int), .int .i64 (y : Int), .int .i64 (a : Int), .int .i64 (b : Int)])
  have HGR := Lib.hid (fun x y W (hW : Below w.heap.size w W) => rgrade_any A cap l x y W hok (h.ext hW))
  have hl48 := hok.2.1
  have hw48 := hok.2.2.2.1
  have hxa : x + a ≤ 48 := by omega
  have hyb : y + b ≤ 48 := by omega
  clear hok h hx hy hl48 hw48
  go_enter Tryd.func25, Tryd.ntmps25
  go_upto_region 1 with (fail)
  obtain ⟨V, hV⟩ : ∃ V, V = w.alloc (.cells #[.int .i64 (x : Int), .int .i64 (y : Int), .int .i64 (a : Int), .int .i64 (b : Int)] 31) := ⟨_, rfl⟩
  obtain ⟨p, hp⟩ : ∃ p, p = w.heap.size := ⟨_, rfl⟩
  rw [← hV] at HX0 HR0 ⊢
  rw [← hp] at HR0 ⊢
  have HP := Lib.hid hp
  clear hV hp
  obtain ⟨r1, r2, r3⟩ := HR0.out.facts
  go_wp2_with (fail)
  clear r1 r2 r3
  go_loopg [8, 7] b (fun gg i z wr => ∃ k : Nat, i = .int .i64 ((y + k : Nat) : Int) ∧ k ≤ b ∧ gg = b - k ∧ z = .int .i64 (cnt l g x y a k) ∧ Below w.heap.size w wr ∧ Bk 31 wr p #[.int .i64 (x : Int), .int .i64 (y : Int), .int .i64 (a : Int), .int .i64 (b : Int)])
  case atStart => exact ⟨0, by simp, by omega, by omega, rfl, HX0.out, HR0.out⟩
  case round =>
    obtain ⟨k, rfl, hk, hg, rfl, hb, hr⟩ := hrel
    have HG := Lib.hid hg
    have HB := Lib.hid hb
    have HR := Lib.hid hr
    have zb := cnt_bd l g x y (a := a) (by omega) k
    have HCS := Lib.hid (cnt_snoc l g x y a k)
    clear hg hb hr HX0 HR0
    obtain ⟨z, hz⟩ : ∃ z, z = cnt l g x y a k := ⟨_, rfl⟩
    rw [← hz] at zb HCS ⊢
    have HZ := Lib.hid hz
    obtain ⟨r1, r2, r3⟩ := HR.out.facts
    obtain ⟨m, hm⟩ : ∃ m, m = y + k := ⟨_, rfl⟩
    have HM := Lib.hid hm
    rw [← hm] at HCS ⊢
    by_cases hlt : k < b
    · have hmb : (m : Int) < (y : Int) + (b : Int) := by omega
      clear hz hm
      go_wp2_with (fail)
      have HLT := Lib.hid hlt
      clear r1 r2 r3
      go_loopg [9, 7] a (fun gg i v wr => ∃ j : Nat, i = .int .i64 ((x + j : Nat) : Int) ∧ j ≤ a ∧ gg = a - j ∧ v = .int .i64 (z + rct l g m x j) ∧ Below w.heap.size w wr ∧ Bk 31 wr p #[.int .i64 (x : Int), .int .i64 (y : Int), .int .i64 (a : Int), .int .i64 (b : Int)])
      case atStart => exact ⟨0, by simp, by omega, by omega, by rw [rct_zero]; simp, HB.out, HR.out⟩
      case round =>
        obtain ⟨j, rfl, hj, hg2, rfl, hb2, hr2⟩ := hrel
        have HG2 := Lib.hid hg2
        have HB2 := Lib.hid hb2
        have HR2 := Lib.hid hr2
        have zb2 := rct_bd l g m x j
        have HRS := Lib.hid (rct_succ l g m x j)
        clear hg2 hb2 hr2 HB HR
        obtain ⟨r1, r2, r3⟩ := HR2.out.facts
        obtain ⟨i, hi⟩ : ∃ i, i = x + j := ⟨_, rfl⟩
        have HI := Lib.hid hi
        rw [← hi] at HRS ⊢
        obtain ⟨v, hv⟩ : ∃ v, v = rct l g m x j := ⟨_, rfl⟩
        rw [← hv] at zb2 HRS ⊢
        have HV := Lib.hid hv
        by_cases hja : j < a
        · have hia : (i : Int) < (x : Int) + (a : Int) := by omega
          have HGC := Lib.hid (HGR.out (i : Int) (m : Int) wr HB2.out)
          clear hi hv
          cases hus : usb l g ((i : Int), (m : Int))
          · have HE := Lib.hid (show rct l g m x (j + 1) = v from by rw [HRS.out, hus]; simp)
            have hz0 : ¬ g ≤ gr l (i : Int) (m : Int) := by
              unfold usb at hus
              simpa only [decide_eq_false_iff_not] using hus
            obtain ⟨gv, hgv⟩ : ∃ gv, gv = gr l (i : Int) (m : Int) := ⟨_, rfl⟩
            rw [← hgv] at HGC hz0
            clear hus hgv
            go_wp2_with (go_at_call 34; refine (HGC.out).mono ?_; rintro e w9 ⟨rfl, rfl⟩)
            go_roundg (a - (j + 1))
            case measure => have := HG2.out; omega
            case rel => exact ⟨j + 1, by have := HI.out; go_num, by omega, rfl, by rw [HE.out], HB2.out, HR2.out⟩
          · have HE := Lib.hid (show rct l g m x (j + 1) = v + 1 from by rw [HRS.out, hus]; simp)
            have hz0 : g ≤ gr l (i : Int) (m : Int) := by
              unfold usb at hus
              simpa only [decide_eq_true_eq] using hus
            obtain ⟨gv, hgv⟩ : ∃ gv, gv = gr l (i : Int) (m : Int) := ⟨_, rfl⟩
            rw [← hgv] at HGC hz0
            clear hus hgv
            go_wp2_with (go_at_call 34; refine (HGC.out).mono ?_; rintro e w9 ⟨rfl, rfl⟩)
            go_roundg (a - (j + 1))
            case measure => have := HG2.out; omega
            case rel => exact ⟨j + 1, by have := HI.out; go_num, by omega, rfl, by rw [HE.out]; first | rfl | (congr 1; omega), HB2.out, HR2.out⟩
        · have hia : ¬ (i : Int) < (x : Int) + (a : Int) := by omega
          have HE := Lib.hid (show z + v = cnt l g x y a (k + 1) from by rw [← HCS.out, HV.out]; rw [show j = a by omega])
          clear hi hv
          go_wp2
          go_roundg (b - (k + 1))
          case measure => have := HG.out; have := HLT.out; omega
          case rel => exact ⟨k + 1, by have := HM.out; go_num, by have := HLT.out; omega, rfl, by rw [HE.out], HB2.out, HR2.out⟩
    · have hmb : ¬ (m : Int) < (y : Int) + (b : Int) := by omega
      have HE := Lib.hid (show z = cnt l g x y a b from by rw [HZ.out]; rw [show k = b by omega])
      clear hz hm
      go_wp2
      refine bodyPost_ret (v := .int .i64 z) (by simp [results, Tryd.results25, go_sem]) rfl ?_
      exact ⟨by rw [HE.out], HB.out⟩
end Go.Proofs.YtmgofdgbenfjmaaDoor
