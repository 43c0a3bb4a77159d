/- The table's count, Count; the reference's Good and Count walked. Conditions: the rectangle lies within, where count is called. -/
import Derived.Test.YtdkoomcgnaokgaaDoorTb
import Derived.Test.YtdkoomcgnaokgaaDoorRc
import Derived.Test.YtdkoomcgnaokgaaDoorLNobody
import Derived.Test.YtdkoomcgnaokgaaDoorRg
namespace Go.Proofs.YtdkoomcgnaokgaaDoor
open Go.RowKit

set_option maxRecDepth 100000 in
set_option maxHeartbeats 4000000 in
theorem tcount_any (n h : Nat) (l : List ByteArray) (g : Int) (base q x y a b : Nat) (w : World) (k : TbS n h l g base q h w) (hn : n ≤ 48) (hh : h ≤ 48) (hx : x + a ≤ n) (hy : y + b ≤ h) :
    Calls Tryd.prog 59 #[.pointer (some ⟨q, 0, none⟩), .agg #[.int .i64 (x : Int), .int .i64 (y : Int), .int .i64 (a : Int), .int .i64 (b : Int)]] w fun e w' => e = .returned (.int .i64 (cnt l g x y a b)) ∧ Below w.heap.size w w' := by
  have HE := Lib.hid (cnt_tab l g x y a b)
  have hx0 := ext_alloc w (.cells #[.int .i64 (x : Int), .int .i64 (y : Int), .int .i64 (a : Int), .int .i64 (b : Int)] 31)
  have HX0 := Lib.hid hx0
  have HR := Lib.hid (Bk.new 31 w #[.int .i64 (x : Int), .int .i64 (y : Int), .int .i64 (a : Int), .int .i64 (b : Int)])
  obtain ⟨B, cap, r, hbk, _, _, hB, hrow⟩ := (k.ext hx0).read
  have hpos := k.lt
  clear hx0
  go_enter Tryd.func59, Tryd.ntmps59
  go_upto_region 1 with (fail)
  obtain ⟨V, hV⟩ : ∃ V, V = w.alloc (.cells #[.int .i64 (x : Int), .int .i64 (y : Int), .int .i64 (a : Int), .int .i64 (b : Int)] 31) := ⟨_, rfl⟩
  obtain ⟨p, hp⟩ : ∃ p, p = w.heap.size := ⟨_, rfl⟩
  rw [← hV] at HX0 HR hbk hB hrow ⊢
  rw [← hp] at HR ⊢
  have HP := Lib.hid hp
  clear hV hp k
  obtain ⟨r1, r2, r3⟩ := HR.out.facts
  obtain ⟨q1, q2, q3⟩ := hbk.facts
  obtain ⟨c1, c2, c3⟩ := hrow y (by omega)
  obtain ⟨d1, d2, d3⟩ := hrow (y + b) (by omega)
  have t1 := c3 x (by omega)
  have t2 := c3 (x + a) (by omega)
  have t3 := d3 x (by omega)
  have t4 := d3 (x + a) (by omega)
  have b1 := tab_bd l g (x := x) (by omega) y
  have b2 := tab_bd l g (x := x + a) (by omega) y
  have b3 := tab_bd l g (x := x) (by omega) (y + b)
  have b4 := tab_bd l g (x := x + a) (by omega) (y + b)
  obtain ⟨v1, hv1⟩ : ∃ v, v = tab l g x y := ⟨_, rfl⟩
  obtain ⟨v2, hv2⟩ : ∃ v, v = tab l g (x + a) y := ⟨_, rfl⟩
  obtain ⟨v3, hv3⟩ : ∃ v, v = tab l g x (y + b) := ⟨_, rfl⟩
  obtain ⟨v4, hv4⟩ : ∃ v, v = tab l g (x + a) (y + b) := ⟨_, rfl⟩
  rw [← hv1] at t1 b1 HE
  rw [← hv2] at t2 b2 HE
  rw [← hv3] at t3 b3 HE
  rw [← hv4] at t4 b4 HE
  obtain ⟨r₁, hr₁⟩ : ∃ r₁, r₁ = r y := ⟨_, rfl⟩
  obtain ⟨r₂, hr₂⟩ : ∃ r₂, r₂ = r (y + b) := ⟨_, rfl⟩
  rw [← hr₁] at c1 c2 t1 t2
  rw [← hr₂] at d1 d2 t3 t4
  clear hv1 hv2 hv3 hv4 hr₁ hr₂ hrow c3 d3 hbk
  have hyb : y + b ≤ 48 := by omega
  go_quiet (fail)
  go_upto_region 2 with (fail)
  go_quiet (fail)
  go_wp2
  refine bodyPost_ret (v := .int .i64 (v4 - v3 - v2 + v1)) (by simp [results, Tryd.results59, go_sem]) rfl ?_
  exact ⟨by rw [HE.out], bdrewN (bdrewN HX0.out _) _⟩
/-- what Count answers -/
def ctE (n h : Nat) (x y a b : Int) : Int := if RcOk x y a b then (if RcIn x y a b n h then 0 else 5) else 2
def ctV (n h : Nat) (l : List ByteArray) (g x y a b : Int) : Int := if RcOk x y a b then (if RcIn x y a b n h then cnt l g x.toNat y.toNat a.toNat b.toNat else 0) else 0
theorem some_ints (W : World) (a : Addr) (n c : Nat) : (binOp .eql 38 (.slice (some a) n c) (.slice none 0 0)).run Tryd.prog W = .ok (.bool false) W := by kernel_rfl
set_option maxRecDepth 100000 in
set_option maxHeartbeats 4000000 in
theorem Count_any (n h : Nat) (l : List ByteArray) (g : Int) (base q : Nat) (x y a b : Int) (w : World) (k : TbS n h l g base q h w) (hn : n ≤ 48) (hh : h ≤ 48) :
    Calls Tryd.prog 15 #[.pointer (some ⟨q, 0, none⟩), .agg #[.int .i64 x, .int .i64 y, .int .i64 a, .int .i64 b]] w fun e w' => e = .returned (.tuple #[.int .i64 (ctV n h l g x y a b), .int .i64 (ctE n h x y a b)]) ∧ Below w.heap.size w w' := by
  have hx0 := ext_alloc w (.cells #[.int .i64 x, .int .i64 y, .int .i64 a, .int .i64 b] 31)
  have HX0 := Lib.hid hx0
  have HR := Lib.hid (Bk.new 31 w #[.int .i64 x, .int .i64 y, .int .i64 a, .int .i64 b])
  have HK := Lib.hid (k.ext hx0)
  have hnil := some_ints
  unfold ctV ctE
  clear hx0
  obtain ⟨V, hV⟩ : ∃ V, V = w.alloc (.cells #[.int .i64 x, .int .i64 y, .int .i64 a, .int .i64 b] 31) := ⟨_, rfl⟩
  obtain ⟨p, hp⟩ : ∃ p, p = w.heap.size := ⟨_, rfl⟩
  have HV := Lib.hid hV
  have HP := Lib.hid hp
  rw [← hV] at HX0 HR HK
  rw [← hp] at HR
  clear hV hp
  obtain ⟨B, cap, r, hbk, _, _, hB, _⟩ := HK.out.read
  have hpos := k.lt
  clear k
  by_cases hok : RcOk x y a b
  · have HRI := Lib.hid (fun W => (show Calls Tryd.prog 57 #[.agg #[.int .i64 x, .int .i64 y, .int .i64 a, .int .i64 b]] W fun e w' => e = .returned (.bool true) ∧ Below W.heap.size W w' from by
      have h := right_any x y a b W; rw [decide_eq_true hok] at h; exact h))
    rw [if_pos hok, if_pos hok]
    by_cases hin : RcIn x y a b n h
    · have HIN := Lib.hid (fun W => (show Calls Tryd.prog 58 #[.agg #[.int .i64 x, .int .i64 y, .int .i64 a, .int .i64 b], .int .i64 n, .int .i64 h] W fun e w' => e = .returned (.bool true) ∧ Below W.heap.size W w' from by
        have h := inside_any x y a b n h W hok.1 hok.2.1 ⟨by omega, by omega⟩ ⟨by omega, by omega⟩; rw [decide_eq_true hin] at h; exact h))
      rw [if_pos hin, if_pos hin]
      have HCT := Lib.hid (fun W (hW : Below V.heap.size V W) => (show Calls Tryd.prog 59 #[.pointer (some ⟨q, 0, none⟩), .agg #[.int .i64 x, .int .i64 y, .int .i64 a, .int .i64 b]] W fun e w' => e = .returned (.int .i64 (cnt l g x.toNat y.toNat a.toNat b.toNat)) ∧ Below W.heap.size W w' from by
        unfold RcOk at hok
        unfold RcIn at hin
        have h := tcount_any n h l g base q x.toNat y.toNat a.toNat b.toNat W (HK.out.ext hW) hn hh (by omega) (by omega)
        rw [show ((x.toNat : Nat) : Int) = x by omega, show ((y.toNat : Nat) : Int) = y by omega, show ((a.toNat : Nat) : Int) = a by omega, show ((b.toNat : Nat) : Int) = b by omega] at h
        exact h))
      obtain ⟨v, hv⟩ : ∃ v, v = cnt l g x.toNat y.toNat a.toNat b.toNat := ⟨_, rfl⟩
      rw [← hv] at HCT ⊢
      clear hv hok hin
      go_enter Tryd.func15, Tryd.ntmps15
      go_upto_region 1 with (fail)
      rw [← HV.out, ← HP.out]
      obtain ⟨r1, r2, r3⟩ := HR.out.facts
      obtain ⟨q1, q2, q3⟩ := hbk.facts
      go_upto_region 5 with (go_at_call 57; refine (HRI.out _).mono ?_; rintro e w1 ⟨rfl, hx1⟩)
      have HR1 := Lib.hid (HR.out.ext hx1)
      have hbk1 := hbk.ext hx1
      have HX1 := Lib.hid hx1
      clear r1 r2 r3 q1 q2 q3 hbk hx1
      obtain ⟨r1, r2, r3⟩ := HR1.out.facts
      obtain ⟨q1, q2, q3⟩ := hbk1.facts
      go_still_tail 9, (by kernel_rfl)
      have HX2 := Lib.hid (ext_trans HX1.out (ext_drew w1))
      have HR2 := Lib.hid (HR1.out.ext (ext_drew w1))
      change wpList _ _ _ _ _ w1.drew
      obtain ⟨X, hX⟩ : ∃ X, X = w1.drew := ⟨_, rfl⟩
      rw [← hX] at HX2 HR2 ⊢
      clear hX r1 r2 r3 q1 q2 q3 hbk1 HR1 HX1
      go_wp2_with (first
        | (go_at_call 58; refine (HIN.out _).mono ?_; rintro e w3 ⟨rfl, hx3⟩; have HX3 := Lib.hid (ext_trans HX2.out hx3); obtain ⟨r1, r2, r3⟩ := (HR2.out.ext hx3).facts; clear hx3)
        | (go_at_call 59; refine (HCT.out _ HX3.out).mono ?_; rintro e w4 ⟨rfl, hx4⟩))
      go_ret2
      exact ⟨rfl, ext_trans (ext_trans HX0.out HX3.out) hx4⟩
    · have HIN := Lib.hid (fun W => (show Calls Tryd.prog 58 #[.agg #[.int .i64 x, .int .i64 y, .int .i64 a, .int .i64 b], .int .i64 n, .int .i64 h] W fun e w' => e = .returned (.bool false) ∧ Below W.heap.size W w' from by
        have h := inside_any x y a b n h W hok.1 hok.2.1 ⟨by omega, by omega⟩ ⟨by omega, by omega⟩; rw [decide_eq_false hin] at h; exact h))
      rw [if_neg hin, if_neg hin]
      clear hok hin
      go_enter Tryd.func15, Tryd.ntmps15
      go_upto_region 1 with (fail)
      rw [← HV.out, ← HP.out]
      obtain ⟨r1, r2, r3⟩ := HR.out.facts
      obtain ⟨q1, q2, q3⟩ := hbk.facts
      go_upto_region 5 with (go_at_call 57; refine (HRI.out _).mono ?_; rintro e w1 ⟨rfl, hx1⟩)
      have HR1 := Lib.hid (HR.out.ext hx1)
      have hbk1 := hbk.ext hx1
      have HX1 := Lib.hid hx1
      clear r1 r2 r3 q1 q2 q3 hbk hx1
      obtain ⟨r1, r2, r3⟩ := HR1.out.facts
      obtain ⟨q1, q2, q3⟩ := hbk1.facts
      go_still_tail 9, (by kernel_rfl)
      have HX2 := Lib.hid (ext_trans HX1.out (ext_drew w1))
      have HR2 := Lib.hid (HR1.out.ext (ext_drew w1))
      change wpList _ _ _ _ _ w1.drew
      obtain ⟨X, hX⟩ : ∃ X, X = w1.drew := ⟨_, rfl⟩
      rw [← hX] at HX2 HR2 ⊢
      clear hX r1 r2 r3 q1 q2 q3 hbk1 HR1 HX1
      go_wp2_with (go_at_call 58; refine (HIN.out _).mono ?_; rintro e w3 ⟨rfl, hx3⟩)
      go_ret2
      exact ⟨rfl, ext_trans (ext_trans HX0.out HX2.out) hx3⟩
  · have HRI := Lib.hid (fun W => (show Calls Tryd.prog 57 #[.agg #[.int .i64 x, .int .i64 y, .int .i64 a, .int .i64 b]] W fun e w' => e = .returned (.bool false) ∧ Below W.heap.size W w' from by
      have h := right_any x y a b W; rw [decide_eq_false hok] at h; exact h))
    rw [if_neg hok, if_neg hok]
    clear hok
    go_enter Tryd.func15, Tryd.ntmps15
    go_upto_region 1 with (fail)
    rw [← HV.out, ← HP.out]
    obtain ⟨r1, r2, r3⟩ := HR.out.facts
    obtain ⟨q1, q2, q3⟩ := hbk.facts
    go_wp2_with (go_at_call 57; refine (HRI.out _).mono ?_; rintro e w1 ⟨rfl, hx1⟩)
    go_ret2
    exact ⟨rfl, ext_trans HX0.out hx1⟩
instance (l : List ByteArray) (g : Int) : Decidable (PsOk l g) := by unfold PsOk; infer_instance
set_option maxRecDepth 100000 in
set_option maxHeartbeats 4000000 in
theorem good_any (A : Option Addr) (cap : Nat) (l : List ByteArray) (g : Int) (w : World) (hc : l.length ≤ cap) (hcm : cap ≤ 9223372036854775807) (h : TSl w A l) (hz : TSz l) :
    Calls Tryd.prog 17 #[.slice A l.length cap, .int .i64 g] w fun e w' => e = .returned (.bool (decide (PsOk l g))) ∧ Below w.heap.size w w' := by
  have HV := Lib.hid (rvalid_any A cap l w hc hcm h hz)
  by_cases hok : SkOk l
  · rw [decide_eq_true hok] at HV
    by_cases h1 : 1 ≤ g
    · by_cases h2 : g ≤ 9
      · rw [decide_eq_true (show PsOk l g from ⟨hok, h1, h2⟩)]
        clear hok
        go_enter Tryd.func17, Tryd.ntmps17
        go_wp2_with (go_at_call 26; refine (HV.out).mono ?_; rintro e w1 ⟨rfl, hx1⟩)
        refine bodyPost_ret (v := .bool true) (by simp [results, Tryd.results17, go_sem, h2]) rfl ?_
        exact ⟨rfl, hx1⟩
      · rw [decide_eq_false (show ¬ PsOk l g from fun h => h2 h.2.2)]
        clear hok
        go_enter Tryd.func17, Tryd.ntmps17
        go_wp2_with (go_at_call 26; refine (HV.out).mono ?_; rintro e w1 ⟨rfl, hx1⟩)
        refine bodyPost_ret (v := .bool false) (by simp [results, Tryd.results17, go_sem, h2]) rfl ?_
        exact ⟨rfl, hx1⟩
    · rw [decide_eq_false (show ¬ PsOk l g from fun h => h1 h.2.1)]
      clear hok
      go_enter Tryd.func17, Tryd.ntmps17
      go_wp2_with (go_at_call 26; refine (HV.out).mono ?_; rintro e w1 ⟨rfl, hx1⟩)
      go_ret
      exact ⟨rfl, hx1⟩
  · rw [decide_eq_false hok] at HV
    rw [decide_eq_false (show ¬ PsOk l g from fun h => hok h.1)]
    clear hok
    go_enter Tryd.func17, Tryd.ntmps17
    go_wp2_with (go_at_call 26; refine (HV.out).mono ?_; rintro e w1 ⟨rfl, hx1⟩)
    go_ret
    exact ⟨rfl, hx1⟩
/-- the reference's Count of a rectangle within -/
theorem cnt_snoc (l : List ByteArray) (g : Int) (x y a b : Nat) : cnt l g x y a b + rct l g (y + b) x a = cnt l g x y a (b + 1) := rfl
set_option maxRecDepth 100000 in
set_option maxHeartbeats 4000000 in
theorem rcount_any (A : Option Addr) (cap : Nat) (l : List ByteArray) (g : Int) (x y a b : Nat) (w : World) (hok : SkOk l) (h : TSl w A l) (hx : x + a ≤ wid l) (hy : y + b ≤ l.length) :
    Calls Tryd.prog 20 #[.slice A l.length cap, .int .i64 g, .agg #[.int .i64 (x : Int), .int .i64 (y : Int), .int .i64 (a : Int), .int .i64 (b : Int)]] w fun e w' => e = .returned (.int .i64 (cnt l g x y a b)) ∧ Below w.heap.size w w' := by
  have HX0 := Lib.hid (ext_alloc w (.cells #[.int .i64 (x : Int), .int .i64 (y : Int), .int .i64 (a : Int), .int .i64 (b : Int)] 31))
  have HR0 := Lib.hid (Bk.new 31 w #[.int .i64 (x : Int), .int .i64 (y : Int), .int .i64 (a : Int), .int .i64 (b : Int)])
  have HGR := Lib.hid (fun x y W (hW : Below w.heap.size w W) => rgrade_any A cap l x y W hok (h.ext hW))
  have hl48 := hok.2.1
  have hw48 := hok.2.2.2.1
  have hxa : x + a ≤ 48 := by omega
  have hyb : y + b ≤ 48 := by omega
  clear hok h hx hy hl48 hw48
  go_enter Tryd.func20, Tryd.ntmps20
  go_upto_region 1 with (fail)
  obtain ⟨V, hV⟩ : ∃ V, V = w.alloc (.cells #[.int .i64 (x : Int), .int .i64 (y : Int), .int .i64 (a : Int), .int .i64 (b : Int)] 31) := ⟨_, rfl⟩
  obtain ⟨p, hp⟩ : ∃ p, p = w.heap.size := ⟨_, rfl⟩
  rw [← hV] at HX0 HR0 ⊢
  rw [← hp] at HR0 ⊢
  have HP := Lib.hid hp
  clear hV hp
  obtain ⟨r1, r2, r3⟩ := HR0.out.facts
  go_wp2_with (fail)
  clear r1 r2 r3
  go_loopg [8, 7] b (fun gg i z wr => ∃ k : Nat, i = .int .i64 ((y + k : Nat) : Int) ∧ k ≤ b ∧ gg = b - k ∧ z = .int .i64 (cnt l g x y a k) ∧ Below w.heap.size w wr ∧ Bk 31 wr p #[.int .i64 (x : Int), .int .i64 (y : Int), .int .i64 (a : Int), .int .i64 (b : Int)])
  case atStart => exact ⟨0, by simp, by omega, by omega, rfl, HX0.out, HR0.out⟩
  case round =>
    obtain ⟨k, rfl, hk, hg, rfl, hb, hr⟩ := hrel
    have HG := Lib.hid hg
    have HB := Lib.hid hb
    have HR := Lib.hid hr
    have zb := cnt_bd l g x y (a := a) (by omega) k
    have HCS := Lib.hid (cnt_snoc l g x y a k)
    clear hg hb hr HX0 HR0
    obtain ⟨z, hz⟩ : ∃ z, z = cnt l g x y a k := ⟨_, rfl⟩
    rw [← hz] at zb HCS ⊢
    have HZ := Lib.hid hz
    obtain ⟨r1, r2, r3⟩ := HR.out.facts
    obtain ⟨m, hm⟩ : ∃ m, m = y + k := ⟨_, rfl⟩
    have HM := Lib.hid hm
    rw [← hm] at HCS ⊢
    by_cases hlt : k < b
    · have hmb : (m : Int) < (y : Int) + (b : Int) := by omega
      clear hz hm
      go_wp2_with (fail)
      have HLT := Lib.hid hlt
      clear r1 r2 r3
      go_loopg [9, 7] a (fun gg i v wr => ∃ j : Nat, i = .int .i64 ((x + j : Nat) : Int) ∧ j ≤ a ∧ gg = a - j ∧ v = .int .i64 (z + rct l g m x j) ∧ Below w.heap.size w wr ∧ Bk 31 wr p #[.int .i64 (x : Int), .int .i64 (y : Int), .int .i64 (a : Int), .int .i64 (b : Int)])
      case atStart => exact ⟨0, by simp, by omega, by omega, by rw [rct_zero]; simp, HB.out, HR.out⟩
      case round =>
        obtain ⟨j, rfl, hj, hg2, rfl, hb2, hr2⟩ := hrel
        have HG2 := Lib.hid hg2
        have HB2 := Lib.hid hb2
        have HR2 := Lib.hid hr2
        have zb2 := rct_bd l g m x j
        have HRS := Lib.hid (rct_succ l g m x j)
        clear hg2 hb2 hr2 HB HR
        obtain ⟨r1, r2, r3⟩ := HR2.out.facts
        obtain ⟨i, hi⟩ : ∃ i, i = x + j := ⟨_, rfl⟩
        have HI := Lib.hid hi
        rw [← hi] at HRS ⊢
        obtain ⟨v, hv⟩ : ∃ v, v = rct l g m x j := ⟨_, rfl⟩
        rw [← hv] at zb2 HRS ⊢
        have HV := Lib.hid hv
        by_cases hja : j < a
        · have hia : (i : Int) < (x : Int) + (a : Int) := by omega
          have HGC := Lib.hid (HGR.out (i : Int) (m : Int) wr HB2.out)
          clear hi hv
          cases hus : usb l g ((i : Int), (m : Int))
          · have HE := Lib.hid (show rct l g m x (j + 1) = v from by rw [HRS.out, hus]; simp)
            have hz0 : ¬ g ≤ gr l (i : Int) (m : Int) := by
              unfold usb at hus
              simpa only [decide_eq_false_iff_not] using hus
            obtain ⟨gv, hgv⟩ : ∃ gv, gv = gr l (i : Int) (m : Int) := ⟨_, rfl⟩
            rw [← hgv] at HGC hz0
            clear hus hgv
            go_wp2_with (go_at_call 53; refine (HGC.out).mono ?_; rintro e w9 ⟨rfl, rfl⟩)
            go_roundg (a - (j + 1))
            case measure => have := HG2.out; omega
            case rel => exact ⟨j + 1, by have := HI.out; go_num, by omega, rfl, by rw [HE.out], HB2.out, HR2.out⟩
          · have HE := Lib.hid (show rct l g m x (j + 1) = v + 1 from by rw [HRS.out, hus]; simp)
            have hz0 : g ≤ gr l (i : Int) (m : Int) := by
              unfold usb at hus
              simpa only [decide_eq_true_eq] using hus
            obtain ⟨gv, hgv⟩ : ∃ gv, gv = gr l (i : Int) (m : Int) := ⟨_, rfl⟩
            rw [← hgv] at HGC hz0
            clear hus hgv
            go_wp2_with (go_at_call 53; refine (HGC.out).mono ?_; rintro e w9 ⟨rfl, rfl⟩)
            go_roundg (a - (j + 1))
            case measure => have := HG2.out; omega
            case rel => exact ⟨j + 1, by have := HI.out; go_num, by omega, rfl, by rw [HE.out]; first | rfl | (congr 1; omega), HB2.out, HR2.out⟩
        · have hia : ¬ (i : Int) < (x : Int) + (a : Int) := by omega
          have HE := Lib.hid (show z + v = cnt l g x y a (k + 1) from by rw [← HCS.out, HV.out]; rw [show j = a by omega])
          clear hi hv
          go_wp2
          go_roundg (b - (k + 1))
          case measure => have := HG.out; have := HLT.out; omega
          case rel => exact ⟨k + 1, by have := HM.out; go_num, by have := HLT.out; omega, rfl, by rw [HE.out], HB2.out, HR2.out⟩
    · have hmb : ¬ (m : Int) < (y : Int) + (b : Int) := by omega
      have HE := Lib.hid (show z = cnt l g x y a b from by rw [HZ.out]; rw [show k = b by omega])
      clear hz hm
      go_wp2
      refine bodyPost_ret (v := .int .i64 z) (by simp [results, Tryd.results20, go_sem]) rfl ?_
      exact ⟨by rw [HE.out], HB.out⟩
end Go.Proofs.YtdkoomcgnaokgaaDoor
