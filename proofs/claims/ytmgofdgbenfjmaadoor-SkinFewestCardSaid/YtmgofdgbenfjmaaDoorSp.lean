/- split walked. Conditions: the plane in memory, without walls yet. -/
import Derived.Test.YtmgofdgbenfjmaaDoorSpR
import Derived.Test.YtmgofdgbenfjmaaDoorSpF
import Derived.Test.YtmgofdgbenfjmaaDoorOpn
import Derived.Test.YtmgofdgbenfjmaaDoorSt
import Derived.Test.YtmgofdgbenfjmaaDoorWa1
import Derived.Test.YtmgofdgbenfjmaaDoorAp
import Derived.Test.YtmgofdgbenfjmaaDoorCs1
import Derived.Test.YtmgofdgbenfjmaaDoorSo1
import Derived.Test.YtmgofdgbenfjmaaDoorFl2
namespace Go.Proofs.YtmgofdgbenfjmaaDoor
open Go.RowKit

/-- all blocks but three are as they were -/
structure But3 (g h k : Nat) (w w' : World) : Prop where
  os : w'.os = w.os
  tape : w'.tape = w.tape
  output : w'.output = w.output
  size : w.heap.size ≤ w'.heap.size
  block : ∀ i, i < w.heap.size → i ≠ g → i ≠ h → i ≠ k → w'.heap[i]? = w.heap[i]?
section
variable {g h k : Nat} {w w' w'' : World}
theorem But3.refl (g h k : Nat) (w : World) : But3 g h k w w := ⟨rfl, rfl, rfl, Nat.le_refl _, fun _ _ _ _ _ => rfl⟩
theorem But3.trans (a : But3 g h k w w') (b : But3 g h k w' w'') : But3 g h k w w'' :=
  ⟨b.os.trans a.os, b.tape.trans a.tape, b.output.trans a.output, Nat.le_trans a.size b.size, fun i hi h1 h2 h3 => (b.block i (Nat.lt_of_lt_of_le hi a.size) h1 h2 h3).trans (a.block i hi h1 h2 h3)⟩
theorem But3.of (a : Below w.heap.size w w') : But3 g h k w w' := ⟨a.os, a.tape, a.output, a.size, fun i hi _ _ _ => a.block i hi⟩
theorem But3.two (a : But2 g h w w') : But3 g h k w w' := ⟨a.os, a.tape, a.output, a.size, fun i hi h1 h2 _ => a.block i hi h1 h2⟩
theorem But3.one (a : But1 k w w') : But3 g h k w w' := ⟨a.os, a.tape, a.output, a.size, fun i hi _ _ h3 => a.block i hi h3⟩
theorem But3.cell (a : But3 g h k w w') {b i : Nat} {v : Value} (hc : w.cell? ⟨b, i, none⟩ = some v) (h1 : b ≠ g) (h2 : b ≠ h) (h3 : b ≠ k) : w'.cell? ⟨b, i, none⟩ = some v := by
  have e := a.block b (World.block_lt_of_cell? w ⟨b, i, none⟩ hc) h1 h2 h3
  rw [← hc]; unfold World.cell?; rw [e]
end
theorem stop_rg {f : Cel → Bool} {y t : Int} {x : Int} (hx : 0 ≤ x ∧ x ≤ 48) (ht : 0 ≤ t ∧ t ≤ 48) (hn : x ≠ t) : 0 ≤ stopX f x y t ∧ stopX f x y t ≤ 48 := by
  unfold stopX
  by_cases hlt : t < x
  · rw [if_pos hlt]
    obtain ⟨k1, k2, k3, k4⟩ := stL_ok (f := f) (y := y) (t := t) 60 (x - 1) (by omega) (by omega)
    omega
  · rw [if_neg hlt]
    obtain ⟨k1, k2, k3, k4⟩ := stR_ok (f := f) (y := y) (t := t) 60 (x + 1) (by omega) (by omega)
    omega
theorem chF_rg {u : Int → Int → Bool} {w h : Nat} (hs : ∀ x y, u x y = true → 0 ≤ x ∧ x < w ∧ 0 ≤ y ∧ y < h) (hw : w ≤ 48) {C : List Cel} (hR : ∀ c ∈ C, (0 ≤ c.1 ∧ c.1 ≤ 48) ∧ (0 ≤ c.2 ∧ c.2 ≤ 48)) {c : Chd} (hc : c ∈ chF u C) : (0 ≤ c.1.1 ∧ c.1.1 ≤ 48) ∧ (0 ≤ c.1.2 ∧ c.1.2 ≤ 48) ∧ (0 ≤ c.2.1 ∧ c.2.1 ≤ 48) ∧ (0 ≤ c.2.2 ∧ c.2.2 ≤ 48) := by
  unfold chF at hc
  obtain ⟨a, ha, e⟩ := List.mem_filterMap.1 hc
  split at e
  · injection e with e
    subst e
    have h1 := hR a ha
    have h2 := way_rg hs hw (x := a.1) (y := a.2) h1.1
    exact ⟨h1.1, h1.2, h2, h1.2⟩
  · cases e
theorem chS_rg {u : Int → Int → Bool} {w h : Nat} (hs : ∀ x y, u x y = true → 0 ≤ x ∧ x < w ∧ 0 ≤ y ∧ y < h) (hh : h ≤ 48) {C : List Cel} (hR : ∀ c ∈ C, (0 ≤ c.1 ∧ c.1 ≤ 48) ∧ (0 ≤ c.2 ∧ c.2 ≤ 48)) {c : Chd} (hc : c ∈ chS u C) : (0 ≤ c.1.1 ∧ c.1.1 ≤ 48) ∧ (0 ≤ c.1.2 ∧ c.1.2 ≤ 48) ∧ (0 ≤ c.2.1 ∧ c.2.1 ≤ 48) ∧ (0 ≤ c.2.2 ∧ c.2.2 ≤ 48) := by
  unfold chS at hc
  obtain ⟨a, ha, e⟩ := List.mem_filterMap.1 hc
  split at e
  · injection e with e
    subst e
    have h1 := hR a ha
    have h2 := way_rg (u := trU u) (w := h) (h := w) (fun x y k => by have := hs y x k; omega) hh (x := a.2) (y := a.1) h1.2
    exact ⟨h1.1, h1.2, h1.1, h2⟩
  · cases e
theorem But1.bel {g : Nat} {W w w' : World} (h : But1 g W w) (hb : Below W.heap.size w w') : But1 g W w' := ⟨hb.os.trans h.os, hb.tape.trans h.tape, hb.output.trans h.output, Nat.le_trans h.size hb.size, fun k hk hne => (hb.block k hk).trans (h.block k hk hne)⟩
theorem But1.set1 (w : World) (g j : Nat) (v : Value) : But1 g w (w.setCell ⟨g, j, none⟩ v) :=
  have hb := (Below.refl g w).setCell (p := ⟨g, j, none⟩) (Nat.le_refl _) v
  ⟨hb.os, hb.tape, hb.output, hb.size, fun _ _ h1 => Below.heap_setCell _ _ _ _ h1⟩
theorem Dv.rn {u : Int → Int → Bool} {l : List Bx} (hd : Dv u l) (hs : ∀ x y, u x y = true → 0 ≤ x ∧ 0 ≤ y) : (l.map bxR).Nodup := by
  have hc : ∀ b ∈ l, inB b b.x0 b.y0 = true := fun b hb => inB_iff.2 (by have := hd.ok b hb; omega)
  have hp := hd.pair (f := fun b => (b.x0, b.y0)) hc
  rw [List.Nodup, List.pairwise_map]
  refine hp.imp_of_mem fun {b c} hb hc' hne e => hne ?_
  have e1 : b.x0.toNat = c.x0.toNat := congrArg Rn.x e
  have e2 : b.y0.toNat = c.y0.toNat := congrArg Rn.y e
  have k1 := hs _ _ ((hd.cov _ _).2 ⟨b, hb, hc b hb⟩)
  have k2 := hs _ _ ((hd.cov _ _).2 ⟨c, hc', hc c hc'⟩)
  show (b.x0, b.y0) = (c.x0, c.y0)
  rw [show b.x0 = c.x0 by omega, show b.y0 = c.y0 by omega]
/-- what split answers -/
def RetSp (l : List ByteArray) (g : Int) (b1 b2 : Nat) (W : World) (e : Ending) (w' : World) : Prop :=
  ∃ A cap ms, e = .returned (.slice A ms.length cap) ∧ ms.length ≤ cap ∧ cap ≤ 9223372036854775807 ∧ ms.length ≤ 2304 ∧ RSl w' A ms ∧ ms.Pairwise rlt ∧ ms.length = (splB (us l g) (wid l) l.length 3000).length ∧ (∀ r, r ∈ ms ↔ r ∈ (splB (us l g) (wid l) l.length 3000).map bxR) ∧ But2 b1 b2 W w'
def bxv (b : Bx) : Array Value := #[.int .i64 b.x0, .int .i64 b.y0, .int .i64 b.x1, .int .i64 b.y1]
set_option maxRecDepth 100000 in
set_option maxHeartbeats 16000000 in
theorem split_any (b : Nat) (l : List ByteArray) (g : Int) (b1 b2 : Nat) (W : World) (h : PlQ W b l g b1 b2) (ha : Mf b1 (fun _ => false) W) (hb : Mf b2 (fun _ => false) W) (hg : 1 ≤ g) :
    Calls Tryd.prog 71 #[.pointer (some ⟨b, 0, none⟩)] W (RetSp l g b1 b2 W) := by
  have hw1 : wid l ≤ 48 := h.ok.2.2.2.1
  have hw2 : l.length ≤ 48 := h.ok.2.1
  have hmm := @run_makeMap Tryd.prog
  have hmf : ∀ (fn : Fn) (first cap : Array Value) (w : World), (Instr.makeFunc fn first cap).run Tryd.prog w = .ok (.func fn first cap) w := fun _ _ _ _ => rfl
  have HX := Lib.hid (ext_alloc W (.cells #[.pointer (some ⟨b, 0, none⟩)] 110))
  have HC := Lib.hid (Bk.new 110 W #[.pointer (some ⟨b, 0, none⟩)])
  have HP := Lib.hid (h.ext HX.out)
  have HA := Lib.hid (ha.ext HX.out)
  have HB := Lib.hid (hb.ext HX.out)
  have HBL0 := Lib.hid (show b1 < W.heap.size ∧ b2 < W.heap.size ∧ b1 ≠ b2 from ⟨ha.lt, hb.lt, h.ne.2.2⟩)
  have HSU := Lib.hid (show ∀ x y, us l g x y = true → 0 ≤ x ∧ x < wid l ∧ 0 ≤ y ∧ y < l.length from fun x y k => us_in h.ok hg k)
  clear h ha hb
  go_enter Tryd.func71, Tryd.ntmps71
  go_upto_region 2 with (fail)
  obtain ⟨X, hX⟩ : ∃ X, X = W.alloc (.cells #[.pointer (some ⟨b, 0, none⟩)] 110) := ⟨_, rfl⟩
  obtain ⟨p1, hp1⟩ : ∃ p1, p1 = W.heap.size := ⟨_, rfl⟩
  rw [← hX] at HX HC HP HA HB ⊢
  have HXW := HX
  rw [← hp1] at HC ⊢
  clear hX
  have HP1 := Lib.hid hp1
  clear hp1
  obtain ⟨f1, f2, f3⟩ := HC.out.facts
  have hh := HP.out.h_
  go_wp2_with (fail)
  clear f1 f2 f3 hh
  go_loopg [27, 3] (l.length + 1) (fun gg z v wr => ∃ y : Nat, z = .int .i64 y ∧ y ≤ l.length + 1 ∧ gg = l.length + 1 - y ∧ Vc X.heap.size wr v (cornK (us l g) (wid l + 1) ((wid l + 1) * y)) ∧ Below X.heap.size X wr)
  case atStart => exact ⟨0, rfl, by omega, by omega, by rw [Nat.mul_zero]; exact Vc.nil _ _, Below.refl _ _⟩
  case round =>
    obtain ⟨y, rfl, hy, hgg, hv, hbw⟩ := hrel
    have HG := Lib.hid hgg
    have HV := Lib.hid hv
    have HBW := Lib.hid hbw
    obtain ⟨f1, f2, f3⟩ := (HC.out.ext hbw).facts
    have hw := (HP.out.ext hbw).w_
    clear hgg hv hbw
    by_cases hlt : y < l.length + 1
    · have hlti : (y : Int) < (l.length : Int) + 1 := by omega
      go_upto_region 6 with (fail)
      clear f1 f2 f3 hw
      have hlen0 := cornK_len (us l g) (wid l + 1) ((wid l + 1) * y)
      go_loopg [35, 3] (wid l + 1) (fun gg z v wr => ∃ x : Nat, z = .int .i64 x ∧ x ≤ wid l + 1 ∧ gg = wid l + 1 - x ∧ Vc X.heap.size wr v (cornK (us l g) (wid l + 1) ((wid l + 1) * y + x)) ∧ Below X.heap.size X wr)
      case atStart => exact ⟨0, rfl, by omega, by omega, HV.out, HBW.out⟩
      case round =>
        obtain ⟨x, rfl, hx, hgg, hv, hbw⟩ := hrel
        have HG2 := Lib.hid hgg
        have HV2 := Lib.hid hv
        have HBW2 := Lib.hid hbw
        obtain ⟨A3, cap3, rfl, k1, k2, k3⟩ := hv.csl
        unfold maxLen at k2
        clear hgg hv HV k3
        by_cases hxl : x < wid l + 1
        · have hxli : (x : Int) < (wid l : Int) + 1 := by omega
          have hcl := cornK_len (us l g) (wid l + 1) ((wid l + 1) * y + x)
          have hyx : (wid l + 1) * y + x ≤ 3000 := by
            have : (wid l + 1) * y ≤ 49 * 48 := Nat.mul_le_mul (by omega) (by omega)
            omega
          have HCS := Lib.hid (cornK_succ (us l g) (wid l + 1) ((wid l + 1) * y + x))
          have HCA := Lib.hid (celK_at (w := wid l + 1) (y := y) hxl)
          have hx0 := ext_alloc wr (.cells #[.int .i64 (x : Int), .int .i64 (y : Int)] 71)
          have HN := Lib.hid (Bk.new 71 wr #[.int .i64 (x : Int), .int .i64 (y : Int)])
          have HC1 := Lib.hid ((HC.out.ext hbw).ext hx0)
          have HV1 := Lib.hid (show Vc X.heap.size _ _ _ from own_ext HV2.out hx0)
          have HB1 := Lib.hid (HBW2.out.trans (hx0.mono HBW2.out.size))
          have HQ := Lib.hid (con_any (x : Int) (y : Int) b l g (.map (some b1)) (.map (some b2)) _ (((HP.out.ext hbw).ext hx0).plw) ⟨by omega, by omega⟩ ⟨by omega, by omega⟩)
          clear hbw hx0 HV2
          go_upto_region 9 with (fail)
          obtain ⟨X1, hX1⟩ : ∃ X1, X1 = wr.alloc (.cells #[.int .i64 (x : Int), .int .i64 (y : Int)] 71) := ⟨_, rfl⟩
          rw [← hX1] at HN HC1 HV1 HB1 HQ ⊢
          clear hX1
          obtain ⟨f1, f2, f3⟩ := HC1.out.facts
          obtain ⟨g1, g2, g3⟩ := HN.out.facts
          cases hq : q3 (us l g) x y with
          | true =>
            rw [hq] at HQ
            have HE := Lib.hid (show cornK (us l g) (wid l + 1) ((wid l + 1) * y + x + 1) = cornK (us l g) (wid l + 1) ((wid l + 1) * y + x) ++ [((x : Int), (y : Int))] from by rw [HCS.out, HCA.out, if_pos hq])
            clear hq
            go_upto_region 10 with (go_at_call 105; refine (HQ.out).mono ?_; rintro e w5 ⟨rfl, hx5⟩)
            have HN5 := Lib.hid (HN.out.ext hx5)
            have HV5 := Lib.hid (show Vc X.heap.size _ _ _ from own_ext HV1.out hx5)
            have HB5 := Lib.hid (HB1.out.trans (hx5.mono HB1.out.size))
            clear f1 f2 f3 g1 g2 g3 hx5
            obtain ⟨g1, g2, g3⟩ := HN5.out.facts
            have hbase : X.heap.size ≤ w5.heap.size := HB5.out.size
            go_wp2_with (at_builtin; refine wpList_pushC _ rfl _ _ rfl X.heap.size HV5.out (by rfl) (by rfl) rfl (by omega) hbase ?_; intro v6 w6 hv6 hb6 hk6 hk7; have HV6 := Lib.hid hv6; have HB6 := Lib.hid (HB5.out.trans hb6); clear hv6 hb6 hk6 hk7)
            go_roundg (wid l + 1 - (x + 1))
            case measure => have := HG2.out; omega
            case rel => exact ⟨x + 1, by go_num, by omega, rfl, by rw [show (wid l + 1) * y + (x + 1) = (wid l + 1) * y + x + 1 by omega, HE.out]; exact HV6.out, HB6.out⟩
          | false =>
            rw [hq] at HQ
            have HE := Lib.hid (show cornK (us l g) (wid l + 1) ((wid l + 1) * y + x + 1) = cornK (us l g) (wid l + 1) ((wid l + 1) * y + x) from by rw [HCS.out, HCA.out, if_neg (by simp [hq]), List.append_nil])
            clear hq
            go_wp2_with (go_at_call 105; refine (HQ.out).mono ?_; rintro e w5 ⟨rfl, hx5⟩; have HX5 := Lib.hid hx5; clear hx5)
            go_roundg (wid l + 1 - (x + 1))
            case measure => have := HG2.out; omega
            case rel => exact ⟨x + 1, by go_num, by omega, rfl, by rw [show (wid l + 1) * y + (x + 1) = (wid l + 1) * y + x + 1 by omega, HE.out]; exact own_ext HV1.out HX5.out, HB1.out.trans (HX5.out.mono HB1.out.size)⟩
        · obtain rfl : x = wid l + 1 := by omega
          go_wp2
          go_roundg (l.length + 1 - (y + 1))
          case measure => have := HG.out; omega
          case rel => exact ⟨y + 1, by go_num, by omega, rfl, by rw [Nat.mul_succ]; exact HV2.out, HBW2.out⟩
    · obtain rfl : y = l.length + 1 := by omega
      obtain ⟨A3, cap3, hv3, kc1, kc2, kc3⟩ := HV.out.csl
      subst hv3
      have HCC := Lib.hid kc3
      unfold maxLen at kc2
      have HP2 := Lib.hid (HP.out.ext HBW.out)
      have HA2 := Lib.hid (HA.out.ext HBW.out)
      have HB2 := Lib.hid (HB.out.ext HBW.out)
      have HC2 := Lib.hid (HC.out.ext HBW.out)
      have HW2 := Lib.hid (ext_trans HX.out HBW.out)
      have hclen := cornK_len (us l g) (wid l + 1) ((wid l + 1) * (l.length + 1))
      have hcl3 : (wid l + 1) * (l.length + 1) ≤ 3000 := Nat.le_trans (Nat.mul_le_mul (show wid l + 1 ≤ 49 by omega) (show l.length + 1 ≤ 49 by omega)) (by decide)
      have HMC := Lib.hid (mem_cornK (w := wid l) (h := l.length) fun x y k => us_in HP.out.ok hg k)
      obtain ⟨C, hC⟩ : ∃ C, C = cornK (us l g) (wid l + 1) ((wid l + 1) * (l.length + 1)) := ⟨_, rfl⟩
      rw [← hC] at hclen kc1 HCC HMC ⊢
      have HCE := Lib.hid hC
      have HBW0 := Lib.hid HBW.out
      have HMC2 := Lib.hid (show ∀ c ∈ C, (0 ≤ c.1 ∧ c.1 ≤ 48) ∧ (0 ≤ c.2 ∧ c.2 ≤ 48) from fun c hc => by
        have := q3_in (w := wid l) (h := l.length) (fun x y k => us_in HP.out.ok hg k) ((HMC.out c).1 hc)
        omega)
      have HMC := HMC2
      clear hC kc3 HV HBW HG hlt hy HA HB HX hw HMC2
      have HE7 := Lib.hid (Mf.new wr)
      have HX7 := Lib.hid (ext_alloc wr (.map #[] 0))
      go_upto_region 14 with (fail)
      obtain ⟨Y, hY⟩ : ∃ Y, Y = wr.alloc (.map #[] 0) := ⟨_, rfl⟩
      obtain ⟨b7, hb7⟩ : ∃ b7, b7 = wr.heap.size := ⟨_, rfl⟩
      have HB7 := Lib.hid (show X.heap.size ≤ b7 from by have := HBW0.out.size; omega)
      rw [← hY] at HE7 HX7 ⊢
      rw [← hb7] at HE7 ⊢
      have HP3 := Lib.hid (HP2.out.ext HX7.out)
      have HA3 := Lib.hid (HA2.out.ext HX7.out)
      have HB3 := Lib.hid (HB2.out.ext HX7.out)
      have HC3 := Lib.hid (HC2.out.ext HX7.out)
      have HCY := Lib.hid (show CSl X.heap.size Y A3 C from HCC.out.keep HX7.out.size fun g off _ _ hg => HX7.out.block g hg)
      have HCB := Lib.hid (show C = [] ∨ ∃ g off, A3 = some ⟨g, off, none⟩ ∧ X.heap.size ≤ g ∧ g < b7 from by
        rcases HCC.out with h | ⟨g, off, h1, h2, h3, _⟩
        · exact .inl h
        · exact .inr ⟨g, off, h1, h2, by omega⟩)
      have HXY := Lib.hid (show Below X.heap.size X Y from HBW0.out.trans (HX7.out.mono HBW0.out.size))
      have hw7 : b7 < Y.heap.size := HE7.out.lt
      clear hY hb7 HP2 HA2 HB2 HC2 HCC HX7
      obtain ⟨f1, f2, f3⟩ := HC3.out.facts
      have HCH := Lib.hid (chords_any b l g (.map (some b1)) (.map (some b2)) Y HP3.out.plw hg A3 cap3 C (HCY.out.mono (Nat.zero_le _)) kc1 (by omega) (by omega) (fun c hc => by have := HMC.out c hc; omega))
      obtain ⟨F, hF⟩ : ∃ F, F = chF (us l g) C := ⟨_, rfl⟩
      obtain ⟨S, hS⟩ : ∃ S, S = chS (us l g) C := ⟨_, rfl⟩
      have hFl : F.length ≤ 3000 := by rw [hF]; exact Nat.le_trans (chF_len _ _) (by omega)
      have hSl : S.length ≤ 3000 := by rw [hS]; exact Nat.le_trans (chS_len _ _) (by omega)
      rw [← hF, ← hS] at HCH
      have HFE := Lib.hid hF
      have HSE := Lib.hid hS
      clear hF hS
      have HAP := Lib.hid (fun A1 A2 c1 c2 V (h1 : HSl 0 V A1 F) (h2 : HSl 0 V A2 S) => apart_any F S A1 A2 c1 c2 V h1 h2 (by omega) (by omega))
      obtain ⟨L, hL⟩ : ∃ L, L = takF F S ++ takS F S := ⟨_, rfl⟩
      rw [← hL] at HAP
      have HLE := Lib.hid hL
      clear hL
      go_upto_region 15 with (first
        | (go_at_call 107; refine (HCH.out).mono ?_; rintro e w5 ⟨A1, c1, A2, c2, rfl, _, _, _, _, hh1, hh2, hx5⟩; have HH1 := Lib.hid (hh1.mono (Nat.zero_le _)); have HH2 := Lib.hid (hh2.mono (Nat.zero_le _)); have HX5 := Lib.hid hx5; clear hh1 hh2 hx5)
        | (go_at_call 106; refine (HAP.out _ _ _ _ _ HH1.out HH2.out).mono ?_; rintro e w6 ⟨A5, c5, rfl, hk1, hk2, hh5, hx6⟩; have HH5 := Lib.hid (hh5.mono HX5.out.size); have HX6 := Lib.hid (ext_trans HX5.out hx6); clear hh5 hx6))
      have HCS := Lib.hid (show CSl X.heap.size w6 A3 C from HCY.out.keep HX6.out.size fun g off _ _ hg => HX6.out.block g hg)
      have HP6 := Lib.hid (HP3.out.ext HX6.out)
      have HA6 := Lib.hid (HA3.out.ext HX6.out)
      have HB6 := Lib.hid (HB3.out.ext HX6.out)
      have HE6 := Lib.hid (HE7.out.ext HX6.out)
      have HX2 := Lib.hid (show But2 b1 b2 X w6 from ⟨HX6.out.os.trans HXY.out.os, HX6.out.tape.trans HXY.out.tape, HX6.out.output.trans HXY.out.output, Nat.le_trans HXY.out.size HX6.out.size, fun k hk _ _ => (HX6.out.block k (Nat.lt_of_lt_of_le hk HXY.out.size)).trans (HXY.out.block k hk)⟩)
      have HYL := Lib.hid (show b7 < Y.heap.size ∧ X.heap.size ≤ Y.heap.size from ⟨hw7, HXY.out.size⟩)
      have HBL := Lib.hid (show b1 < X.heap.size ∧ b2 < X.heap.size ∧ p1 < X.heap.size ∧ p1 ≠ b1 ∧ p1 ≠ b2 ∧ b1 ≠ b2 from by
        have h1 := HBL0.out
        have h2 := HP1.out
        have h3 := HC.out.lt
        omega)
      have HLL := Lib.hid (show ∀ c ∈ L, ((0 ≤ c.1.1 ∧ c.1.1 ≤ 48) ∧ (0 ≤ c.1.2 ∧ c.1.2 ≤ 48) ∧ (0 ≤ c.2.1 ∧ c.2.1 ≤ 48) ∧ (0 ≤ c.2.2 ∧ c.2.2 ≤ 48)) from fun c hc => by
        rw [HLE.out] at hc
        rcases List.mem_append.1 hc with hc | hc
        · have hc := (sub_pk _ F 0).subset hc
          rw [HFE.out] at hc
          exact chF_rg HSU.out hw1 HMC.out hc
        · have hc := (sub_pk _ S 0).subset hc
          rw [HSE.out] at hc
          exact chS_rg HSU.out hw2 HMC.out hc)
      have hLl : L.length ≤ 6000 := by
        rw [HLE.out, List.length_append]
        have h1 : (takF F S).length ≤ F.length := (sub_pk _ F 0).length_le
        have h2 : (takS F S).length ≤ S.length := (sub_pk _ S 0).length_le
        omega
      clear f1 f2 f3 HCH HAP HH1 HH2 HX5 HP3 HA3 HB3 HC3 HCY HXY HE7 hw7 hFl hSl HX6
      go_loopg [58] L.length (fun gg z wr => ∃ k : Nat, z = .int .i64 k ∧ k ≤ L.length ∧ gg = L.length - k ∧ Mf b1 (walH (L.take k)) wr ∧ Mf b2 (walV (L.take k)) wr ∧ Mf b7 (endD (L.take k)) wr ∧ But2 b1 b2 X wr ∧ But3 b1 b2 b7 w6 wr)
      case atStart => exact ⟨0, rfl, by omega, by omega, HA6.out.congr fun c => by simp [walH], HB6.out.congr fun c => by simp [walV], HE6.out.congr fun c => by simp [endD], HX2.out, But3.refl _ _ _ _⟩
      case round =>
        obtain ⟨k, rfl, hk, hgg, hA, hB, hE, hx2, hx3⟩ := hrel
        have HG := Lib.hid hgg
        have HA := Lib.hid hA
        have HB := Lib.hid hB
        have HE := Lib.hid hE
        have H2 := Lib.hid hx2
        have H3 := Lib.hid hx3
        clear hgg hA hB hE hx2 hx3 HA6 HB6 HE6 HX2
        by_cases hlt : k < L.length
        · rcases HH5.out with h0 | ⟨g5, off, rfl, hg5, hgs, hcl⟩
          · rw [h0] at hlt; simp at hlt
          · obtain ⟨c1', c2', c3', c4'⟩ := hcl k hlt
            have HNE := Lib.hid (show (g5 ≠ b1 ∧ g5 ≠ b2 ∧ g5 ≠ b7) ∧ (b7 ≠ b1 ∧ b7 ≠ b2) from by
              have h1 := HYL.out
              have h2 := HBL.out
              have h3 := HB7.out
              omega)
            have c1' := H3.out.cell c1' HNE.out.1.1 HNE.out.1.2.1 HNE.out.1.2.2
            have c2' := H3.out.cell c2' HNE.out.1.1 HNE.out.1.2.1 HNE.out.1.2.2
            have c3' := H3.out.cell c3' HNE.out.1.1 HNE.out.1.2.1 HNE.out.1.2.2
            have c4' := H3.out.cell c4' HNE.out.1.1 HNE.out.1.2.1 HNE.out.1.2.2
            have HR := Lib.hid (HLL.out _ (List.getElem_mem hlt))
            have HTA := Lib.hid (fun f => any_take f L hlt)
            obtain ⟨cc, hcc⟩ : ∃ cc, cc = L[k] := ⟨_, rfl⟩
            rw [← hcc] at c1' c2' c3' c4' HR HTA
            obtain ⟨⟨x0, y0⟩, x1, y1⟩ := cc
            dsimp only at c1' c2' c3' c4'
            have hx0 := ext_alloc wr (.cells #[.int .i64 x0, .int .i64 y0, .int .i64 x1, .int .i64 y1] 156)
            have HN := Lib.hid (Bk.new 156 wr #[.int .i64 x0, .int .i64 y0, .int .i64 x1, .int .i64 y1])
            have H21 := Lib.hid (H2.out.trans (But2.of hx0))
            have H31 := Lib.hid (H3.out.trans (But3.of hx0))
            have HA1 := Lib.hid (HA.out.ext hx0)
            have HB1 := Lib.hid (HB.out.ext hx0)
            have HE1 := Lib.hid (HE.out.ext hx0)
            clear hcl hcc hx0 H2 H3 HH5
            go_upto_region 17 with (fail)
            obtain ⟨X9, hX9⟩ : ∃ X9, X9 = wr.alloc (.cells #[.int .i64 x0, .int .i64 y0, .int .i64 x1, .int .i64 y1] 156) := ⟨_, rfl⟩
            rw [← hX9] at HN H21 H31 HA1 HB1 HE1 ⊢
            obtain ⟨p9, hp9⟩ : ∃ p9, p9 = wr.heap.size := ⟨_, rfl⟩
            rw [← hp9] at HN ⊢
            have hp9b : p9 ≠ b1 ∧ p9 ≠ b2 := by
              have h1 := HA.out.lt
              have h2 := HB.out.lt
              omega
            have hp9c : p9 ≠ b7 := by
              have h1 := HE.out.lt
              omega
            clear hX9 hp9 c1' c2' c3' c4' HA HB HE
            obtain ⟨f1, f2, f3⟩ := (show Bk 110 X9 p1 #[.pointer (some ⟨b, 0, none⟩)] from H21.out.bk HC.out HBL.out.2.2.2.1 HBL.out.2.2.2.2.1).facts
            obtain ⟨g1, g2, g3⟩ := HN.out.facts
            have HCT := Lib.hid (cut_any b l g b1 b2 (walH (L.take k)) (walV (L.take k)) x0 y0 x1 y1 X9 (HP.out.but H21.out) HA1.out HB1.out HR.out.1 HR.out.2.2.1 HR.out.2.1 HR.out.2.2.2)
            go_upto_region 18 with (go_at_call 108; refine (HCT.out).mono ?_; rintro e w5 ⟨rfl, hp5, ha5, hb5, hx5⟩)
            have HP5 := Lib.hid hp5
            have HA5 := Lib.hid (ha5.congr (g := walH (L.take (k + 1))) fun d => by unfold walH; rw [HTA.out])
            have HB5 := Lib.hid (hb5.congr (g := walV (L.take (k + 1))) fun d => by unfold walV; rw [HTA.out])
            have HE5 := Lib.hid (HE1.out.keep (hx5.block b7 HE1.out.lt HNE.out.2.1 HNE.out.2.2))
            have H25 := Lib.hid (H21.out.trans hx5)
            have H35 := Lib.hid (H31.out.trans (But3.two hx5))
            have HN5 := Lib.hid (hx5.bk HN.out hp9b.1 hp9b.2)
            clear hp5 ha5 hb5 hx5 f1 f2 f3 g1 g2 g3 HCT HA1 HB1 HE1 H21 H31 HN
            obtain ⟨g1, g2, g3⟩ := HN5.out.facts
            have hR := HR.out
            have hI0 : IsC (x0, y0) := ⟨⟨by dsimp only at *; omega, by dsimp only at *; omega⟩, ⟨by dsimp only at *; omega, by dsimp only at *; omega⟩⟩
            have hI1 : IsC (x1, y1) := ⟨⟨by dsimp only at *; omega, by dsimp only at *; omega⟩, ⟨by dsimp only at *; omega, by dsimp only at *; omega⟩⟩
            clear hR
            have HP6 := Lib.hid (HP5.out.ext (ext_drew w5))
            have HA6 := Lib.hid (HA5.out.ext (ext_drew w5))
            have HB6 := Lib.hid (HB5.out.ext (ext_drew w5))
            have HE6 := Lib.hid (HE5.out.ext (ext_drew w5))
            have H26 := Lib.hid (H25.out.trans (But2.of (ext_drew w5)))
            have H36 := Lib.hid (H35.out.trans (But3.of (ext_drew w5)))
            have HN6 := Lib.hid (HN5.out.ext (ext_drew w5))
            obtain ⟨Z1, hr1, he1, hz1⟩ := HE6.out.store (c := (x0, y0)) hI0
            obtain ⟨Z2, hr2, he2, hz2⟩ := he1.store (c := (x1, y1)) hI1
            have hr1' : (Instr.mapUpdate 73 (.map (some b7)) (.agg #[.int .i64 x0, .int .i64 y0]) (.bool true)).run Tryd.prog w5.drew = .ok () Z1 := hr1
            have hr2' : (Instr.mapUpdate 73 (.map (some b7)) (.agg #[.int .i64 x1, .int .i64 y1]) (.bool true)).run Tryd.prog Z1 = .ok () Z2 := hr2
            have HE7 := Lib.hid (he2.congr (g := endD (L.take (k + 1))) fun d => by unfold endD; rw [HTA.out, Bool.or_assoc])
            have HZ1 := Lib.hid hz1
            have HZ2 := Lib.hid hz2
            have HN7 := Lib.hid (hz1.bk HN6.out hp9c)
            have HA7 := Lib.hid ((HA6.out.keep (hz1.block b1 HA6.out.lt (Ne.symm HNE.out.2.1))).keep (hz2.block b1 (by have h1 := HA6.out.lt; have h2 := hz1.size; omega) (Ne.symm HNE.out.2.1)))
            have HB7' := Lib.hid ((HB6.out.keep (hz1.block b2 HB6.out.lt (Ne.symm HNE.out.2.2))).keep (hz2.block b2 (by have h1 := HB6.out.lt; have h2 := hz1.size; omega) (Ne.symm HNE.out.2.2)))
            clear hr1 hr2 he1 he2 hz1 hz2 hI0 hI1 HE6 HA6 HB6 HP6 HP5 HA5 HB5 HE5 H25 H35 g1 g2 g3
            refine wp_region_T (S := fun wx => Bk 156 wx p9 #[.int .i64 x0, .int .i64 y0, .int .i64 x1, .int .i64 y1]) 7 (by kernel_rfl) (HN6.out) (fun hHeld => ?_)
            refine wpAnyT_take (i := 0) (v := ?v1) [] rfl (by kernel_rfl) (fun _ _ _ h => h) (Or.inl ⟨by rfl, ?hy1⟩) hHeld ?rst1
            case hy1 => (intro wx hSw; have q1 := Bk.cell hSw; go_simp; try (with_reducible rfl))
            try simp only [List.getElem_toArray, List.getElem_cons_zero, Act.put, List.setIfInBounds_toArray, List.set_cons_zero, List.set_cons_succ]
            refine wpAnyT_take (i := 1) (v := ?v2) [] rfl (by kernel_rfl) (fun _ _ _ h => h) (Or.inl ⟨by rfl, ?hy2⟩) hHeld ?rst2
            case hy2 => (intro wx hSw; have q1 := Bk.cell hSw; go_simp; try (with_reducible rfl))
            try simp only [List.getElem_toArray, List.getElem_cons_zero, List.getElem_cons_succ, Act.put, List.setIfInBounds_toArray, List.set_cons_zero, List.set_cons_succ]
            refine wpAnyT_take (i := 2) (v := ?v3) [] rfl (by kernel_rfl) (fun _ _ _ h => h) (Or.inl ⟨by rfl, ?hy3⟩) hHeld ?rst3
            case hy3 => (intro wx hSw; have q1 := Bk.cell hSw; go_simp; try (with_reducible rfl))
            try simp only [List.getElem_toArray, List.getElem_cons_zero, List.getElem_cons_succ, Act.put, List.setIfInBounds_toArray, List.set_cons_zero, List.set_cons_succ]
            refine wpAnyT_take (i := 3) (v := ?v4) [] rfl (by kernel_rfl) (fun _ _ _ h => h) (Or.inl ⟨by rfl, ?hy4⟩) hHeld ?rst4
            case hy4 => (intro wx hSw; have q1 := Bk.cell hSw; go_simp; try (with_reducible rfl))
            try simp only [List.getElem_toArray, List.getElem_cons_zero, List.getElem_cons_succ, Act.put, List.setIfInBounds_toArray, List.set_cons_zero, List.set_cons_succ]
            refine wpAnyT_take (i := 4) (v := ?v5) [] rfl (by kernel_rfl) (fun _ _ _ h => h) (Or.inl ⟨by rfl, ?hy5⟩) hHeld ?rst5
            case hy5 => (intro wx hSw; have q1 := Bk.cell hSw; go_simp; try (with_reducible rfl))
            try simp only [List.getElem_toArray, List.getElem_cons_zero, List.getElem_cons_succ, Act.put, List.setIfInBounds_toArray, List.set_cons_zero, List.set_cons_succ]
            refine wpAnyT_take (i := 5) (v := ?v6) [] rfl (by kernel_rfl) (fun _ _ _ h => h) (Or.inl ⟨by rfl, ?hy6⟩) hHeld ?rst6
            case hy6 => (intro wx hSw; have q1 := Bk.cell hSw; go_simp; try (with_reducible rfl))
            try simp only [List.getElem_toArray, List.getElem_cons_zero, List.getElem_cons_succ, Act.put, List.setIfInBounds_toArray, List.set_cons_zero, List.set_cons_succ]
            refine wpAnyT_one (i := 6) (by kernel_rfl) rfl (fun K hK => ?_)
            go_simp
            refine hK.out _ _ (HN7.out) (fun hHeld => ?_)
            clear hK K
            try simp only [List.getElem_toArray, List.getElem_cons_zero, List.getElem_cons_succ, Act.put, List.setIfInBounds_toArray, List.set_cons_zero, List.set_cons_succ]
            refine wpAnyT_last (by kernel_rfl) (by kernel_rfl) rfl (fun K hK => ?_)
            go_simp
            refine hK.out _ _ ?_
            clear hK K
            go_wp2
            go_roundg (L.length - (k + 1))
            case measure => have := HG.out; omega
            case rel => exact ⟨k + 1, by go_num, by omega, rfl, HA7.out, HB7'.out, HE7.out, (H26.out.below2 HZ1.out HB7.out).below2 HZ2.out HB7.out, (H36.out.trans (But3.one HZ1.out)).trans (But3.one HZ2.out)⟩
        · obtain rfl : k = L.length := by omega
          rw [List.take_length] at HA HB HE
          clear HG hlt hk HLL hLl HH5
          go_upto_region 21 with (fail)
          obtain ⟨V3, hV3⟩ : ∃ V3, V3 = wr := ⟨_, rfl⟩
          rw [← hV3] at HA HB HE H2 H3 ⊢
          clear hV3
          have HWQ := Lib.hid (fun V (hV : PlQ V b l g b1 b2) x y hx hy => ways_any x y b l g (.map (some b1)) (.map (some b2)) V hV.plw hg hx hy)
          have HRT := Lib.hid (fun x y (hx : 0 ≤ x ∧ x ≤ 48) => way_rg (u := us l g) (w := wid l) (h := l.length) HSU.out hw1 (y := y) hx)
          have HWY := Lib.hid (fun c (hc : c ∈ C) => (show c.1 ≠ wayT (us l g) c.1 c.2 from by
            rw [HCE.out] at hc
            have hq := (mem_cornK HSU.out c).1 hc
            have hr := q3_in HSU.out hq
            rcases way_ok HSU.out hw1 (x := c.1) (y := c.2) (by omega) hq with ⟨_, k, _⟩ | ⟨_, k, _⟩
            · dsimp only at k; omega
            · dsimp only at k; omega))
          obtain ⟨rr, hrr⟩ : ∃ rr : Cel → Int, rr = fun c => stopX (walV L) c.1 c.2 (wayT (us l g) c.1 c.2) := ⟨_, rfl⟩
          have HRR := Lib.hid hrr
          clear hrr
          go_loopg [74] C.length (fun gg z wr => ∃ k : Nat, z = .int .i64 k ∧ k ≤ C.length ∧ gg = C.length - k ∧ Mf b1 (fun d => walH L d || rayK (endD L) rr (C.take k) d) wr ∧ Mf b2 (walV L) wr ∧ But2 b1 b2 V3 wr)
          case atStart => exact ⟨0, rfl, by omega, by omega, HA.out.congr fun d => by simp [rayK], HB.out, But2.refl _ _ _⟩
          case round =>
            obtain ⟨k, rfl, hk, hgg, hA, hB, hv3⟩ := hrel
            have HG := Lib.hid hgg
            have HAK := Lib.hid hA
            have HBK := Lib.hid hB
            have HV3 := Lib.hid hv3
            have H2K := Lib.hid (H2.out.trans hv3)
            have HEK := Lib.hid (HE.out.keep (hv3.block b7 HE.out.lt (by have h1 := HBL.out; have h2 := HB7.out; omega) (by have h1 := HBL.out; have h2 := HB7.out; omega)))
            clear hgg hA hB hv3
            by_cases hlt : k < C.length
            · rcases HCS.out with h0 | ⟨g3, off, rfl, hg3, hgs, hcl⟩
              · rw [h0] at hlt; simp at hlt
              · have hg7 : g3 ≠ b1 ∧ g3 ≠ b2 ∧ g3 ≠ b7 := by
                  rcases HCB.out with h0 | ⟨g', off', e, h1, h2⟩
                  · rw [h0] at hlt; simp at hlt
                  · injection e with e
                    injection e with e1 e2
                    have h3 := HBL.out
                    omega
                obtain ⟨c1', c2'⟩ := hcl k hlt
                have c1' := HV3.out.cell (H3.out.cell c1' hg7.1 hg7.2.1 hg7.2.2) hg7.1 hg7.2.1
                have c2' := HV3.out.cell (H3.out.cell c2' hg7.1 hg7.2.1 hg7.2.2) hg7.1 hg7.2.1
                have HR := Lib.hid (HMC.out _ (List.getElem_mem hlt))
                have HWN := Lib.hid (HWY.out _ (List.getElem_mem hlt))
                have HTA := Lib.hid (fun f => any_take f C hlt)
                obtain ⟨cc, hcc⟩ : ∃ cc, cc = C[k] := ⟨_, rfl⟩
                rw [← hcc] at c1' c2' HR HTA HWN
                obtain ⟨x, y⟩ := cc
                dsimp only at c1' c2' HWN
                have hx0 := ext_alloc wr (.cells #[.int .i64 x, .int .i64 y] 71)
                have HN := Lib.hid (Bk.new 71 wr #[.int .i64 x, .int .i64 y])
                have HA1 := Lib.hid (HAK.out.ext hx0)
                have HB1 := Lib.hid (HBK.out.ext hx0)
                have HE1 := Lib.hid (HEK.out.ext hx0)
                have HV1 := Lib.hid (HV3.out.trans (But2.of hx0))
                have H21 := Lib.hid (H2K.out.trans (But2.of hx0))
                clear hcl hcc hx0 HAK HBK HEK HV3 H2K hg7
                go_upto_region 23 with (fail)
                obtain ⟨X9, hX9⟩ : ∃ X9, X9 = wr.alloc (.cells #[.int .i64 x, .int .i64 y] 71) := ⟨_, rfl⟩
                rw [← hX9] at HN HA1 HB1 HE1 HV1 H21 ⊢
                clear hX9 c1' c2'
                obtain ⟨g1, g2, gl⟩ := HN.out.facts
                have hR := HR.out
                obtain ⟨⟨hx1, hx2⟩, hy1, hy2⟩ : (0 ≤ x ∧ x ≤ 48) ∧ (0 ≤ y ∧ y ≤ 48) := hR
                have hI0 : IsC (x, y) := ⟨⟨by dsimp only; omega, by dsimp only; omega⟩, ⟨by dsimp only; omega, by dsimp only; omega⟩⟩
                obtain ⟨v, hv⟩ : ∃ v, v = endD L (x, y) := ⟨_, rfl⟩
                have hlk : (Instr.lookup 73 (.map (some b7)) (.agg #[.int .i64 x, .int .i64 y]) false).run Tryd.prog X9 = .ok (.bool v) X9 := by rw [hv]; exact HE1.out.look hI0
                clear hI0
                cases v with
                | true =>
                  have HAE := Lib.hid (HA1.out.congr (g := fun d => walH L d || rayK (endD L) rr (C.take (k + 1)) d) fun d => by unfold rayK; rw [HTA.out, ← hv]; simp)
                  clear hv
                  go_wp2
                  go_roundg (C.length - (k + 1))
                  case measure => have := HG.out; omega
                  case rel => exact ⟨k + 1, by go_num, by omega, rfl, HAE.out, HB1.out, HV1.out⟩
                | false =>
                  have HVF := Lib.hid hv
                  clear hv
                  have HP9 := Lib.hid (HP.out.but H21.out)
                  have HC9 := Lib.hid (show Bk 110 X9 p1 #[.pointer (some ⟨b, 0, none⟩)] from H21.out.bk HC.out HBL.out.2.2.2.1 HBL.out.2.2.2.2.1)
                  obtain ⟨f1, f2, f3⟩ := HC9.out.facts
                  have HW9 := Lib.hid (HWQ.out X9 HP9.out x y ⟨hx1, hx2⟩ ⟨hy1, hy2⟩)
                  obtain ⟨t, ht⟩ : ∃ t, t = wayT (us l g) x y := ⟨_, rfl⟩
                  obtain ⟨s, hs⟩ : ∃ s, s = wayS (us l g) x y := ⟨_, rfl⟩
                  rw [← ht, ← hs] at HW9
                  rw [← ht] at HWN
                  obtain ⟨ht1, ht2⟩ : 0 ≤ t ∧ t ≤ 48 := by rw [ht]; exact HRT.out x y ⟨hx1, hx2⟩
                  have HTT := Lib.hid ht
                  clear ht hs
                  go_upto_region 25 with (go_at_call 109; refine (HW9.out).mono ?_; rintro e w5 ⟨rfl, hx5⟩)
                  have HN12 := Lib.hid ((Bk.new 156 w5 #[.int .i64 x, .int .i64 y, .int .i64 t, .int .i64 y]).alloc (.cells #[.int .i64 x, .int .i64 y, .int .i64 x, .int .i64 s] 156))
                  have hx6 := ext_trans hx5 (ext_trans (ext_alloc w5 (.cells #[.int .i64 x, .int .i64 y, .int .i64 t, .int .i64 y] 156)) (ext_alloc _ (.cells #[.int .i64 x, .int .i64 y, .int .i64 x, .int .i64 s] 156)))
                  obtain ⟨Z5, hZ5⟩ : ∃ Z5, Z5 = (w5.alloc (.cells #[.int .i64 x, .int .i64 y, .int .i64 t, .int .i64 y] 156)).alloc (.cells #[.int .i64 x, .int .i64 y, .int .i64 x, .int .i64 s] 156) := ⟨_, rfl⟩
                  obtain ⟨p12, hp12⟩ : ∃ p12, p12 = w5.heap.size := ⟨_, rfl⟩
                  rw [← hZ5] at HN12 hx6 ⊢
                  rw [← hp12] at HN12 ⊢
                  have hxd := ext_trans hx6 (ext_drew Z5)
                  have HPD := Lib.hid (HP9.out.ext hxd)
                  have HAD := Lib.hid (HA1.out.ext hxd)
                  have HBD := Lib.hid (HB1.out.ext hxd)
                  have HED := Lib.hid (HE1.out.ext hxd)
                  have HVD := Lib.hid (HV1.out.trans (But2.of hxd))
                  have HS25 := Lib.hid (show Z5.drew.cell? ⟨p1, 0, none⟩ = some (.pointer (some ⟨b, 0, none⟩)) ∧ Bk 156 Z5.drew p12 #[.int .i64 x, .int .i64 y, .int .i64 t, .int .i64 y] from ⟨(HC9.out.ext hxd).cell 0, HN12.out.ext (ext_drew Z5)⟩)
                  have HST := Lib.hid (stop_any b l g b1 b2 (walV L) x y t Z5.drew HPD.out HBD.out ⟨hx1, hx2⟩ ⟨hy1, hy2⟩ ⟨ht1, ht2⟩ HWN.out)
                  have HSR := Lib.hid (show 0 ≤ stopX (walV L) x y t ∧ stopX (walV L) x y t ≤ 48 from stop_rg ⟨hx1, hx2⟩ ⟨ht1, ht2⟩ HWN.out)
                  obtain ⟨q, hq⟩ : ∃ q, q = stopX (walV L) x y t := ⟨_, rfl⟩
                  rw [← hq] at HST HSR
                  have HQE := Lib.hid (show rr (x, y) = q from by rw [HRR.out, hq, HTT.out])
                  have HCT := Lib.hid (fun V (hV : Below Z5.drew.heap.size Z5.drew V) => cut_any b l g b1 b2 (fun d => walH L d || rayK (endD L) rr (C.take k) d) (walV L) x y q y V (HPD.out.ext hV) (HAD.out.ext hV) (HBD.out.ext hV) ⟨hx1, hx2⟩ HSR.out ⟨hy1, hy2⟩ ⟨hy1, hy2⟩)
                  clear hZ5 hp12 hx5 hx6 hxd hq f1 f2 f3 g1 g2 gl hlk HN12 HW9 HPD HAD HBD HP9 HA1 HB1 HE1 HV1 HC9 HN H21
                  refine wp_region_T (S := fun wx => wx.cell? ⟨p1, 0, none⟩ = some (.pointer (some ⟨b, 0, none⟩)) ∧ Bk 156 wx p12 #[.int .i64 x, .int .i64 y, .int .i64 t, .int .i64 y]) 4 (by kernel_rfl) (HS25.out) (fun hHeld => ?_)
                  refine wpAnyT_take (i := 0) (v := ?v7) [] rfl (by kernel_rfl) (fun _ _ _ h => h) (Or.inl ⟨by rfl, ?hy7⟩) hHeld ?rst7
                  case hy7 => (intro wx hSw; obtain ⟨q1, q2⟩ := hSw; have q3 := Bk.cell q2; go_simp; try (with_reducible rfl))
                  try simp only [List.getElem_toArray, List.getElem_cons_zero, Act.put, List.setIfInBounds_toArray, List.set_cons_zero, List.set_cons_succ]
                  refine wpAnyT_take (i := 1) (v := ?v8) [3] rfl (by kernel_rfl) (fun _ _ _ h => h) (Or.inl ⟨by rfl, ?hy8⟩) hHeld ?rst8
                  case hy8 => (intro wx hSw; obtain ⟨q1, q2⟩ := hSw; have q3 := Bk.cell q2; go_simp; try (with_reducible rfl))
                  try simp only [List.getElem_toArray, List.getElem_cons_zero, List.getElem_cons_succ, Act.put, List.setIfInBounds_toArray, List.set_cons_zero, List.set_cons_succ]
                  refine wpAnyT_take (i := 2) (v := ?v9) [3] rfl (by kernel_rfl) (fun _ _ _ h => h) (Or.inl ⟨by rfl, ?hy9⟩) hHeld ?rst9
                  case hy9 => (intro wx hSw; obtain ⟨q1, q2⟩ := hSw; have q3 := Bk.cell q2; go_simp; try (with_reducible rfl))
                  try simp only [List.getElem_toArray, List.getElem_cons_zero, List.getElem_cons_succ, Act.put, List.setIfInBounds_toArray, List.set_cons_zero, List.set_cons_succ]
                  refine wpAnyT_one (i := 3) (by kernel_rfl) rfl (fun K hK => ?_)
                  go_simp
                  go_at_call 110
                  refine (HST.out).mono ?_
                  rintro e w7 ⟨rfl, hx7⟩
                  have HX7 := Lib.hid hx7
                  have HS7 := Lib.hid (show w7.cell? ⟨p1, 0, none⟩ = some (.pointer (some ⟨b, 0, none⟩)) ∧ Bk 156 w7 p12 #[.int .i64 x, .int .i64 y, .int .i64 t, .int .i64 y] from ⟨(hx7.cell (p := ⟨p1, 0, none⟩) (World.block_lt_of_cell? _ ⟨p1, 0, none⟩ HS25.out.1)).trans HS25.out.1, HS25.out.2.ext hx7⟩)
                  clear hx7
                  refine hK.out _ _ (HS7.out) (fun hHeld => ?_)
                  clear hK K
                  try simp only [List.getElem_toArray, List.getElem_cons_zero, List.getElem_cons_succ, Act.put, List.setIfInBounds_toArray, List.set_cons_zero, List.set_cons_succ]
                  refine wpAnyT_last (by kernel_rfl) (by kernel_rfl) rfl (fun K hK => ?_)
                  go_simp
                  go_at_call 108
                  refine (HCT.out _ HX7.out).mono ?_
                  rintro e w8 ⟨rfl, hp8, ha8, hb8, hx8⟩
                  refine hK.out _ _ ?_
                  clear hK K
                  have HP10 := Lib.hid hp8
                  have HA10 := Lib.hid (ha8.congr (g := fun d => walH L d || rayK (endD L) rr (C.take (k + 1)) d) fun d => by unfold rayK; rw [HTA.out, ← HVF.out, HQE.out, Bool.or_assoc]; simp)
                  have HB10 := Lib.hid (hb8.congr (g := walV L) fun d => by
                    have h0 : vwl x (min y y) (max y y) d = false := decide_eq_false fun h => by omega
                    rw [h0, Bool.or_false])
                  have HV10 := Lib.hid ((HVD.out.trans (But2.of HX7.out)).trans hx8)
                  clear hp8 ha8 hb8 hx8
                  go_wp2
                  go_roundg (C.length - (k + 1))
                  case measure => have := HG.out; omega
                  case rel => exact ⟨k + 1, by go_num, by omega, rfl, HA10.out, HB10.out, HV10.out⟩
            · obtain rfl : k = C.length := by omega
              rw [List.take_length] at HAK
              have HE8 := Lib.hid (Mf.new wr)
              have HMP := Lib.hid (Mp.new wr)
              have HX8 := Lib.hid (ext_alloc wr (.map #[] 0))
              clear HG hlt hk HE8 HEK HE HB7 HYL HCS HCB HMC HWQ HRT HWY HA HB H3 HV3
              go_upto_region 29 with (fail)
              obtain ⟨Q0, hQ0⟩ : ∃ Q0, Q0 = wr.alloc (.map #[] 0) := ⟨_, rfl⟩
              obtain ⟨mk, hmk⟩ : ∃ mk, mk = wr.heap.size := ⟨_, rfl⟩
              have HMK := Lib.hid (show X.heap.size ≤ mk from by rw [hmk]; exact H2K.out.size)
              rw [← hQ0] at HMP HX8 ⊢
              rw [← hmk] at HMP ⊢
              have HA8 := Lib.hid (HAK.out.ext HX8.out)
              have HB8 := Lib.hid (HBK.out.ext HX8.out)
              have H28 := Lib.hid (H2K.out.trans (But2.of HX8.out))
              clear hQ0 hmk HX8 HAK HBK H2K H2
              obtain ⟨fa, hfa⟩ : ∃ fa : Cel → Bool, fa = fun d => walH L d || rayK (endD L) rr C d := ⟨_, rfl⟩
              obtain ⟨fb, hfb⟩ : ∃ fb, fb = walV L := ⟨_, rfl⟩
              rw [← hfa] at HA8
              rw [← hfb] at HB8
              have HSB := Lib.hid (show ∀ n, splB (us l g) (wid l) l.length n = (spK (fun c => us l g c.1 c.2) (openL fa fb) n (wid l) (wid l * l.length)).2 from fun n => by
                rw [hfa, hfb, HRR.out, HLE.out, HFE.out, HSE.out, HCE.out]; rfl)
              clear hfa hfb HRR HLE HFE HSE HCE
              obtain ⟨SK, hSK⟩ : ∃ SK : Nat → List Cel × List Bx, SK = fun k => spK (fun c => us l g c.1 c.2) (openL fa fb) 3000 (wid l) k := ⟨_, rfl⟩
              have HSK := Lib.hid (show ∀ k, SK (k + 1) = spStep (fun c => us l g c.1 c.2) (openL fa fb) 3000 (SK k) (celK (wid l) k) from fun k => by rw [hSK]; exact spK_succ _ _ _ _ _)
              have HSL := Lib.hid (show ∀ k, (SK k).2.length ≤ k from fun k => by rw [hSK]; exact spK_len _ _ _ _ _)
              have HS0 := Lib.hid (show SK 0 = ([], []) from by rw [hSK]; rfl)
              have HSE2 := Lib.hid (show splB (us l g) (wid l) l.length 3000 = (SK (wid l * l.length)).2 from by rw [HSB.out 3000, hSK])
              clear hSK HSB
              have HKN := Lib.hid (show mk < Q0.heap.size ∧ mk ≠ b1 ∧ mk ≠ b2 from by have h1 := HMP.out.lt; have h2 := HMK.out; have h3 := HBL.out; omega)
              have HCQ := Lib.hid (show Bk 110 Q0 p1 #[.pointer (some ⟨b, 0, none⟩)] from H28.out.bk HC.out HBL.out.2.2.2.1 HBL.out.2.2.2.2.1)
              obtain ⟨f1, f2, f3⟩ := HCQ.out.facts
              have hh8 := (HP.out.but H28.out).h_
              go_wp2_with (fail)
              clear f1 f2 f3 hh8
              go_loopg [99, 14] l.length (fun gg z v wr => ∃ y : Nat, z = .int .i64 y ∧ y ≤ l.length ∧ gg = l.length - y ∧ Vr Q0.heap.size wr v ((SK (wid l * y)).2.map bxR) ∧ Mp mk (SK (wid l * y)).1 wr ∧ But1 mk Q0 wr)
              case atStart => exact ⟨0, rfl, by omega, by omega, by rw [Nat.mul_zero, HS0.out]; exact Vr.nil _ _, by rw [Nat.mul_zero, HS0.out]; exact HMP.out, But1.refl _ _⟩
              case round =>
                obtain ⟨y, rfl, hy, hgg, hv, hm, hq⟩ := hrel
                have HG := Lib.hid hgg
                have HV := Lib.hid hv
                have HM := Lib.hid hm
                have HQ := Lib.hid hq
                have H2Q := Lib.hid (H28.out.below2 hq HMK.out)
                have hCq := (show Bk 110 wr p1 #[.pointer (some ⟨b, 0, none⟩)] from H2Q.out.bk HC.out HBL.out.2.2.2.1 HBL.out.2.2.2.2.1)
                obtain ⟨f1, f2, f3⟩ := hCq.facts
                have hww := (HP.out.but H2Q.out).w_
                clear hgg hv hm hq hCq HMP
                by_cases hlt : y < l.length
                · have hlti : (y : Int) < (l.length : Int) := by omega
                  go_upto_region 33 with (fail)
                  clear f1 f2 f3 hww
                  go_loopg [106, 14] (wid l) (fun gg z v wr => ∃ x : Nat, z = .int .i64 x ∧ x ≤ wid l ∧ gg = wid l - x ∧ Vr Q0.heap.size wr v ((SK (wid l * y + x)).2.map bxR) ∧ Mp mk (SK (wid l * y + x)).1 wr ∧ But1 mk Q0 wr)
                  case atStart => exact ⟨0, rfl, by omega, by omega, HV.out, HM.out, HQ.out⟩
                  case round =>
                    obtain ⟨x, rfl, hx, hgg, hv, hm, hq⟩ := hrel
                    have HG2 := Lib.hid hgg
                    have HV2 := Lib.hid hv
                    have HM2 := Lib.hid hm
                    have HQ2 := Lib.hid hq
                    obtain ⟨A14, c14, rfl, k1, k2, k3⟩ := hv.rsl
                    unfold maxLen at k2
                    clear hgg hv hm hq HV HM HQ H2Q k3
                    by_cases hxl : x < wid l
                    · have hxli : (x : Int) < (wid l : Int) := by omega
                      have HKS := Lib.hid (HSK.out (wid l * y + x))
                      have HKL := HSL.out (wid l * y + x)
                      have hkk : wid l * y + x ≤ 2400 := by
                        have : wid l * y ≤ 48 * 47 := Nat.mul_le_mul hw1 (by omega)
                        omega
                      rw [celK_at hxl] at HKS
                      obtain ⟨S, BX, hSB⟩ : ∃ S BX, SK (wid l * y + x) = (S, BX) := ⟨_, _, rfl⟩
                      have HSBE := Lib.hid hSB
                      rw [hSB] at HV2 HM2 HKS HKL k1 ⊢
                      dsimp only at HV2 HM2 HKL k1 ⊢
                      rw [List.length_map] at HV2 k1 ⊢
                      clear hSB
                      have hx0 := ext_alloc wr (.cells #[.int .i64 (x : Int), .int .i64 (y : Int)] 71)
                      have HN := Lib.hid (Bk.new 71 wr #[.int .i64 (x : Int), .int .i64 (y : Int)])
                      have HQS := Lib.hid HQ2.out.size
                      have HQ1 := Lib.hid (HQ2.out.trans (But1.of hx0))
                      have HV1 := Lib.hid (show Vr Q0.heap.size _ _ _ from own_ext HV2.out hx0)
                      have HM1 := Lib.hid (HM2.out.ext hx0)
                      clear hx0 HV2 HM2 HQ2
                      go_upto_region 36 with (fail)
                      obtain ⟨X1, hX1⟩ : ∃ X1, X1 = wr.alloc (.cells #[.int .i64 (x : Int), .int .i64 (y : Int)] 71) := ⟨_, rfl⟩
                      obtain ⟨p18, hp18⟩ : ∃ p18, p18 = wr.heap.size := ⟨_, rfl⟩
                      have HP18 := Lib.hid (show Q0.heap.size ≤ p18 from by rw [hp18]; exact HQS.out)
                      rw [← hX1] at HN HQ1 HV1 HM1 ⊢
                      rw [← hp18] at HN ⊢
                      clear hX1 hp18
                      have H21 := Lib.hid (H28.out.below2 HQ1.out HMK.out)
                      have HP9 := Lib.hid (HP.out.but H21.out)
                      have HC9 := Lib.hid (show Bk 110 X1 p1 #[.pointer (some ⟨b, 0, none⟩)] from H21.out.bk HC.out HBL.out.2.2.2.1 HBL.out.2.2.2.2.1)
                      obtain ⟨f1, f2, f3⟩ := HC9.out.facts
                      obtain ⟨g1, g2, g3⟩ := HN.out.facts
                      obtain ⟨pp, qq, hbf, huse⟩ := HP9.out.plw.use
                      have HUS := Lib.hid (huse (x : Int) (y : Int) X1 (Below.refl _ _))
                      obtain ⟨u0, hu0⟩ : ∃ u0, u0 = us l g (x : Int) (y : Int) := ⟨_, rfl⟩
                      rw [← hu0] at HUS
                      clear huse
                      cases u0 with
                      | false =>
                        have HE := Lib.hid (show SK (wid l * y + x + 1) = (S, BX) from by rw [HKS.out, spStep, if_neg (by rw [← hu0]; simp)])
                        clear hu0
                        go_wp2_with (go_at_call 70; refine (HUS.out).mono ?_; rintro e w5 ⟨rfl, m5, rfl⟩)
                        go_roundg (wid l - (x + 1))
                        case measure => have := HG2.out; omega
                        case rel => exact ⟨x + 1, by go_num, by omega, rfl, by rw [show wid l * y + (x + 1) = wid l * y + x + 1 by omega, HE.out]; exact own_ext HV1.out (ext_drewN _ _), by rw [show wid l * y + (x + 1) = wid l * y + x + 1 by omega, HE.out]; exact HM1.out.ext (ext_drewN _ _), HQ1.out.trans (But1.of (ext_drewN _ _))⟩
                      | true =>
                        have HU0 := Lib.hid hu0.symm
                        clear hu0
                        have hI0 : IsC ((x : Int), (y : Int)) := ⟨⟨by dsimp only; omega, by dsimp only; omega⟩, ⟨by dsimp only; omega, by dsimp only; omega⟩⟩
                        have hlk : ∀ m, (Instr.lookup 73 (.map (some mk)) (.agg #[.int .i64 (x : Int), .int .i64 (y : Int)]) false).run Tryd.prog (X1.drewN m) = .ok (.bool (decide (((x : Int), (y : Int)) ∈ S))) (X1.drewN m) := fun m => (HM1.out.ext (ext_drewN X1 m)).look hI0
                        clear hI0
                        by_cases hin : ((x : Int), (y : Int)) ∈ S
                        · rw [decide_eq_true hin] at hlk
                          have HE := Lib.hid (show SK (wid l * y + x + 1) = (S, BX) from by rw [HKS.out, spStep, if_pos HU0.out, if_pos hin])
                          clear hin
                          go_wp2_with (go_at_call 70; refine (HUS.out).mono ?_; rintro e w5 ⟨rfl, m5, rfl⟩)
                          go_roundg (wid l - (x + 1))
                          case measure => have := HG2.out; omega
                          case rel => exact ⟨x + 1, by go_num, by omega, rfl, by rw [show wid l * y + (x + 1) = wid l * y + x + 1 by omega, HE.out]; exact own_ext HV1.out (ext_drewN _ _), by rw [show wid l * y + (x + 1) = wid l * y + x + 1 by omega, HE.out]; exact HM1.out.ext (ext_drewN _ _), HQ1.out.trans (But1.of (ext_drewN _ _))⟩
                        · rw [decide_eq_false hin] at hlk
                          have HIN := Lib.hid hin
                          clear hin
                          go_upto_region 37 with (go_at_call 70; refine (HUS.out).mono ?_; rintro e w5 ⟨rfl, m5, rfl⟩)
                          have HE := Lib.hid (show SK (wid l * y + x + 1) = ((fld (openL fa fb) (fun c => us l g c.1 c.2) 3000 S ((x : Int), (y : Int))).1, BX ++ [boxL (fld (openL fa fb) (fun c => us l g c.1 c.2) 3000 S ((x : Int), (y : Int))).2]) from by rw [HKS.out, spStep, if_pos HU0.out, if_neg HIN.out])
                          have hd5 := ext_drewN X1 m5
                          have HV3 := Lib.hid (show Vr Q0.heap.size _ _ _ from own_ext HV1.out hd5)
                          have HM3 := Lib.hid (HM1.out.ext hd5)
                          have HQ3 := Lib.hid (HQ1.out.trans (But1.of hd5))
                          have HN3 := Lib.hid (HN.out.ext hd5)
                          obtain ⟨D1, hD1⟩ : ∃ D1, D1 = X1.drewN m5 := ⟨_, rfl⟩
                          rw [← hD1] at HV3 HM3 HQ3 HN3 ⊢
                          clear hD1 hd5 f1 f2 f3 g1 g2 g3 hlk hbf HUS HV1 HM1 HQ1 HN H21 HP9 HC9
                          go_upto_region 38 with (go_at_call 82; refine (nowhere_any _).mono ?_; rintro e w6 ⟨rfl, hx6⟩)
                          have HN19 := Lib.hid (Bk.new 124 w6 #[.int .i64 48, .int .i64 48, .int .i64 (-1), .int .i64 (-1)])
                          have hx7 := ext_trans hx6 (ext_alloc w6 (.cells #[.int .i64 48, .int .i64 48, .int .i64 (-1), .int .i64 (-1)] 124))
                          have HV4 := Lib.hid (show Vr Q0.heap.size _ _ _ from own_ext HV3.out hx7)
                          have HM4 := Lib.hid (HM3.out.ext hx7)
                          have HQ4 := Lib.hid (HQ3.out.trans (But1.of hx7))
                          have HN4 := Lib.hid (HN3.out.ext hx7)
                          obtain ⟨D2, hD2⟩ : ∃ D2, D2 = w6.alloc (.cells #[.int .i64 48, .int .i64 48, .int .i64 (-1), .int .i64 (-1)] 124) := ⟨_, rfl⟩
                          obtain ⟨p19, hp19⟩ : ∃ p19, p19 = w6.heap.size := ⟨_, rfl⟩
                          rw [← hD2] at HN19 HV4 HM4 HQ4 HN4 ⊢
                          have HP19 := Lib.hid (show Q0.heap.size ≤ p19 ∧ p19 ≠ mk from by have h1 := HQ3.out.size; have h2 := hx6.size; have h3 := HKN.out; omega)
                          rw [← hp19] at HN19 ⊢
                          have HP19b := Lib.hid HN19.out.lt
                          clear hD2 hp19 hx6 hx7 HV3 HM3 HQ3 HN3
                          have H24 := Lib.hid (H28.out.below2 HQ4.out HMK.out)
                          have HC4 := Lib.hid (show Bk 110 D2 p1 #[.pointer (some ⟨b, 0, none⟩)] from H24.out.bk HC.out HBL.out.2.2.2.1 HBL.out.2.2.2.2.1)
                          have HA4 := Lib.hid (HA8.out.keep (HQ4.out.block b1 HA8.out.lt (Ne.symm HKN.out.2.1)))
                          have HB4 := Lib.hid (HB8.out.keep (HQ4.out.block b2 HB8.out.lt (Ne.symm HKN.out.2.2)))
                          have HFL := Lib.hid (spl_flood b l g b1 b2 mk p1 fa fb X D2 S HP.out (HC.out.cell 0) ⟨HBL.out.2.2.2.1, HBL.out.2.2.2.2.1⟩ H24.out HA4.out HB4.out HM4.out HMK.out ⟨HBL.out.1, HBL.out.2.1⟩ (x : Int) (y : Int) HIN.out HU0.out hg)
                          obtain ⟨fl5, hfl5⟩ : ∃ fl5, fl5 = fld (openL fa fb) (fun c => us l g c.1 c.2) 3000 S ((x : Int), (y : Int)) := ⟨_, rfl⟩
                          have HFI := Lib.hid (show FlI (boxCells (grid l)) fl5 from by rw [hfl5]; exact FlI.go (fun c hc => usb_grid hg hc) 3000 0 ⟨fun d hd => by simp at hd; subst hd; simp, by simp, fun d hd => by simp at hd; subst hd; exact usb_grid hg HU0.out⟩)
                          have HFN := Lib.hid (show 1 ≤ fl5.2.length from by rw [hfl5]; exact flGo_len _ _ 3000 0 (S ++ [((x : Int), (y : Int))], [((x : Int), (y : Int))]))
                          rw [← hfl5] at HFL HE
                          clear hfl5
                          obtain ⟨S2, LL⟩ := fl5
                          dsimp only at HE HFI HFN
                          obtain ⟨f1, f2, f3⟩ := HC4.out.facts
                          obtain ⟨g1, g2, g3⟩ := HN4.out.facts
                          go_upto_region 39 with (go_at_call 47; refine (HFL.out).mono ?_; rintro e w7 ⟨AL, cL, rfl, kl1, kl2, hcl, hm7, hb7'⟩)
                          have HM5 := Lib.hid hm7
                          have HQ5 := Lib.hid (HQ4.out.trans hb7')
                          have HV5 := Lib.hid (show Vr Q0.heap.size _ _ _ from own_but1 HV4.out hb7' HKN.out.1)
                          have HN5 := Lib.hid (hb7'.bk HN19.out HP19.out.2)
                          have HCL := Lib.hid hcl
                          have hLLl : LL.length ≤ 2304 := Nat.le_trans HFI.out.len (grid_len HP.out.ok)
                          have HIG := Lib.hid (show ∀ c ∈ LL, InG c from fun c hc => grid_in HP.out.ok (HFI.out.2.2 c hc))
                          have HBI := Lib.hid (show 0 ≤ (boxL LL).x0 ∧ (boxL LL).x0 ≤ (boxL LL).x1 ∧ (boxL LL).x1 ≤ 47 ∧ 0 ≤ (boxL LL).y0 ∧ (boxL LL).y0 ≤ (boxL LL).y1 ∧ (boxL LL).y1 ≤ 47 from by
                            have h1 := bxIn_box HIG.out
                            have h2 := HFN.out
                            obtain ⟨c, hc⟩ := List.exists_mem_of_length_pos (show 0 < LL.length from h2)
                            have h3 := mem_box.1 (box_has hc)
                            unfold BxIn at h1
                            omega)
                          clear hm7 hb7' hcl f1 f2 f3 g1 g2 g3 HV4 HM4 HQ4 HN4 HN19 HC4 HA4 HB4 HFL H24 HFI HFN
                          go_loopg [133] LL.length (fun gg z wr => ∃ j : Nat, z = .int .i64 j ∧ j ≤ LL.length ∧ gg = LL.length - j ∧ Bk 124 wr p19 (bxv (boxL (LL.take j))) ∧ But1 p19 w7 wr)
                          case atStart => exact ⟨0, rfl, by omega, by omega, HN5.out, But1.refl _ _⟩
                          case round =>
                            obtain ⟨j, rfl, hj, hgg, hbk, hbw⟩ := hrel
                            have HG3 := Lib.hid hgg
                            have HBK := Lib.hid hbk
                            have HBW := Lib.hid hbw
                            clear hgg hbk hbw
                            by_cases hjl : j < LL.length
                            · rcases HCL.out with h0 | ⟨gl, offl, rfl, hgl1, hgl2, hcl⟩
                              · rw [h0] at hjl; simp at hjl
                              · have hgp : gl ≠ p19 := by have := HP19b.out; omega
                                obtain ⟨c1', c2'⟩ := hcl j hjl
                                have c1' := (cell_same (HBW.out.block gl hgl2 hgp)).trans c1'
                                have c2' := (cell_same (HBW.out.block gl hgl2 hgp)).trans c2'
                                have HSN := Lib.hid (boxL_snoc hjl)
                                obtain ⟨cc, hcc⟩ : ∃ cc, cc = LL[j] := ⟨_, rfl⟩
                                rw [← hcc] at c1' c2' HSN
                                obtain ⟨cx, cy⟩ := cc
                                dsimp only at c1' c2'
                                have hx0 := ext_alloc wr (.cells #[.int .i64 cx, .int .i64 cy] 71)
                                have HNC := Lib.hid (Bk.new 71 wr #[.int .i64 cx, .int .i64 cy])
                                have HBK1 := Lib.hid (HBK.out.ext hx0)
                                have HBW1 := Lib.hid (HBW.out.trans (But1.of hx0))
                                clear hcl hcc hx0 HBW
                                go_upto_region 41 with (fail)
                                obtain ⟨E1, hE1⟩ : ∃ E1, E1 = wr.alloc (.cells #[.int .i64 cx, .int .i64 cy] 71) := ⟨_, rfl⟩
                                rw [← hE1] at HNC HBK1 HBW1 ⊢
                                obtain ⟨p21, hp21⟩ : ∃ p21, p21 = wr.heap.size := ⟨_, rfl⟩
                                have hp219 : p21 ≠ p19 := by have := HBK.out.lt; omega
                                rw [← hp21] at HNC ⊢
                                clear hE1 hp21 c1' c2' HBK
                                obtain ⟨⟨e1, e2, e3, e4⟩, hbx⟩ : ∃ bb : Bx, bb = boxL (LL.take j) := ⟨_, rfl⟩
                                rw [← hbx] at HBK1 HSN
                                clear hbx
                                have HBK1 := Lib.hid (show Bk 124 E1 p19 #[.int .i64 e1, .int .i64 e2, .int .i64 e3, .int .i64 e4] from HBK1.out)
                                obtain ⟨f1, f2, f3⟩ := HBK1.out.facts
                                obtain ⟨g1, g2, g3⟩ := HNC.out.facts
                                go_wp2_with (go_at_call 83; refine (with_any e1 e2 e3 e4 cx cy _).mono ?_; rintro e w8 ⟨rfl, hx8⟩; have HBK8 := Lib.hid (HBK1.out.ext hx8); have HBW8 := Lib.hid (HBW1.out.trans (But1.of hx8)); obtain ⟨k1', k2', k3'⟩ := HBK8.out.facts; clear hx8)
                                have HFB := Lib.hid (((((HBK8.out.set 0 (.int .i64 (min e1 cx))).set 1 (.int .i64 (min e2 cy))).set 2 (.int .i64 (max e3 cx))).set 3 (.int .i64 (max e4 cy))))
                                go_roundg (LL.length - (j + 1))
                                case measure => have := HG3.out; omega
                                case rel => exact ⟨j + 1, by go_num, by omega, rfl, by rw [HSN.out]; exact HFB.out, HBW8.out.trans ((((But1.set1 _ _ _ _).trans (But1.set1 _ _ _ _)).trans (But1.set1 _ _ _ _)).trans (But1.set1 _ _ _ _))⟩
                            · obtain rfl : j = LL.length := by omega
                              rw [List.take_length] at HBK
                              have HB6 := Lib.hid (HBW.out.below HP19.out.1 HQ5.out.size)
                              have HQ6 := Lib.hid (HQ5.out.bel HB6.out)
                              have HM6 := Lib.hid (HM5.out.keep (HBW.out.block mk HM5.out.lt (Ne.symm HP19.out.2)))
                              have HV6 := Lib.hid (show Vr Q0.heap.size wr _ _ from own_keep HV5.out fun k hk => HBW.out.block k (own_lt HV5.out k hk).2 (fun e => own_ne HV5.out HN5.out (by decide) (by rw [hk, e])))
                              obtain ⟨bb, hbx⟩ : ∃ bb : Bx, bb = boxL LL := ⟨_, rfl⟩
                              rw [← hbx] at HBK HE HBI
                              clear hbx HBW HV5 HM5 HQ5 HN5 HB6 HIG HCL
                              obtain ⟨e1, e2, e3, e4⟩ := bb
                              obtain ⟨i1, i2, i3, i4, i5, i6⟩ := (show 0 ≤ e1 ∧ e1 ≤ e3 ∧ e3 ≤ 47 ∧ 0 ≤ e2 ∧ e2 ≤ e4 ∧ e4 ≤ 47 from HBI.out)
                              clear HBI
                              obtain ⟨rx, rfl⟩ : ∃ n : Nat, e1 = (n : Int) := ⟨e1.toNat, by omega⟩
                              obtain ⟨ry, rfl⟩ : ∃ n : Nat, e2 = (n : Int) := ⟨e2.toNat, by omega⟩
                              obtain ⟨ra, hra⟩ : ∃ n : Nat, e3 - (rx : Int) + 1 = (n : Int) := ⟨(e3 - (rx : Int) + 1).toNat, by omega⟩
                              obtain ⟨rb, hrb⟩ : ∃ n : Nat, e4 - (ry : Int) + 1 = (n : Int) := ⟨(e4 - (ry : Int) + 1).toNat, by omega⟩
                              have HRB := Lib.hid (show bxR ⟨(rx : Int), (ry : Int), e3, e4⟩ = ⟨rx, ry, ra, rb⟩ from by
                                show (⟨((rx : Nat) : Int).toNat, ((ry : Nat) : Int).toNat, (e3 - (rx : Int) + 1).toNat, (e4 - (ry : Int) + 1).toNat⟩ : Rn) = _
                                rw [hra, hrb]; rfl)
                              have HRC := Lib.hid (fun W => rect_any (rx : Int) (ry : Int) e3 e4 W (by omega) (by omega) (by omega) (by omega))
                              rw [hra, hrb] at HRC
                              clear hra hrb i1 i2 i3 i4 i5 i6
                              have hnl : (BX.map bxR).length ≤ 100000000 := by rw [List.length_map]; omega
                              have HBK2 := Lib.hid (show Bk 124 wr p19 #[.int .i64 (rx : Int), .int .i64 (ry : Int), .int .i64 e3, .int .i64 e4] from HBK.out)
                              clear HBK
                              obtain ⟨q1, q2, q3⟩ := HBK2.out.facts
                              go_wp2_with (first
                                | (go_at_call 84; refine (HRC.out _).mono ?_; rintro e9 w9 ⟨rfl, hx9⟩; have HV7 := Lib.hid (show Vr Q0.heap.size w9 _ _ from own_ext HV6.out hx9); have HM7 := Lib.hid (HM6.out.ext hx9); have HQ7 := Lib.hid (HQ6.out.trans (But1.of hx9)); clear hx9)
                                | (at_builtin; refine wpList_pushRc _ rfl _ _ rfl Q0.heap.size HV7.out (by rfl) ⟨rx, ry, ra, rb⟩ (by rfl) rfl hnl HQ7.out.size ?_; intro v10 w10 hv10 hb10; have HV10 := Lib.hid hv10; have HB10 := Lib.hid hb10; clear hv10 hb10))
                              go_roundg (wid l - (x + 1))
                              case measure => have := HG2.out; omega
                              case rel => exact ⟨x + 1, by go_num, by omega, rfl, by rw [show wid l * y + (x + 1) = wid l * y + x + 1 by omega, HE.out]; show Vr _ _ _ ((BX ++ [_]).map bxR); rw [List.map_append, List.map_cons, List.map_nil, HRB.out]; exact HV10.out, by rw [show wid l * y + (x + 1) = wid l * y + x + 1 by omega, HE.out]; exact HM7.out.keep (HB10.out.block mk HKN.out.1), HQ7.out.bel HB10.out⟩
                    · obtain rfl : x = wid l := by omega
                      go_wp2
                      go_roundg (l.length - (y + 1))
                      case measure => have := HG.out; omega
                      case rel => exact ⟨y + 1, by go_num, by omega, rfl, by rw [Nat.mul_succ]; exact HV2.out, by rw [Nat.mul_succ]; exact HM2.out, HQ2.out⟩
                · obtain rfl : y = l.length := by omega
                  have HDV := Lib.hid (split_least (u := us l g) (w := wid l) (h := l.length) (n := 3000) (fun x y k => us_in HP.out.ok hg k) hw1 hw2 (by decide))
                  rw [HSE2.out] at HDV
                  have HSL2 := Lib.hid (HSL.out (wid l * l.length))
                  have HLE : wid l * l.length ≤ 2304 := Nat.mul_le_mul hw1 hw2
                  obtain ⟨K0, hK0⟩ : ∃ K0, K0 = (SK (wid l * l.length)).2 := ⟨_, rfl⟩
                  rw [← hK0] at HV HDV HSL2 HSE2
                  have HND := Lib.hid (HDV.out.1.rn (fun x y h => by have := us_in HP.out.ok hg h; omega))
                  obtain ⟨ms0, hms0⟩ : ∃ ms0, ms0 = K0.map bxR := ⟨_, rfl⟩
                  have HML := Lib.hid (show ms0.length = K0.length from by rw [hms0, List.length_map])
                  have HMS := Lib.hid hms0
                  rw [← hms0] at HV HND
                  clear hms0 hK0 HDV
                  obtain ⟨A14, c14, rfl, k1, k2, k3⟩ := HV.out.rsl
                  unfold maxLen at k2
                  have HCC := Lib.hid (show ms0.length ≤ c14 ∧ c14 ≤ 9223372036854775807 ∧ ms0.length ≤ 2304 from ⟨k1, k2, by have := HML.out; have := HSL2.out; omega⟩)
                  clear k1 k2 k3 HLE
                  have HSO := Lib.hid (sort_any Q0.heap.size A14 c14 ms0 wr HV.out HQ.out.size (by have := HCC.out; omega) HND.out)
                  go_wp2_with (go_at_call 90; refine (HSO.out).mono ?_; rintro e9 w9 ⟨rfl, hx9, ms', hp, hm, hl2, hr⟩; have HHP := Lib.hid hp; have HHM := Lib.hid hm; have HHL := Lib.hid hl2; have HHR := Lib.hid hr; have HHX := Lib.hid hx9; clear hp hm hl2 hr hx9)
                  go_ret
                  refine ⟨A14, c14, ms', by rw [HHL.out]; rfl, by rw [HHL.out]; exact HCC.out.1, HCC.out.2.1, by rw [HHL.out]; exact HCC.out.2.2, HHR.out, HHP.out, by rw [HHL.out, HML.out, HSE2.out], fun r => by rw [HHM.out, HMS.out, HSE2.out], (But2.of HXW.out).trans <| H28.out.below2 ((HQ.out.bel HHX.out)) HMK.out⟩
end Go.Proofs.YtmgofdgbenfjmaaDoor
