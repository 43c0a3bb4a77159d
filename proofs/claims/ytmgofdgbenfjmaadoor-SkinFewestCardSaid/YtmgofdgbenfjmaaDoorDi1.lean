/- Texts joined: Ts, DiP, Di. Conditions: see each. -/
import Derived.Test.YtmgofdgbenfjmaaDoorRc1
import Derived.Test.YtmgofdgbenfjmaaDoorRg
import Derived.Test.YtmgofdgbenfjmaaDoorSpR
import Derived.Test.YtmgofdgbenfjmaaDoorMxP
import Derived.Test.YtmgofdgbenfjmaaDoorDv2
import Derived.Test.YtmgofdgbenfjmaaDoorWa1
import Derived.Test.YtmgofdgbenfjmaaDoorVq1
import Derived.Test.YtmgofdgbenfjmaaDoorFu1
import Derived.Test.YtmgofdgbenfjmaaDoorRg1
import Derived.Test.YtmgofdgbenfjmaaDoorSg1
import Derived.Deep.CutBlock
namespace Go.Proofs.YtmgofdgbenfjmaaDoor
open Go.RowKit

set_option maxRecDepth 100000 in
set_option maxHeartbeats 4000000 in
theorem rusable_any (A : Option Addr) (cap : Nat) (l : List ByteArray) (g : Int) (w : World) (hok : SkOk l) (h : TSl w A l) :
    Calls Tryd.prog 73 #[.slice A l.length cap, .int .i64 g] w fun e w' => ∃ A2 cap2, e = .returned (.slice A2 (uL l g).length cap2) ∧ (uL l g).length ≤ cap2 ∧ cap2 ≤ maxLen ∧ DSl w.heap.size w' A2 (uL l g) ∧ Below w.heap.size w w' := by
  have HOK := Lib.hid hok
  have HGR := Lib.hid (fun x y W (hW : Below w.heap.size w W) => rgrade_any A cap l x y W hok (h.ext hW))
  rcases h with h0 | ⟨b, off, rfl, hblt, hcl⟩
  · have h1 := hok.1; rw [h0] at h1; simp at h1
  have HC := Lib.hid (show ∀ W, Below w.heap.size w W → b < W.heap.size ∧ ∃ r0 : ByteArray, W.cell? ⟨b, off, none⟩ = some (.string r0) ∧ r0.size = wid l from fun W hW => ⟨Nat.lt_of_lt_of_le hblt hW.size, first_row hok (fun j hj => (hW.cell (p := ⟨b, off + j, none⟩) hblt).trans (hcl j hj))⟩)
  have hl1 := hok.1
  have hl48 := hok.2.1
  have hw48 := hok.2.2.2.1
  have hw1 := hok.2.2.1
  clear hok hcl hblt
  go_enter Tryd.func73, Tryd.ntmps73
  go_wp2_with (fail)
  go_loopg [10, 5] l.length (fun gg i v wr => ∃ y : Nat, i = .int .i64 y ∧ y ≤ l.length ∧ gg = l.length - y ∧ Below w.heap.size w wr ∧ Vd w.heap.size wr v (uP l g y 0))
  case atStart => exact ⟨0, rfl, by omega, by omega, Below.refl _ _, by rw [uP_none]; exact Vd.nil _ _⟩
  case round =>
    obtain ⟨y, rfl, hy, hg, hb, hv⟩ := hrel
    have HG := Lib.hid hg
    have HB := Lib.hid hb
    have HVV := Lib.hid hv
    clear hg hb hv
    by_cases hlt : y < l.length
    · obtain ⟨hblt, r0, c0, hr0⟩ := HC.out _ HB.out
      obtain ⟨n, hn⟩ : ∃ n, n = wid l := ⟨_, rfl⟩
      have HN := Lib.hid hn
      rw [← hn] at hr0 hw48 hw1
      clear hn
      go_upto_block 2 with (fail)
      clear c0 hr0 hblt
      go_wp2_with (fail)
      go_loopg [17, 5] n (fun gg i v wr => ∃ x : Nat, i = .int .i64 x ∧ x ≤ n ∧ gg = n - x ∧ Below w.heap.size w wr ∧ Vd w.heap.size wr v (uP l g y x))
      case atStart => exact ⟨0, rfl, by omega, by omega, HB.out, HVV.out⟩
      case round =>
        obtain ⟨x, rfl, hx, hg2, hb2, hv2⟩ := hrel
        have HG2 := Lib.hid hg2
        have HB2 := Lib.hid hb2
        have HV2 := Lib.hid hv2
        have HLT := Lib.hid hlt
        have hgl := uP_len g HOK.out (show y ≤ 48 by omega) (show x ≤ 48 by omega)
        clear hg2 hb2 hv2 HB HVV
        by_cases hxn : x < n
        · have HGC := Lib.hid (HGR.out (x : Int) (y : Int) wr HB2.out)
          have HGS := Lib.hid (uP_cell l g y x)
          cases hus : usb l g ((x : Int), (y : Int))
          · have HE := Lib.hid (show uP l g y (x + 1) = uP l g y x from by rw [HGS.out, hus]; simp)
            have hz0 : ¬ g ≤ gr l (x : Int) (y : Int) := by
              unfold usb at hus
              simpa only [decide_eq_false_iff_not] using hus
            obtain ⟨z, hz⟩ : ∃ z, z = gr l (x : Int) (y : Int) := ⟨_, rfl⟩
            rw [← hz] at HGC hz0
            clear hus hz hgl
            go_wp2_with (go_at_call 34; refine (HGC.out).mono ?_; rintro e w9 ⟨rfl, rfl⟩)
            go_roundg (n - (x + 1))
            case measure => have := HG2.out; omega
            case rel => exact ⟨x + 1, by go_num, by omega, rfl, HB2.out, by rw [HE.out]; exact HV2.out⟩
          · have HE := Lib.hid (show uP l g y (x + 1) = uP l g y x ++ [((x : Int), (y : Int))] from by rw [HGS.out, hus, if_pos rfl])
            have hz0 : g ≤ gr l (x : Int) (y : Int) := by
              unfold usb at hus
              simpa only [decide_eq_true_eq] using hus
            have hgl2 : (uP l g y x).length ≤ 1000000 := by omega
            have hbs := HB2.out.size
            obtain ⟨z, hz⟩ : ∃ z, z = gr l (x : Int) (y : Int) := ⟨_, rfl⟩
            rw [← hz] at HGC hz0
            clear hus hz hgl
            go_wp2_with (first
              | (go_at_call 34; refine (HGC.out).mono ?_; rintro e w9 ⟨rfl, rfl⟩)
              | (at_builtin; refine wpList_pushD _ rfl _ _ rfl w.heap.size HV2.out (by rfl) (by rfl) rfl hgl2 hbs ?_; intro v5 w5 hv5 hb5 hk5 _; have HV5 := Lib.hid hv5; have HB5 := Lib.hid (HB2.out.trans hb5); clear hv5 hb5 hk5))
            go_roundg (n - (x + 1))
            case measure => have := HG2.out; omega
            case rel => exact ⟨x + 1, by go_num, by omega, rfl, HB5.out, by rw [HE.out]; exact HV5.out⟩
        · have HE := Lib.hid (show uP l g y x = uP l g (y + 1) 0 from by rw [show x = wid l by have := HN.out; omega]; exact uP_row l g y)
          obtain rfl : x = n := by omega
          clear hgl
          go_wp2
          go_roundg (l.length - (y + 1))
          case measure => have := HG.out; have := HLT.out; omega
          case rel => exact ⟨y + 1, by go_num, by have := HLT.out; omega, rfl, HB2.out, by rw [← HE.out]; exact HV2.out⟩
    · obtain rfl : y = l.length := by omega
      obtain ⟨C, cc, hv2, k1, k2, k3⟩ := HVV.out.csl
      subst hv2
      rw [uP_all] at k1 k3
      have k0 : (uP l g l.length 0).length = (uL l g).length := by rw [uP_all]
      rw [k0]
      have K := Lib.hid (And.intro k1 (And.intro k2 k3))
      clear k1 k2 k3 k0 hlt
      go_wp2
      refine bodyPost_ret (v := .slice C (uL l g).length cc) (by simp [results, Tryd.results73, go_sem]) rfl ?_
      exact ⟨C, cc, rfl, K.out.1, K.out.2.1, K.out.2.2, HB.out⟩

theorem bxIn_one {c : Cel} (h : InG c) : BxIn (oneB c) := by
  unfold InG at h; unfold BxIn oneB; simp only; omega
theorem bxIn_take {l : List Cel} (hl : ∀ c ∈ l, InG c) (h : 0 < l.length) (k : Nat) : BxIn ((l.take k).foldl Bx.with_ (oneB l[0])) :=
  bxIn_fold _ (bxIn_one (hl _ (List.getElem_mem h))) fun c hc => hl c (List.mem_of_mem_take hc)
set_option maxRecDepth 100000 in
set_option maxHeartbeats 4000000 in
theorem rbox_any (A : Option Addr) (cap : Nat) (l : List Cel) (w : World) (hl : ∀ c ∈ l, InG c) (hn : l.length ≤ 1000000) (h : DSl 0 w A l) :
    Calls Tryd.prog 50 #[.slice A l.length cap] w fun e w' => Below w.heap.size w w' ∧ ((l = [] ∧ e = .returned (.tuple #[.agg #[.int .i64 0, .int .i64 0, .int .i64 0, .int .i64 0], .bool false])) ∨
      (l ≠ [] ∧ e = .returned (.tuple #[.agg #[.int .i64 (boxL l).x0, .int .i64 (boxL l).y0, .int .i64 ((boxL l).x1 - (boxL l).x0 + 1), .int .i64 ((boxL l).y1 - (boxL l).y0 + 1)], .bool true]))) := by
  have hx0 := ext_alloc w (.cells #[.int .i64 0, .int .i64 0, .int .i64 0, .int .i64 0] 31)
  have HX0 := Lib.hid hx0
  have HZ0 := Lib.hid (Bk.new 31 w #[.int .i64 0, .int .i64 0, .int .i64 0, .int .i64 0])
  rcases h with h0 | ⟨b, off, rfl, hb0, hblt, hcl⟩
  · subst h0
    obtain ⟨r1, r2, r3⟩ := HZ0.out.facts
    go_enter Tryd.func50, Tryd.ntmps50
    go_wp2
    have p1 := (four_set HZ0.out (.int .i64 0) (.int .i64 0) (.int .i64 0) (.int .i64 0)).facts.1
    refine bodyPost_ret (v := .tuple #[.agg #[.int .i64 0, .int .i64 0, .int .i64 0, .int .i64 0], .bool false]) (by simp [results, Tryd.results50, go_sem]) rfl ?_
    exact ⟨HX0.out, .inl ⟨by first | rfl | trivial, rfl⟩⟩
  by_cases hne : 0 < l.length
  · have HNE := Lib.hid (show l ≠ [] from fun e => by rw [e] at hne; simp at hne)
    have HC := Lib.hid (show ∀ W, Below w.heap.size w W → b < W.heap.size ∧ ∀ j (hj : j < l.length), W.cell? ⟨b, off + j * 2, none⟩ = some (.int .i64 l[j].1) ∧ W.cell? ⟨b, off + j * 2 + 1, none⟩ = some (.int .i64 l[j].2) from fun W hW => ⟨Nat.lt_of_lt_of_le hblt hW.size, fun j hj => ⟨(hW.cell (p := ⟨b, off + j * 2, none⟩) hblt).trans (hcl j hj).1, (hW.cell (p := ⟨b, off + j * 2 + 1, none⟩) hblt).trans (hcl j hj).2⟩⟩)
    have HL := Lib.hid hl
    have HST := Lib.hid (fun k => bxIn_take hl hne k)
    obtain ⟨x, hx⟩ : ∃ x, x = w.alloc (.cells #[.int .i64 0, .int .i64 0, .int .i64 0, .int .i64 0] 31) := ⟨_, rfl⟩
    obtain ⟨hb2, hc2⟩ := HC.out x (by rw [hx]; exact hx0)
    obtain ⟨c1, c2⟩ := hc2 0 hne
    simp only [Nat.zero_mul, Nat.add_zero] at c1 c2
    have hin0 := hl _ (List.getElem_mem hne)
    have HOB := Lib.hid (show oneB l[0] = ⟨l[0].1, l[0].2, l[0].1, l[0].2⟩ from rfl)
    have HBL := Lib.hid (boxL_one hl hne)
    obtain ⟨c, hc⟩ : ∃ c, c = l[0] := ⟨_, rfl⟩
    rw [← hc] at c1 c2 HST HOB HBL hin0
    obtain ⟨cx, cy⟩ := c
    dsimp only at c1 c2 HOB
    rw [← hx] at HX0 HZ0
    clear hc2 hcl hx0 hl hblt hc hb0
    go_enter Tryd.func50, Tryd.ntmps50
    go_upto_region 3 with (fail)
    rw [← hx]
    clear hx
    go_quiet (fail)
    go_upto_block 0 with (fail)
    go_wp2_with (fail)
    have HX1 := Lib.hid (bdrewN HX0.out nq)
    have HZ1 := Lib.hid (HZ0.out.ext (ext_drewN x nq))
    obtain ⟨X, hX⟩ : ∃ X, X = x.drewN nq := ⟨_, rfl⟩
    rw [← hX] at HX1 HZ1 ⊢
    clear hX c1 c2 hb2 HX0 HZ0
    go_loopg [32, 4, 5, 6, 7] l.length (fun gg i v4 v5 v6 v7 wr => ∃ (k : Nat) (bb : Bx), i = .int .i64 k ∧ k ≤ l.length ∧ gg = l.length - k ∧ bb = (l.take k).foldl Bx.with_ (oneB (cx, cy)) ∧ v4 = .int .i64 bb.x0 ∧ v5 = .int .i64 bb.y0 ∧ v6 = .int .i64 bb.x1 ∧ v7 = .int .i64 bb.y1 ∧ Below w.heap.size w wr ∧ Bk 31 wr w.heap.size #[.int .i64 0, .int .i64 0, .int .i64 0, .int .i64 0])
    case atStart => exact ⟨0, oneB (cx, cy), rfl, by omega, by omega, rfl, rfl, rfl, rfl, rfl, HX1.out, HZ1.out⟩
    case round =>
      obtain ⟨k, bb, rfl, hk, hg, hbb, rfl, rfl, rfl, rfl, hb, hz⟩ := hrel
      have HG := Lib.hid hg
      have HB := Lib.hid hb
      have HZ := Lib.hid hz
      have HBB := Lib.hid hbb
      have hin := HST.out k
      rw [← hbb] at hin
      clear hg hb hz hbb HX1 HZ1
      obtain ⟨x0, y0, x1, y1⟩ := bb
      obtain ⟨i1, i2, i3, i4, i5, i6, i7, i8⟩ := hin
      dsimp only at i1 i2 i3 i4 i5 i6 i7 i8
      dsimp only
      by_cases hlt : k < l.length
      · obtain ⟨hb2, hc2⟩ := HC.out wr HB.out
        obtain ⟨c1, c2⟩ := hc2 k hlt
        have hin := HL.out _ (List.getElem_mem hlt)
        have HN := Lib.hid (show ((l.take (k + 1)).foldl Bx.with_ (oneB (cx, cy))) = Bx.with_ ⟨x0, y0, x1, y1⟩ l[k] from by
          rw [List.take_add_one, List.getElem?_eq_getElem hlt, List.foldl_append, ← HBB.out]; rfl)
        obtain ⟨c, hc⟩ : ∃ c, c = l[k] := ⟨_, rfl⟩
        rw [← hc] at c1 c2 hin HN
        obtain ⟨dx, dy⟩ := c
        dsimp only at c1 c2
        unfold InG at hin
        dsimp only at hin
        obtain ⟨j1, j2, j3, j4⟩ := hin
        clear hc2 hc
        go_upto_region 7 with (fail)
        have HB7 := Lib.hid (HB.out.alloc HB.out.size (.cells #[.int .i64 dx, .int .i64 dy] 80))
        have HZ7 := Lib.hid (HZ.out.ext (ext_alloc wr (.cells #[.int .i64 dx, .int .i64 dy] 80)))
        have HP := Lib.hid (Bk.new 80 wr #[.int .i64 dx, .int .i64 dy])
        obtain ⟨B, hB⟩ : ∃ B, B = wr.heap.size := ⟨_, rfl⟩
        obtain ⟨X2, hX2⟩ : ∃ X2, X2 = wr.alloc (.cells #[.int .i64 dx, .int .i64 dy] 80) := ⟨_, rfl⟩
        rw [← hX2] at HB7 HZ7 HP ⊢
        rw [← hB] at HP ⊢
        clear hB hX2 HB HZ c1 c2 hb2
        obtain ⟨p1, p2, p3⟩ := HP.out.facts
        go_quiet (fail)
        go_wp2
        go_roundg (l.length - (k + 1))
        case measure => have := HG.out; omega
        case rel => exact ⟨k + 1, _, by go_num, by omega, rfl, HN.out.symm, rfl, rfl, rfl, rfl, bdrewN HB7.out _, HZ7.out.ext (ext_drewN _ _)⟩
      · obtain rfl : k = l.length := by omega
        have HE := Lib.hid (show boxL l = ⟨x0, y0, x1, y1⟩ from by rw [HBB.out, List.take_length]; exact HBL.out.symm)
        obtain ⟨r1, r2, r3⟩ := HZ.out.facts
        go_wp2
        have p1 := (four_set HZ.out (.int .i64 x0) (.int .i64 y0) (.int .i64 (x1 - x0 + 1)) (.int .i64 (y1 - y0 + 1))).facts.1
        refine bodyPost_ret (v := .tuple #[.agg #[.int .i64 x0, .int .i64 y0, .int .i64 (x1 - x0 + 1), .int .i64 (y1 - y0 + 1)], .bool true]) (by simp [results, Tryd.results50, go_sem, p1]) rfl ?_
        exact ⟨four_b HB.out (Nat.le_refl _) _ _ _ _, .inr ⟨HNE.out, by rw [HE.out]⟩⟩
  · have h0 : l = [] := List.eq_nil_of_length_eq_zero (by omega)
    subst h0
    obtain ⟨r1, r2, r3⟩ := HZ0.out.facts
    go_enter Tryd.func50, Tryd.ntmps50
    go_wp2
    have p1 := (four_set HZ0.out (.int .i64 0) (.int .i64 0) (.int .i64 0) (.int .i64 0)).facts.1
    refine bodyPost_ret (v := .tuple #[.agg #[.int .i64 0, .int .i64 0, .int .i64 0, .int .i64 0], .bool false]) (by simp [results, Tryd.results50, go_sem]) rfl ?_
    exact ⟨HX0.out, .inl ⟨by first | rfl | trivial, rfl⟩⟩
theorem uL_len {l : List ByteArray} (g : Int) (hok : SkOk l) : (uL l g).length ≤ 1000000 := Nat.le_trans (List.length_filter_le _ _) (Nat.le_trans (grid_len hok) (by decide))
theorem DSl.le {b b' : Nat} {w : World} {A : Option Addr} {l : List Cel} (h : DSl b w A l) (hb : b' ≤ b) : DSl b' w A l := by
  rcases h with h | ⟨g, off, h1, h2, h3, h4⟩
  · exact .inl h
  · exact .inr ⟨g, off, h1, by omega, h3, h4⟩
def inR (r : Rn) (i j : Nat) : Prop := r.x ≤ i ∧ i < r.x + r.a ∧ r.y ≤ j ∧ j < r.y + r.b
/-- rectangles in order that cover each usable cell once, and no other -/
structure DivI (u : Int → Int → Bool) (w h : Nat) (ms : List Rn) : Prop where
  ok : ∀ r ∈ ms, 1 ≤ r.a ∧ 1 ≤ r.b ∧ r.x + r.a ≤ w ∧ r.y + r.b ≤ h
  us_ : ∀ r ∈ ms, ∀ i j : Nat, inR r i j → u i j = true
  dis : ms.Pairwise fun r s => ∀ i j, inR r i j → inR s i j → False
  cov : ∀ i j : Nat, u i j = true → ∃ r ∈ ms, inR r i j
  ord : ∀ i (h : i + 1 < ms.length), ms[i].y < ms[i + 1].y ∨ (ms[i].y = ms[i + 1].y ∧ ms[i].x < ms[i + 1].x)
theorem inR_bx {b : Bx} (h : 0 ≤ b.x0 ∧ b.x0 ≤ b.x1 ∧ 0 ≤ b.y0 ∧ b.y0 ≤ b.y1) (i j : Nat) : inR (bxR b) i j ↔ inB b (i : Int) (j : Int) = true := by
  rw [inB_iff]
  unfold inR bxR
  dsimp only
  omega
theorem divI_of {u : Int → Int → Bool} {w h : Nat} {bs : List Bx} {ms : List Rn} (hs : ∀ x y, u x y = true → 0 ≤ x ∧ x < w ∧ 0 ≤ y ∧ y < h) (hd : Dv u bs) (hm : ∀ r, r ∈ ms ↔ r ∈ bs.map bxR) (ho : ms.Pairwise rlt) : DivI u w h ms := by
  have hb : ∀ b ∈ bs, (0 ≤ b.x0 ∧ b.x0 ≤ b.x1 ∧ 0 ≤ b.y0 ∧ b.y0 ≤ b.y1) ∧ b.x1 < w ∧ b.y1 < h := fun b hb => by
    have h1 := hd.ok b hb
    have h2 := hs _ _ ((hd.cov b.x0 b.y0).2 ⟨b, hb, inB_iff.2 (by omega)⟩)
    have h3 := hs _ _ ((hd.cov b.x1 b.y1).2 ⟨b, hb, inB_iff.2 (by omega)⟩)
    omega
  have hof : ∀ r ∈ ms, ∃ b ∈ bs, bxR b = r := fun r hr => by
    obtain ⟨b, h1, h2⟩ := List.mem_map.1 ((hm r).1 hr)
    exact ⟨b, h1, h2⟩
  have hus : ∀ r ∈ ms, ∀ i j : Nat, inR r i j → u i j = true := fun r hr i j hi => by
    obtain ⟨b, h1, rfl⟩ := hof r hr
    exact (hd.cov _ _).2 ⟨b, h1, (inR_bx (hb b h1).1 i j).1 hi⟩
  have hdis : ∀ r ∈ ms, ∀ s ∈ ms, rlt r s → ∀ i j, inR r i j → inR s i j → False := fun r hr s hs2 hlt i j hi hj => by
    obtain ⟨b, h1, rfl⟩ := hof r hr
    obtain ⟨c, h2, rfl⟩ := hof s hs2
    have e : b = c := pair_uniq hd.dis h1 h2 ((inR_bx (hb b h1).1 i j).1 hi) ((inR_bx (hb c h2).1 i j).1 hj)
    subst e
    exact rlt_irr _ hlt
  have hok : ∀ r ∈ ms, 1 ≤ r.a ∧ 1 ≤ r.b ∧ r.x + r.a ≤ w ∧ r.y + r.b ≤ h := fun r hr => by
    obtain ⟨b, h1, rfl⟩ := hof r hr
    have := hb b h1
    unfold bxR
    dsimp only
    omega
  refine ⟨hok, hus, ho.imp_of_mem fun {a b} ha hb2 hlt => hdis a ha b hb2 hlt, fun i j hi => ?_, fun i hi => ?_⟩
  · obtain ⟨b, h1, h2⟩ := (hd.cov _ _).1 hi
    exact ⟨bxR b, (hm _).2 (List.mem_map_of_mem h1), (inR_bx (hb b h1).1 i j).2 h2⟩
  · have h1 := List.pairwise_iff_getElem.1 ho i (i + 1) (by omega) hi (by omega)
    have h2 := hdis _ (List.getElem_mem (show i < ms.length by omega)) _ (List.getElem_mem hi) h1 ms[i].x ms[i].y
    have h3 := hok _ (List.getElem_mem (show i < ms.length by omega))
    have h4 := hok _ (List.getElem_mem hi)
    unfold rlt at h1
    unfold inR at h2
    generalize ms[i] = r at h1 h2 h3 ⊢
    generalize ms[i + 1] = s at h1 h2 h4 ⊢
    by_cases e : r.y = s.y ∧ r.x = s.x
    · exact absurd (h2 (by omega) (by omega)) id
    · omega
theorem unm_le_n (f : Nat → Bool) : ∀ n, unm f n ≤ n
  | 0 => Nat.le_refl _
  | n + 1 => by
    have := unm_le_n f n
    simp only [unm]; split <;> omega
theorem unm_congr {f g : Nat → Bool} : ∀ n, (∀ k, k < n → f k = g k) → unm f n = unm g n
  | 0, _ => rfl
  | n + 1, h => by simp only [unm]; rw [unm_congr n fun k hk => h k (by omega), h n (by omega)]
theorem filter_unm (p : Cel → Bool) (f : Nat → Cel) : ∀ n, (((List.range n).map f).filter p).length + unm (fun k => p (f k)) n = n
  | 0 => rfl
  | n + 1 => by
    have ih := filter_unm p f n
    rw [List.range_succ, List.map_append, List.filter_append, List.length_append]
    simp only [unm, List.map_cons, List.map_nil, List.filter_cons, List.filter_nil]
    by_cases hp : p (f n) = true
    · rw [if_pos hp, if_pos hp, List.length_singleton]; omega
    · rw [if_neg hp, if_neg hp, List.length_nil]; omega
theorem uL_unm (l : List ByteArray) (g : Int) : (uL l g).length = wid l * l.length - unm (fun k => us l g (k % wid l : Nat) (k / wid l : Nat)) (wid l * l.length) := by
  have h := filter_unm (usb l g) (celK (wid l)) (wid l * l.length)
  unfold uL
  rw [show boxCells (grid l) = (List.range (wid l * l.length)).map (celK (wid l)) from box_cells _ _]
  have e : (fun k => usb l g (celK (wid l) k)) = fun k => us l g (k % wid l : Nat) (k / wid l : Nat) := rfl
  rw [e] at h
  omega
/-- the row of marked cells, and how many -/
def DvM (w : World) (mb n N : Nat) (P : Nat → Nat → Prop) (v : Value) (wr : World) : Prop :=
  ∃ d : Nat → Bool, OwB mb N d wr ∧ (∀ k, k < N → (d k = true ↔ P (k % n) (k / n))) ∧ v = .int .i64 ((N - unm d N : Nat) : Int) ∧ Below w.heap.size w wr
section
variable {w wr w' : World} {mb n N : Nat} {P Q : Nat → Nat → Prop} {v : Value}
theorem DvM.ext (h : DvM w mb n N P v wr) (hb : Below wr.heap.size wr w') : DvM w mb n N P v w' := by
  obtain ⟨d, h1, h2, h3, h4⟩ := h
  exact ⟨d, h1.ext hb, h2, h3, ext_trans h4 hb⟩
theorem DvM.congr (h : DvM w mb n N P v wr) (hpq : ∀ x y, P x y ↔ Q x y) : DvM w mb n N Q v wr := by
  obtain ⟨d, h1, h2, h3, h4⟩ := h
  exact ⟨d, h1, fun k hk => (h2 k hk).trans (hpq _ _), h3, h4⟩
theorem unm_pos {f : Nat → Bool} {j : Nat} (hf : f j = false) (n : Nat) (h : j < n) : 1 ≤ unm f n := by
  have := unm_up hf n h
  omega
/-- one cell more -/
theorem DvM.step (h : DvM w mb n N P v wr) (hm : w.heap.size ≤ mb) {x y k : Nat} (hx : x < n) (hk : k = n * y + x) (hkN : k < N) (hP : ¬ P x y) :
    (∃ c : Nat, v = .int .i64 (c : Int) ∧ c + 1 ≤ N ∧ wr.cell? ⟨mb, k, none⟩ = some (.bool false) ∧ (∀ i, wr.frozen? ⟨mb, i, none⟩ = false) ∧ mb < wr.heap.size ∧ DvM w mb n N (fun a b => P a b ∨ (a = x ∧ b = y)) (.int .i64 ((c : Int) + 1)) (wr.setCell ⟨mb, k, none⟩ (.bool true))) := by
  obtain ⟨d, h1, h2, h3, h4⟩ := h
  have e1 : k % n = x := by rw [hk, Nat.mul_add_mod, Nat.mod_eq_of_lt hx]
  have e2 : k / n = y := by rw [hk, Nat.mul_add_div (by omega), Nat.div_eq_of_lt hx, Nat.add_zero]
  have hd : d k = false := by
    cases hd : d k with
    | false => rfl
    | true => exact absurd ((h2 k hkN).1 hd) (by rw [e1, e2]; exact hP)
  have hu := unm_up hd N hkN
  have hl := unm_le_n d N
  refine ⟨N - unm d N, h3, by omega, by rw [h1.cell hkN, hd], h1.frozen, h1.lt, upB d k, h1.set k true, fun j hj => ?_, by congr 1; omega, h4.setCell (p := ⟨mb, k, none⟩) hm _⟩
  by_cases e : j = k
  · subst e
    rw [upB_at, e1, e2]
    simp
  · rw [upB_ne d e, h2 j hj]
    constructor
    · exact fun h => .inl h
    · rintro (h | ⟨q1, q2⟩)
      · exact h
      · exact absurd (by
          have d1 := Nat.div_add_mod j n
          rw [q1, q2] at d1
          omega) e
theorem DvM.cell (h : DvM w mb n N P v wr) : mb < wr.heap.size := by
  obtain ⟨d, h1, _⟩ := h
  exact h1.lt
end
/-- all marked: as many as there are usable cells -/
theorem DvM.all {w wr : World} {mb : Nat} {l : List ByteArray} {g : Int} {v : Value} {ms : List Rn} (hd : DivI (us l g) (wid l) l.length ms) (h : DvM w mb (wid l) (wid l * l.length) (fun x y => ∃ r ∈ ms.take ms.length, inR r x y) v wr) : v = .int .i64 ((uL l g).length : Int) := by
  obtain ⟨d, h1, h2, h3, h4⟩ := h
  rw [h3, uL_unm]
  congr 2
  congr 1
  refine unm_congr _ fun k hk => ?_
  rw [Bool.eq_iff_iff, h2 k hk, List.take_length]
  constructor
  · rintro ⟨r, hr, hin⟩
    exact hd.us_ r hr _ _ hin
  · exact fun h => hd.cov _ _ h

set_option maxRecDepth 100000 in
set_option maxHeartbeats 16000000 in
theorem divides_any (A : Option Addr) (cap : Nat) (l : List ByteArray) (g : Int) (C : Option Addr) (cc : Nat) (ms : List Rn) (w : World) (hok : SkOk l) (h : TSl w A l) (hm : RSl w C ms) (hml : ms.length ≤ 2304) (hD : DivI (us l g) (wid l) l.length ms) :
    Calls Tryd.prog 33 #[.slice A l.length cap, .int .i64 g, .slice C ms.length cc] w fun e w' => e = .returned (.bool true) ∧ Below w.heap.size w w' := by
  have HGR := Lib.hid (fun x y W (hW : Below w.heap.size w W) => rgrade_any A cap l x y W hok (h.ext hW))
  have HUL := Lib.hid (fun W (hW : Below w.heap.size w W) => rusable_any A cap l g W hok (h.ext hW))
  have HMS := Lib.hid (fun W (hW : Below w.heap.size w W) => hm.ext hW)
  have HDI := Lib.hid hD
  have HUS := Lib.hid (show ∀ i j : Nat, us l g i j = true → g ≤ gr l i j from fun i j k => of_decide_eq_true k)
  have HALL := Lib.hid (fun (mb : Nat) (v : Value) (wr : World) (k : DvM w mb (wid l) (wid l * l.length) (fun x y => ∃ r ∈ ms.take ms.length, inR r x y) v wr) => k.all hD)
  obtain ⟨r0, hr0⟩ : ∃ r0, r0 = l[0]'(by have := hok.1; omega) := ⟨_, rfl⟩
  have hwd : r0.size = wid l := by rw [hr0]; exact (hok.row (by have := hok.1; omega)).1
  have hl1 := hok.1
  have hl48 := hok.2.1
  have hw1 := hok.2.2.1
  have hw48 := hok.2.2.2.1
  have hl0 : (0 : Int) < (l.length : Int) := by omega
  obtain ⟨n, hn⟩ : ∃ n, n = wid l := ⟨_, rfl⟩
  rw [← hn] at HDI HALL hwd hw1 hw48
  obtain ⟨N, hN⟩ : ∃ N, N = n * l.length := ⟨_, rfl⟩
  rw [← hN] at HALL
  have hNi : (n : Int) * (l.length : Int) = (N : Int) := by rw [hN]; push_cast; rfl
  have hNb : N ≤ 2304 := by rw [hN]; exact Nat.mul_le_mul hw48 hl48
  have HN := Lib.hid hN
  have hni : (r0.size : Int) = (n : Int) := by rw [hwd]
  rcases h with h0 | ⟨b, off, rfl, hlt, hcl0⟩
  · rw [h0] at hl1; simp at hl1
  have HC0 := Lib.hid (show ∀ W, Below w.heap.size w W → b < W.heap.size ∧ W.cell? ⟨b, off, none⟩ = some (.string r0) from fun W hW => ⟨Nat.lt_of_lt_of_le hlt hW.size, (hW.cell (p := ⟨b, off, none⟩) hlt).trans (by have := hcl0 0 hl1; rw [hr0]; exact this)⟩)
  obtain ⟨u, hu⟩ : ∃ u, u = us l g := ⟨_, rfl⟩
  rw [← hu] at HDI HUS
  have hmk := run_falses1 N (by omega)
  have HX0 := Lib.hid (ext_alloc w (.cells (cellsB N fun _ => false) 4))
  have HB0 := Lib.hid (OwB.new w N fun _ => false)
  obtain ⟨d1, d2⟩ := HC0.out w (Below.refl _ _)
  clear hr0 hu hn hN hcl0 hlt hok hm hD
  have hwn := hwd
  clear hwd
  go_enter Tryd.func33, Tryd.ntmps33
  go_upto_region 3 with (fail)
  obtain ⟨X, hX⟩ : ∃ X, X = w.alloc (.cells (cellsB N fun _ => false) 4) := ⟨_, rfl⟩
  obtain ⟨mb, hmb⟩ : ∃ mb, mb = w.heap.size := ⟨_, rfl⟩
  rw [← hX] at HX0 HB0 ⊢
  rw [← hmb] at HB0 ⊢
  have hwm : w.heap.size ≤ mb := by omega
  have HM0 := Lib.hid (show DvM w mb n N (fun x y => ∃ r ∈ ms.take 0, inR r x y) (.int .i64 0) X from ⟨_, HB0.out, fun k hk => by simp, by rw [unm_all, Nat.sub_self]; rfl, HX0.out⟩)
  have HWM := Lib.hid hwm
  clear hX hmb HX0 HB0 d1 d2 hmk hNi hwm
  go_wp2_with (fail)
  go_loopg [25, 9] ms.length (fun gg z v wr => ∃ i : Nat, z = .int .i64 i ∧ i ≤ ms.length ∧ gg = ms.length - i ∧ DvM w mb n N (fun x y => ∃ r ∈ ms.take i, inR r x y) v wr)
  case atStart => exact ⟨0, rfl, by omega, by omega, HM0.out⟩
  case round =>
    obtain ⟨i, rfl, hi, hgg, hm⟩ := hrel
    have HG := Lib.hid hgg
    have HM := Lib.hid hm
    have hbw : Below w.heap.size w wr := by obtain ⟨_, _, _, _, h4⟩ := hm; exact h4
    have HBW := Lib.hid hbw
    clear hgg hm HM0 hbw
    by_cases hil : i < ms.length
    · rcases HMS.out wr HBW.out with h0 | ⟨bm, om, rfl, hbm, hcl⟩
      · rw [h0] at hil; simp at hil
      · obtain ⟨c1, c2, c3, c4⟩ := hcl i hil
        have hrk := HDI.out.ok _ (List.getElem_mem hil)
        have HUR := Lib.hid (HDI.out.us_ _ (List.getElem_mem hil))
        have HTK := Lib.hid (show ms.take (i + 1) = ms.take i ++ [ms[i]] from List.take_succ_eq_append_getElem hil)
        have HDS := Lib.hid (show ∀ x y, inR ms[i] x y → ¬ ∃ r ∈ ms.take i, inR r x y from fun x y h1 ⟨r, h2, h3⟩ => by
          obtain ⟨j, hj, rfl⟩ := List.getElem_of_mem h2
          rw [List.length_take] at hj
          rw [List.getElem_take] at h3
          exact (List.pairwise_iff_getElem.1 HDI.out.dis) j i (by omega) hil (by omega) x y h3 h1)
        have HOR := Lib.hid (fun ip (e : i = ip + 1) => (show ∃ h1 : ip < ms.length, (ms[ip].y < ms[i].y ∨ (ms[ip].y = ms[i].y ∧ ms[ip].x < ms[i].x)) from ⟨by omega, by subst e; exact HDI.out.ord ip hil⟩))
        have HCP := Lib.hid hcl
        obtain ⟨r, hr⟩ : ∃ r, r = ms[i] := ⟨_, rfl⟩
        rw [← hr] at c1 c2 c3 c4 hrk HUR HTK HDS HOR
        obtain ⟨rx, ry, ra, rb⟩ := r
        dsimp only at c1 c2 c3 c4 hrk HOR
        have HXA := Lib.hid (ext_alloc wr (.cells #[.int .i64 (rx : Int), .int .i64 (ry : Int), .int .i64 (ra : Int), .int .i64 (rb : Int)] 31))
        have HD := Lib.hid (Bk.new 31 wr #[.int .i64 (rx : Int), .int .i64 (ry : Int), .int .i64 (ra : Int), .int .i64 (rb : Int)])
        clear hcl hr
        go_upto_region 7 with (fail)
        obtain ⟨Y, hY⟩ : ∃ Y, Y = wr.alloc (.cells #[.int .i64 (rx : Int), .int .i64 (ry : Int), .int .i64 (ra : Int), .int .i64 (rb : Int)] 31) := ⟨_, rfl⟩
        obtain ⟨e, he⟩ : ∃ e, e = wr.heap.size := ⟨_, rfl⟩
        have HNE := Lib.hid (show e ≠ mb from by have := HM.out.cell; omega)
        rw [← hY] at HXA HD ⊢
        rw [← he] at HD ⊢
        have HBY := Lib.hid (bext HBW.out HXA.out HBW.out.size)
        have HMY := Lib.hid (HM.out.ext HXA.out)
        have hbY : bm < Y.heap.size := Nat.lt_of_lt_of_le hbm HXA.out.size
        have HCPY := Lib.hid (fun j hj => (show Y.cell? ⟨bm, om + j * 4, none⟩ = some (.int .i64 (ms[j].x : Int)) ∧ Y.cell? ⟨bm, om + j * 4 + 1, none⟩ = some (.int .i64 (ms[j].y : Int)) ∧ Y.cell? ⟨bm, om + j * 4 + 2, none⟩ = some (.int .i64 (ms[j].a : Int)) ∧ Y.cell? ⟨bm, om + j * 4 + 3, none⟩ = some (.int .i64 (ms[j].b : Int)) from by
          obtain ⟨k1, k2, k3, k4⟩ := HCP.out j hj
          exact ⟨(HXA.out.cell (p := ⟨bm, _, none⟩) hbm).trans k1, (HXA.out.cell (p := ⟨bm, _, none⟩) hbm).trans k2, (HXA.out.cell (p := ⟨bm, _, none⟩) hbm).trans k3, (HXA.out.cell (p := ⟨bm, _, none⟩) hbm).trans k4⟩))
        clear hY he c1 c2 c3 c4 hbm HM HCP HXA
        have HF7 := Lib.hid (show ∀ W, Below Y.heap.size Y W → W.cell? ⟨e, 0, none⟩ = some (.int .i64 (rx : Int)) ∧ W.cell? ⟨e, 1, none⟩ = some (.int .i64 (ry : Int)) ∧ W.cell? ⟨e, 2, none⟩ = some (.int .i64 (ra : Int)) ∧ W.cell? ⟨e, 3, none⟩ = some (.int .i64 (rb : Int)) ∧ e < W.heap.size from fun W hW => by
          have hk := HD.out.ext hW
          exact ⟨hk.cell 0, hk.cell 1, hk.cell 2, hk.cell 3, hk.lt⟩)
        have HRC := Lib.hid (fun W => rrect_any (rx : Int) (ry : Int) (ra : Int) (rb : Int) W)
        rw [decide_eq_true (show RcOk (rx : Int) (ry : Int) (ra : Int) (rb : Int) from by unfold RcOk; omega)] at HRC
        have HLI := Lib.hid (fun W => rlies_any (rx : Int) (ry : Int) (ra : Int) (rb : Int) (n : Int) (l.length : Int) W (by omega) (by omega) (by omega) (by omega))
        rw [decide_eq_true (show RcIn (rx : Int) (ry : Int) (ra : Int) (rb : Int) (n : Int) (l.length : Int) from by unfold RcIn; omega)] at HLI
        go_cut [54] from 27 to 102 (fun z wx => z = .bool false ∧ Below Y.heap.size Y wx)
        case first =>
          rcases (show i = 0 ∨ ∃ ip, i = ip + 1 from by cases i with | zero => exact .inl rfl | succ k => exact .inr ⟨k, rfl⟩) with hi0 | ⟨ip, hip⟩
          · have hi3 : ¬ (0 : Int) < (i : Int) := by omega
            have hi4 : ¬ 0 < i := by omega
            clear hi0
            refine wp_region_T (S := (fun W => Below Y.heap.size Y W)) 24 (by kernel_rfl) (ext_drew _) (fun hHeld => ?_)
            refine wpAnyT_take (i := 0) (v := ?v1) [11, 10, 3, 1] rfl (by kernel_rfl) (fun _ _ _ h => h) (Or.inl ⟨by rfl, ?hy1⟩) hHeld ?rst1
            case hy1 => (intro wx hSw; obtain ⟨q1, q2, q3, q4, q5⟩ := HF7.out wx hSw; go_simp; try (with_reducible rfl))
            try simp only [List.getElem_toArray, List.getElem_cons_zero, Act.put, List.setIfInBounds_toArray, List.set_cons_zero, List.set_cons_succ]
            refine wpAnyT_one (i := 1) (by kernel_rfl) rfl (fun K hK => ?_)
            go_simp
            go_at_call 23
            refine (HRC.out _).mono ?_
            rintro e8 w8 ⟨rfl, hx8⟩
            have B8 := bext hHeld hx8 hHeld.size
            clear hx8
            refine hK.out _ _ (B8) (fun hHeld => ?_)
            clear hK K
            try simp only [List.getElem_toArray, List.getElem_cons_zero, List.getElem_cons_succ, Act.put, List.setIfInBounds_toArray, List.set_cons_zero, List.set_cons_succ]
            refine wpAnyT_take (i := 2) (v := ?v2) [11, 10, 3] rfl (by kernel_rfl) (fun _ _ _ h => h) (Or.inl ⟨by rfl, ?hy2⟩) hHeld ?rst2
            case hy2 => (intro wx hSw; obtain ⟨q1, q2, q3, q4, q5⟩ := HF7.out wx hSw; go_simp; try (with_reducible rfl))
            try simp only [List.getElem_toArray, List.getElem_cons_zero, List.getElem_cons_succ, Act.put, List.setIfInBounds_toArray, List.set_cons_zero, List.set_cons_succ]
            refine wpAnyT_take (i := 3) (v := ?v3) [11, 10] rfl (by kernel_rfl) (fun _ _ _ h => h) (Or.inl ⟨by rfl, ?hy3⟩) hHeld ?rst3
            case hy3 => (intro wx hSw; obtain ⟨q1, q2, q3, q4, q5⟩ := HF7.out wx hSw; go_simp; try (with_reducible rfl))
            try simp only [List.getElem_toArray, List.getElem_cons_zero, List.getElem_cons_succ, Act.put, List.setIfInBounds_toArray, List.set_cons_zero, List.set_cons_succ]
            refine wpAnyT_take (i := 4) (v := ?v4) [11, 8] rfl (by kernel_rfl) (fun _ _ _ h => h) (Or.inl ⟨by rfl, ?hy4⟩) hHeld ?rst4
            case hy4 => (intro wx hSw; obtain ⟨q1, q2, q3, q4, q5⟩ := HF7.out wx hSw; go_simp; try (with_reducible rfl))
            try simp only [List.getElem_toArray, List.getElem_cons_zero, List.getElem_cons_succ, Act.put, List.setIfInBounds_toArray, List.set_cons_zero, List.set_cons_succ]
            refine wpAnyT_take (i := 5) (v := ?v5) [11, 8] rfl (by kernel_rfl) (fun _ _ _ h => h) (Or.inl ⟨by rfl, ?hy5⟩) hHeld ?rst5
            case hy5 => (intro wx hSw; obtain ⟨q1, q2, q3, q4, q5⟩ := HF7.out wx hSw; go_simp; try (with_reducible rfl))
            try simp only [List.getElem_toArray, List.getElem_cons_zero, List.getElem_cons_succ, Act.put, List.setIfInBounds_toArray, List.set_cons_zero, List.set_cons_succ]
            refine wpAnyT_take (i := 6) (v := ?v6) [11, 8, 7] rfl (by kernel_rfl) (fun _ _ _ h => h) (Or.inl ⟨by rfl, ?hy6⟩) hHeld ?rst6
            case hy6 => (intro wx hSw; obtain ⟨q1, q2, q3, q4, q5⟩ := HF7.out wx hSw; go_simp; try (with_reducible rfl))
            try simp only [List.getElem_toArray, List.getElem_cons_zero, List.getElem_cons_succ, Act.put, List.setIfInBounds_toArray, List.set_cons_zero, List.set_cons_succ]
            refine wpAnyT_take (i := 7) (v := ?v7) [11, 8] rfl (by kernel_rfl) (fun _ _ _ h => h) (Or.inl ⟨by rfl, ?hy7⟩) hHeld ?rst7
            case hy7 => (intro wx hSw; obtain ⟨q1, q2, q3, q4, q5⟩ := HF7.out wx hSw; go_simp; try (with_reducible rfl))
            try simp only [List.getElem_toArray, List.getElem_cons_zero, List.getElem_cons_succ, Act.put, List.setIfInBounds_toArray, List.set_cons_zero, List.set_cons_succ]
            refine wpAnyT_one (i := 8) (by kernel_rfl) rfl (fun K hK => ?_)
            go_simp
            go_at_call 24
            refine (HLI.out _).mono ?_
            rintro e9 w9 ⟨rfl, hx9⟩
            have B9 := bext hHeld hx9 hHeld.size
            clear hx9
            refine hK.out _ _ (B9) (fun hHeld => ?_)
            clear hK K
            try simp only [List.getElem_toArray, List.getElem_cons_zero, List.getElem_cons_succ, Act.put, List.setIfInBounds_toArray, List.set_cons_zero, List.set_cons_succ]
            refine wpAnyT_take (i := 9) (v := ?v8) [11, 10] rfl (by kernel_rfl) (fun _ _ _ h => h) (Or.inl ⟨by rfl, ?hy8⟩) hHeld ?rst8
            case hy8 => (intro wx hSw; obtain ⟨q1, q2, q3, q4, q5⟩ := HF7.out wx hSw; go_simp; try (with_reducible rfl))
            try simp only [List.getElem_toArray, List.getElem_cons_zero, List.getElem_cons_succ, Act.put, List.setIfInBounds_toArray, List.set_cons_zero, List.set_cons_succ]
            refine wpAnyT_take (i := 10) (v := ?v9) [11] rfl (by kernel_rfl) (fun _ _ _ h => h) (Or.inl ⟨by rfl, ?hy9⟩) hHeld ?rst9
            case hy9 => (intro wx hSw; obtain ⟨q1, q2, q3, q4, q5⟩ := HF7.out wx hSw; go_simp; try (with_reducible rfl))
            try simp only [List.getElem_toArray, List.getElem_cons_zero, List.getElem_cons_succ, Act.put, List.setIfInBounds_toArray, List.set_cons_zero, List.set_cons_succ]
            refine wpAnyT_take (i := 11) (v := ?v10) [] rfl (by kernel_rfl) (fun _ _ _ h => h) (Or.inl ⟨by rfl, ?hy10⟩) hHeld ?rst10
            case hy10 => (intro wx hSw; obtain ⟨q1, q2, q3, q4, q5⟩ := HF7.out wx hSw; go_simp; try (with_reducible rfl))
            try simp only [List.getElem_toArray, List.getElem_cons_zero, List.getElem_cons_succ, Act.put, List.setIfInBounds_toArray, List.set_cons_zero, List.set_cons_succ]
            refine wpAnyT_take (i := 12) (v := ?v11) [23, 14, 13] rfl (by kernel_rfl) (fun _ _ _ h => h) (Or.inl ⟨by rfl, ?hy11⟩) hHeld ?rst11
            case hy11 => (intro wx hSw; obtain ⟨q1, q2, q3, q4, q5⟩ := HF7.out wx hSw; go_simp; try (with_reducible rfl))
            try simp only [List.getElem_toArray, List.getElem_cons_zero, List.getElem_cons_succ, Act.put, List.setIfInBounds_toArray, List.set_cons_zero, List.set_cons_succ]
            refine wpAnyT_take (i := 13) (v := ?v12) [23, 14] rfl (by kernel_rfl) (fun _ _ _ h => h) (Or.inl ⟨by rfl, ?hy12⟩) hHeld ?rst12
            case hy12 => (intro wx hSw; obtain ⟨q1, q2, q3, q4, q5⟩ := HF7.out wx hSw; go_simp; try (with_reducible rfl))
            try simp only [List.getElem_toArray, List.getElem_cons_zero, List.getElem_cons_succ, Act.put, List.setIfInBounds_toArray, List.set_cons_zero, List.set_cons_succ]
            refine wpAnyT_take (i := 14) (v := ?v13) [23] rfl (by kernel_rfl) (fun _ _ _ h => h) (Or.inl ⟨by rfl, ?hy13⟩) hHeld ?rst13
            case hy13 => (intro wx hSw; obtain ⟨q1, q2, q3, q4, q5⟩ := HF7.out wx hSw; go_simp; try (with_reducible rfl))
            try simp only [List.getElem_toArray, List.getElem_cons_zero, List.getElem_cons_succ, Act.put, List.setIfInBounds_toArray, List.set_cons_zero, List.set_cons_succ]
            refine wpAnyT_take (i := 15) (v := undef) [23, 22, 21, 19, 18] rfl (by kernel_rfl) (fun _ _ _ h => h) (Or.inr ⟨by rfl, rfl⟩) hHeld ?_
            try simp only [List.getElem_toArray, List.getElem_cons_zero, List.getElem_cons_succ, Act.put, List.setIfInBounds_toArray, List.set_cons_zero, List.set_cons_succ]
            refine wpAnyT_take (i := 16) (v := undef) [23, 22, 21, 19, 18, 17] rfl (by kernel_rfl) (fun _ _ _ h => h) (Or.inr ⟨by rfl, rfl⟩) hHeld ?_
            try simp only [List.getElem_toArray, List.getElem_cons_zero, List.getElem_cons_succ, Act.put, List.setIfInBounds_toArray, List.set_cons_zero, List.set_cons_succ]
            refine wpAnyT_take (i := 17) (v := undef) [23, 22, 21, 19, 18] rfl (by kernel_rfl) (fun _ _ _ h => h) (Or.inr ⟨by rfl, rfl⟩) hHeld ?_
            try simp only [List.getElem_toArray, List.getElem_cons_zero, List.getElem_cons_succ, Act.put, List.setIfInBounds_toArray, List.set_cons_zero, List.set_cons_succ]
            refine wpAnyT_take (i := 18) (v := undef) [23, 22, 21, 19] rfl (by kernel_rfl) (fun _ _ _ h => h) (Or.inr ⟨by rfl, rfl⟩) hHeld ?_
            try simp only [List.getElem_toArray, List.getElem_cons_zero, List.getElem_cons_succ, Act.put, List.setIfInBounds_toArray, List.set_cons_zero, List.set_cons_succ]
            refine wpAnyT_take (i := 19) (v := undef) [23, 22, 21] rfl (by kernel_rfl) (fun _ _ _ h => h) (Or.inr ⟨by rfl, rfl⟩) hHeld ?_
            try simp only [List.getElem_toArray, List.getElem_cons_zero, List.getElem_cons_succ, Act.put, List.setIfInBounds_toArray, List.set_cons_zero, List.set_cons_succ]
            refine wpAnyT_take (i := 20) (v := undef) [23, 22, 21] rfl (by kernel_rfl) (fun _ _ _ h => h) (Or.inr ⟨by rfl, rfl⟩) hHeld ?_
            try simp only [List.getElem_toArray, List.getElem_cons_zero, List.getElem_cons_succ, Act.put, List.setIfInBounds_toArray, List.set_cons_zero, List.set_cons_succ]
            refine wpAnyT_take (i := 21) (v := undef) [23, 22] rfl (by kernel_rfl) (fun _ _ _ h => h) (Or.inr ⟨by rfl, rfl⟩) hHeld ?_
            try simp only [List.getElem_toArray, List.getElem_cons_zero, List.getElem_cons_succ, Act.put, List.setIfInBounds_toArray, List.set_cons_zero, List.set_cons_succ]
            refine wpAnyT_take (i := 22) (v := undef) [23] rfl (by kernel_rfl) (fun _ _ _ h => h) (Or.inr ⟨by rfl, rfl⟩) hHeld ?_
            try simp only [List.getElem_toArray, List.getElem_cons_zero, List.getElem_cons_succ, Act.put, List.setIfInBounds_toArray, List.set_cons_zero, List.set_cons_succ]
            refine wpAnyT_take (i := 23) (v := ?v14) [] rfl (by kernel_rfl) (fun _ _ _ h => h) (Or.inl ⟨by rfl, ?hy14⟩) hHeld ?rst14
            case hy14 => (intro wx hSw; obtain ⟨q1, q2, q3, q4, q5⟩ := HF7.out wx hSw; go_simp; try (with_reducible rfl))
            try simp only [List.getElem_toArray, List.getElem_cons_zero, List.getElem_cons_succ, Act.put, List.setIfInBounds_toArray, List.set_cons_zero, List.set_cons_succ]
            refine wpAnyT_last (by kernel_rfl) (by kernel_rfl) rfl (fun K hK => ?_)
            go_simp
            refine hK.out _ _ ?_
            clear hK K
            go_wp2
            go_meet
            case rel => exact ⟨rfl, by assumption⟩
          · obtain ⟨hq1, hq2⟩ := HOR.out ip hip
            obtain ⟨k1, k2, k3, k4⟩ := HCPY.out ip hq1
            obtain ⟨s, hs⟩ : ∃ s, s = ms[ip] := ⟨_, rfl⟩
            rw [← hs] at hq2 k1 k2 k3 k4
            obtain ⟨sx, sy, sa, sb⟩ := s
            dsimp only at hq2 k1 k2 k3 k4
            have HFP := Lib.hid (show ∀ W, Below Y.heap.size Y W → W.cell? ⟨bm, om + ip * 4, none⟩ = some (.int .i64 (sx : Int)) ∧ W.cell? ⟨bm, om + ip * 4 + 1, none⟩ = some (.int .i64 (sy : Int)) ∧ W.cell? ⟨bm, om + ip * 4 + 2, none⟩ = some (.int .i64 (sa : Int)) ∧ W.cell? ⟨bm, om + ip * 4 + 3, none⟩ = some (.int .i64 (sb : Int)) ∧ bm < W.heap.size from fun W hW =>
              ⟨(hW.cell (p := ⟨bm, _, none⟩) hbY).trans k1, (hW.cell (p := ⟨bm, _, none⟩) hbY).trans k2, (hW.cell (p := ⟨bm, _, none⟩) hbY).trans k3, (hW.cell (p := ⟨bm, _, none⟩) hbY).trans k4, Nat.lt_of_lt_of_le hbY hW.size⟩)
            have HBF := Lib.hid (fun W => rbefore_any (sx : Int) (sy : Int) (sa : Int) (sb : Int) (rx : Int) (ry : Int) (ra : Int) (rb : Int) W (by omega))
            have hi1 : (i : Int) - 1 = (ip : Int) := by omega
            have hi2 : IntKind.i64.wrap (ip : Int) = (ip : Int) := IntWalk.i64_in _ ⟨by omega, by omega⟩
            have hi3 : (0 : Int) < (i : Int) := by omega
            have hi4 : 0 < i := by omega
            have hi5 : (ip : Int) < (ms.length : Int) := by omega
            clear hs hip hq2 k1 k2 k3 k4
            refine wp_region_T (S := (fun W => Below Y.heap.size Y W)) 24 (by kernel_rfl) (ext_drew _) (fun hHeld => ?_)
            refine wpAnyT_take (i := 0) (v := ?v15) [11, 10, 3, 1] rfl (by kernel_rfl) (fun _ _ _ h => h) (Or.inl ⟨by rfl, ?hy15⟩) hHeld ?rst15
            case hy15 => (intro wx hSw; obtain ⟨q1, q2, q3, q4, q5⟩ := HF7.out wx hSw; obtain ⟨p1, p2, p3, p4, p5⟩ := HFP.out wx hSw; go_simp; try (with_reducible rfl))
            try simp only [List.getElem_toArray, List.getElem_cons_zero, Act.put, List.setIfInBounds_toArray, List.set_cons_zero, List.set_cons_succ]
            refine wpAnyT_one (i := 1) (by kernel_rfl) rfl (fun K hK => ?_)
            go_simp
            go_at_call 23
            refine (HRC.out _).mono ?_
            rintro e8 w8 ⟨rfl, hx8⟩
            have B8 := bext hHeld hx8 hHeld.size
            clear hx8
            refine hK.out _ _ (B8) (fun hHeld => ?_)
            clear hK K
            try simp only [List.getElem_toArray, List.getElem_cons_zero, List.getElem_cons_succ, Act.put, List.setIfInBounds_toArray, List.set_cons_zero, List.set_cons_succ]
            refine wpAnyT_take (i := 2) (v := ?v16) [11, 10, 3] rfl (by kernel_rfl) (fun _ _ _ h => h) (Or.inl ⟨by rfl, ?hy16⟩) hHeld ?rst16
            case hy16 => (intro wx hSw; obtain ⟨q1, q2, q3, q4, q5⟩ := HF7.out wx hSw; obtain ⟨p1, p2, p3, p4, p5⟩ := HFP.out wx hSw; go_simp; try (with_reducible rfl))
            try simp only [List.getElem_toArray, List.getElem_cons_zero, List.getElem_cons_succ, Act.put, List.setIfInBounds_toArray, List.set_cons_zero, List.set_cons_succ]
            refine wpAnyT_take (i := 3) (v := ?v17) [11, 10] rfl (by kernel_rfl) (fun _ _ _ h => h) (Or.inl ⟨by rfl, ?hy17⟩) hHeld ?rst17
            case hy17 => (intro wx hSw; obtain ⟨q1, q2, q3, q4, q5⟩ := HF7.out wx hSw; obtain ⟨p1, p2, p3, p4, p5⟩ := HFP.out wx hSw; go_simp; try (with_reducible rfl))
            try simp only [List.getElem_toArray, List.getElem_cons_zero, List.getElem_cons_succ, Act.put, List.setIfInBounds_toArray, List.set_cons_zero, List.set_cons_succ]
            refine wpAnyT_take (i := 4) (v := ?v18) [11, 8] rfl (by kernel_rfl) (fun _ _ _ h => h) (Or.inl ⟨by rfl, ?hy18⟩) hHeld ?rst18
            case hy18 => (intro wx hSw; obtain ⟨q1, q2, q3, q4, q5⟩ := HF7.out wx hSw; obtain ⟨p1, p2, p3, p4, p5⟩ := HFP.out wx hSw; go_simp; try (with_reducible rfl))
            try simp only [List.getElem_toArray, List.getElem_cons_zero, List.getElem_cons_succ, Act.put, List.setIfInBounds_toArray, List.set_cons_zero, List.set_cons_succ]
            refine wpAnyT_take (i := 5) (v := ?v19) [11, 8] rfl (by kernel_rfl) (fun _ _ _ h => h) (Or.inl ⟨by rfl, ?hy19⟩) hHeld ?rst19
            case hy19 => (intro wx hSw; obtain ⟨q1, q2, q3, q4, q5⟩ := HF7.out wx hSw; obtain ⟨p1, p2, p3, p4, p5⟩ := HFP.out wx hSw; go_simp; try (with_reducible rfl))
            try simp only [List.getElem_toArray, List.getElem_cons_zero, List.getElem_cons_succ, Act.put, List.setIfInBounds_toArray, List.set_cons_zero, List.set_cons_succ]
            refine wpAnyT_take (i := 6) (v := ?v20) [11, 8, 7] rfl (by kernel_rfl) (fun _ _ _ h => h) (Or.inl ⟨by rfl, ?hy20⟩) hHeld ?rst20
            case hy20 => (intro wx hSw; obtain ⟨q1, q2, q3, q4, q5⟩ := HF7.out wx hSw; obtain ⟨p1, p2, p3, p4, p5⟩ := HFP.out wx hSw; go_simp; try (with_reducible rfl))
            try simp only [List.getElem_toArray, List.getElem_cons_zero, List.getElem_cons_succ, Act.put, List.setIfInBounds_toArray, List.set_cons_zero, List.set_cons_succ]
            refine wpAnyT_take (i := 7) (v := ?v21) [11, 8] rfl (by kernel_rfl) (fun _ _ _ h => h) (Or.inl ⟨by rfl, ?hy21⟩) hHeld ?rst21
            case hy21 => (intro wx hSw; obtain ⟨q1, q2, q3, q4, q5⟩ := HF7.out wx hSw; obtain ⟨p1, p2, p3, p4, p5⟩ := HFP.out wx hSw; go_simp; try (with_reducible rfl))
            try simp only [List.getElem_toArray, List.getElem_cons_zero, List.getElem_cons_succ, Act.put, List.setIfInBounds_toArray, List.set_cons_zero, List.set_cons_succ]
            refine wpAnyT_one (i := 8) (by kernel_rfl) rfl (fun K hK => ?_)
            go_simp
            go_at_call 24
            refine (HLI.out _).mono ?_
            rintro e9 w9 ⟨rfl, hx9⟩
            have B9 := bext hHeld hx9 hHeld.size
            clear hx9
            refine hK.out _ _ (B9) (fun hHeld => ?_)
            clear hK K
            try simp only [List.getElem_toArray, List.getElem_cons_zero, List.getElem_cons_succ, Act.put, List.setIfInBounds_toArray, List.set_cons_zero, List.set_cons_succ]
            refine wpAnyT_take (i := 9) (v := ?v22) [11, 10] rfl (by kernel_rfl) (fun _ _ _ h => h) (Or.inl ⟨by rfl, ?hy22⟩) hHeld ?rst22
            case hy22 => (intro wx hSw; obtain ⟨q1, q2, q3, q4, q5⟩ := HF7.out wx hSw; obtain ⟨p1, p2, p3, p4, p5⟩ := HFP.out wx hSw; go_simp; try (with_reducible rfl))
            try simp only [List.getElem_toArray, List.getElem_cons_zero, List.getElem_cons_succ, Act.put, List.setIfInBounds_toArray, List.set_cons_zero, List.set_cons_succ]
            refine wpAnyT_take (i := 10) (v := ?v23) [11] rfl (by kernel_rfl) (fun _ _ _ h => h) (Or.inl ⟨by rfl, ?hy23⟩) hHeld ?rst23
            case hy23 => (intro wx hSw; obtain ⟨q1, q2, q3, q4, q5⟩ := HF7.out wx hSw; obtain ⟨p1, p2, p3, p4, p5⟩ := HFP.out wx hSw; go_simp; try (with_reducible rfl))
            try simp only [List.getElem_toArray, List.getElem_cons_zero, List.getElem_cons_succ, Act.put, List.setIfInBounds_toArray, List.set_cons_zero, List.set_cons_succ]
            refine wpAnyT_take (i := 11) (v := ?v24) [] rfl (by kernel_rfl) (fun _ _ _ h => h) (Or.inl ⟨by rfl, ?hy24⟩) hHeld ?rst24
            case hy24 => (intro wx hSw; obtain ⟨q1, q2, q3, q4, q5⟩ := HF7.out wx hSw; obtain ⟨p1, p2, p3, p4, p5⟩ := HFP.out wx hSw; go_simp; try (with_reducible rfl))
            try simp only [List.getElem_toArray, List.getElem_cons_zero, List.getElem_cons_succ, Act.put, List.setIfInBounds_toArray, List.set_cons_zero, List.set_cons_succ]
            refine wpAnyT_take (i := 12) (v := ?v25) [23, 14, 13] rfl (by kernel_rfl) (fun _ _ _ h => h) (Or.inl ⟨by rfl, ?hy25⟩) hHeld ?rst25
            case hy25 => (intro wx hSw; obtain ⟨q1, q2, q3, q4, q5⟩ := HF7.out wx hSw; obtain ⟨p1, p2, p3, p4, p5⟩ := HFP.out wx hSw; go_simp; try (with_reducible rfl))
            try simp only [List.getElem_toArray, List.getElem_cons_zero, List.getElem_cons_succ, Act.put, List.setIfInBounds_toArray, List.set_cons_zero, List.set_cons_succ]
            refine wpAnyT_take (i := 13) (v := ?v26) [23, 14] rfl (by kernel_rfl) (fun _ _ _ h => h) (Or.inl ⟨by rfl, ?hy26⟩) hHeld ?rst26
            case hy26 => (intro wx hSw; obtain ⟨q1, q2, q3, q4, q5⟩ := HF7.out wx hSw; obtain ⟨p1, p2, p3, p4, p5⟩ := HFP.out wx hSw; go_simp; try (with_reducible rfl))
            try simp only [List.getElem_toArray, List.getElem_cons_zero, List.getElem_cons_succ, Act.put, List.setIfInBounds_toArray, List.set_cons_zero, List.set_cons_succ]
            refine wpAnyT_take (i := 14) (v := ?v27) [23] rfl (by kernel_rfl) (fun _ _ _ h => h) (Or.inl ⟨by rfl, ?hy27⟩) hHeld ?rst27
            case hy27 => (intro wx hSw; obtain ⟨q1, q2, q3, q4, q5⟩ := HF7.out wx hSw; obtain ⟨p1, p2, p3, p4, p5⟩ := HFP.out wx hSw; go_simp; try (with_reducible rfl))
            try simp only [List.getElem_toArray, List.getElem_cons_zero, List.getElem_cons_succ, Act.put, List.setIfInBounds_toArray, List.set_cons_zero, List.set_cons_succ]
            refine wpAnyT_take (i := 15) (v := ?v28) [23, 22, 21, 19, 18] rfl (by kernel_rfl) (fun _ _ _ h => h) (Or.inl ⟨by rfl, ?hy28⟩) hHeld ?rst28
            case hy28 => (intro wx hSw; obtain ⟨q1, q2, q3, q4, q5⟩ := HF7.out wx hSw; obtain ⟨p1, p2, p3, p4, p5⟩ := HFP.out wx hSw; go_simp; try (with_reducible rfl))
            try simp only [List.getElem_toArray, List.getElem_cons_zero, List.getElem_cons_succ, Act.put, List.setIfInBounds_toArray, List.set_cons_zero, List.set_cons_succ]
            refine wpAnyT_take (i := 16) (v := ?v29) [23, 22, 21, 19, 18, 17] rfl (by kernel_rfl) (fun _ _ _ h => h) (Or.inl ⟨by rfl, ?hy29⟩) hHeld ?rst29
            case hy29 => (intro wx hSw; obtain ⟨q1, q2, q3, q4, q5⟩ := HF7.out wx hSw; obtain ⟨p1, p2, p3, p4, p5⟩ := HFP.out wx hSw; go_simp; try (with_reducible rfl))
            try simp only [List.getElem_toArray, List.getElem_cons_zero, List.getElem_cons_succ, Act.put, List.setIfInBounds_toArray, List.set_cons_zero, List.set_cons_succ]
            refine wpAnyT_take (i := 17) (v := ?v30) [23, 22, 21, 19, 18] rfl (by kernel_rfl) (fun _ _ _ h => h) (Or.inl ⟨by rfl, ?hy30⟩) hHeld ?rst30
            case hy30 => (intro wx hSw; obtain ⟨q1, q2, q3, q4, q5⟩ := HF7.out wx hSw; obtain ⟨p1, p2, p3, p4, p5⟩ := HFP.out wx hSw; go_simp; try (with_reducible rfl))
            try simp only [List.getElem_toArray, List.getElem_cons_zero, List.getElem_cons_succ, Act.put, List.setIfInBounds_toArray, List.set_cons_zero, List.set_cons_succ]
            refine wpAnyT_take (i := 18) (v := ?v31) [23, 22, 21, 19] rfl (by kernel_rfl) (fun _ _ _ h => h) (Or.inl ⟨by rfl, ?hy31⟩) hHeld ?rst31
            case hy31 => (intro wx hSw; obtain ⟨q1, q2, q3, q4, q5⟩ := HF7.out wx hSw; obtain ⟨p1, p2, p3, p4, p5⟩ := HFP.out wx hSw; go_simp; try (with_reducible rfl))
            try simp only [List.getElem_toArray, List.getElem_cons_zero, List.getElem_cons_succ, Act.put, List.setIfInBounds_toArray, List.set_cons_zero, List.set_cons_succ]
            refine wpAnyT_take (i := 19) (v := ?v32) [23, 22, 21] rfl (by kernel_rfl) (fun _ _ _ h => h) (Or.inl ⟨by rfl, ?hy32⟩) hHeld ?rst32
            case hy32 => (intro wx hSw; obtain ⟨q1, q2, q3, q4, q5⟩ := HF7.out wx hSw; obtain ⟨p1, p2, p3, p4, p5⟩ := HFP.out wx hSw; go_simp; try (with_reducible rfl))
            try simp only [List.getElem_toArray, List.getElem_cons_zero, List.getElem_cons_succ, Act.put, List.setIfInBounds_toArray, List.set_cons_zero, List.set_cons_succ]
            refine wpAnyT_take (i := 20) (v := ?v33) [23, 22, 21] rfl (by kernel_rfl) (fun _ _ _ h => h) (Or.inl ⟨by rfl, ?hy33⟩) hHeld ?rst33
            case hy33 => (intro wx hSw; obtain ⟨q1, q2, q3, q4, q5⟩ := HF7.out wx hSw; obtain ⟨p1, p2, p3, p4, p5⟩ := HFP.out wx hSw; go_simp; try (with_reducible rfl))
            try simp only [List.getElem_toArray, List.getElem_cons_zero, List.getElem_cons_succ, Act.put, List.setIfInBounds_toArray, List.set_cons_zero, List.set_cons_succ]
            refine wpAnyT_one (i := 21) (by kernel_rfl) rfl (fun K hK => ?_)
            go_simp
            go_at_call 72
            refine (HBF.out _).mono ?_
            rintro e10 w10 ⟨rfl, hx10⟩
            have B10 := bext hHeld hx10 hHeld.size
            clear hx10
            refine hK.out _ _ (B10) (fun hHeld => ?_)
            clear hK K
            try simp only [List.getElem_toArray, List.getElem_cons_zero, List.getElem_cons_succ, Act.put, List.setIfInBounds_toArray, List.set_cons_zero, List.set_cons_succ]
            refine wpAnyT_take (i := 22) (v := ?v34) [23] rfl (by kernel_rfl) (fun _ _ _ h => h) (Or.inl ⟨by rfl, ?hy34⟩) hHeld ?rst34
            case hy34 => (intro wx hSw; obtain ⟨q1, q2, q3, q4, q5⟩ := HF7.out wx hSw; obtain ⟨p1, p2, p3, p4, p5⟩ := HFP.out wx hSw; go_simp; try (with_reducible rfl))
            try simp only [List.getElem_toArray, List.getElem_cons_zero, List.getElem_cons_succ, Act.put, List.setIfInBounds_toArray, List.set_cons_zero, List.set_cons_succ]
            refine wpAnyT_take (i := 23) (v := ?v35) [] rfl (by kernel_rfl) (fun _ _ _ h => h) (Or.inl ⟨by rfl, ?hy35⟩) hHeld ?rst35
            case hy35 => (intro wx hSw; obtain ⟨q1, q2, q3, q4, q5⟩ := HF7.out wx hSw; obtain ⟨p1, p2, p3, p4, p5⟩ := HFP.out wx hSw; go_simp; try (with_reducible rfl))
            try simp only [List.getElem_toArray, List.getElem_cons_zero, List.getElem_cons_succ, Act.put, List.setIfInBounds_toArray, List.set_cons_zero, List.set_cons_succ]
            refine wpAnyT_last (by kernel_rfl) (by kernel_rfl) rfl (fun K hK => ?_)
            go_simp
            refine hK.out _ _ ?_
            clear hK K
            go_wp2
            go_meet
            case rel => exact ⟨rfl, by assumption⟩
        case rest =>
          obtain ⟨rfl, hcw⟩ := hcut
          have HMV := Lib.hid (HMY.out.ext hcw)
          have HDV := Lib.hid (HD.out.ext hcw)
          obtain ⟨V, hV⟩ : ∃ V, V = wc := ⟨_, rfl⟩
          rw [← hV] at HMV HDV ⊢
          clear hV hcw HMY HD HF7 HRC HLI HCPY HBY hbY
          rename_i hKc
          refine hKc _ _ ?_
          clear hKc
          obtain ⟨f1, f2, f3⟩ := HDV.out.facts
          go_wp2_with (fail)
          clear f1 f2 f3
          go_loopg [12, 9] rb (fun gg z v wr => ∃ yy : Nat, z = .int .i64 yy ∧ ry ≤ yy ∧ yy ≤ ry + rb ∧ gg = ry + rb - yy ∧ DvM w mb n N (fun x y => (∃ r ∈ ms.take i, inR r x y) ∨ (inR ⟨rx, ry, ra, rb⟩ x y ∧ y < yy)) v wr ∧ Bk 31 wr e #[.int .i64 (rx : Int), .int .i64 (ry : Int), .int .i64 (ra : Int), .int .i64 (rb : Int)])
          case atStart => exact ⟨ry, rfl, by omega, by omega, by omega, HMV.out.congr fun x y => ⟨fun h => .inl h, fun h => h.elim id fun h => by unfold inR at h; dsimp only at h; omega⟩, HDV.out⟩
          case round =>
            obtain ⟨yy, rfl, hy1, hy2, hgg, hm, hbk⟩ := hrel
            have HGY := Lib.hid hgg
            have HMA := Lib.hid hm
            have HDA := Lib.hid hbk
            obtain ⟨f1, f2, f3⟩ := hbk.facts
            clear hgg hm hbk HMV HDV
            by_cases hyl : yy < ry + rb
            · have hyi : (yy : Int) < (ry : Int) + (rb : Int) := by omega
              have HYL := Lib.hid hyl
              go_wp2_with (fail)
              clear f1 f2 f3 hyl hyi
              go_loopg [13, 9] ra (fun gg z v wr => ∃ xx : Nat, z = .int .i64 xx ∧ rx ≤ xx ∧ xx ≤ rx + ra ∧ gg = rx + ra - xx ∧ DvM w mb n N (fun x y => (∃ r ∈ ms.take i, inR r x y) ∨ (inR ⟨rx, ry, ra, rb⟩ x y ∧ (y < yy ∨ (y = yy ∧ x < xx)))) v wr ∧ Bk 31 wr e #[.int .i64 (rx : Int), .int .i64 (ry : Int), .int .i64 (ra : Int), .int .i64 (rb : Int)])
              case atStart => exact ⟨rx, rfl, by omega, by omega, by omega, HMA.out.congr fun x y => ⟨fun h => h.elim (fun h => .inl h) fun h => .inr ⟨h.1, .inl h.2⟩, fun h => h.elim (fun h => .inl h) fun h => .inr ⟨h.1, by have := h.1; unfold inR at this; dsimp only at this; omega⟩⟩, HDA.out⟩
              case round =>
                obtain ⟨xx, rfl, hx1, hx2, hgg, hm, hbk⟩ := hrel
                have HGX := Lib.hid hgg
                have HMB := Lib.hid hm
                have HDB := Lib.hid hbk
                obtain ⟨f1, f2, f3⟩ := hbk.facts
                have hbw : Below w.heap.size w wr := by obtain ⟨_, _, _, _, h4⟩ := hm; exact h4
                clear hgg hm hbk HMA HDA
                by_cases hxl : xx < rx + ra
                · have hxi : (xx : Int) < (rx : Int) + (ra : Int) := by omega
                  have hyl := HYL.out
                  have hin : inR ⟨rx, ry, ra, rb⟩ xx yy := ⟨hx1, hxl, hy1, hyl⟩
                  obtain ⟨q, hq⟩ : ∃ q, q = n * yy := ⟨_, rfl⟩
                  have hqi : (yy : Int) * (n : Int) = (q : Int) := by rw [hq, Int.mul_comm]; push_cast; rfl
                  have hqb : q + n ≤ N := by rw [HN.out, hq, ← Nat.mul_succ]; exact Nat.mul_le_mul_left n (by omega)
                  obtain ⟨k, hk⟩ : ∃ k, k = q + xx := ⟨_, rfl⟩
                  have hki : (q : Int) + (xx : Int) = (k : Int) := by omega
                  have hkN : k < N := by omega
                  obtain ⟨c, hv, hcN, m1, m2, m3, hst⟩ := HMB.out.step HWM.out (x := xx) (y := yy) (k := k) (by omega) (by rw [hk, hq]) hkN (by
                    rintro (h | ⟨_, h⟩)
                    · exact HDS.out xx yy hin h
                    · omega)
                  subst hv
                  have HST := Lib.hid hst
                  have HDC := Lib.hid (HDB.out.set_ne (k := mb) (j := k) HNE.out (.bool true))
                  have HGC := Lib.hid (HGR.out (xx : Int) (yy : Int) wr hbw)
                  have hgz := HUS.out xx yy (HUR.out xx yy hin)
                  obtain ⟨z, hz⟩ : ∃ z, z = gr l (xx : Int) (yy : Int) := ⟨_, rfl⟩
                  rw [← hz] at HGC hgz
                  have HIN := Lib.hid hin
                  have m4 := m2 k
                  clear hst hq hk hqb hbw hz hin m2
                  go_wp2_with (go_at_call 34; refine (HGC.out).mono ?_; rintro e5 w5 ⟨rfl, rfl⟩)
                  go_roundg (rx + ra - (xx + 1))
                  case measure => have := HGX.out; omega
                  case rel => exact ⟨xx + 1, by go_num, by omega, by omega, rfl, HST.out.congr fun x y => ⟨fun h => by
                    rcases h with (h | h) | h
                    · exact .inl h
                    · exact .inr ⟨h.1, by omega⟩
                    · obtain ⟨rfl, rfl⟩ := h; exact .inr ⟨HIN.out, by omega⟩, fun h => by
                    rcases h with h | h
                    · exact .inl (.inl h)
                    · by_cases e : x = xx ∧ y = yy
                      · exact .inr e
                      · exact .inl (.inr ⟨h.1, by omega⟩)⟩, HDC.out⟩
                · have hxi : ¬ (xx : Int) < (rx : Int) + (ra : Int) := by omega
                  clear hbw
                  go_wp2
                  go_roundg (ry + rb - (yy + 1))
                  case measure => have := HGY.out; have := HYL.out; omega
                  case rel => exact ⟨yy + 1, by go_num, by omega, by have := HYL.out; omega, rfl, HMB.out.congr fun x y => ⟨fun h => h.elim (fun h => .inl h) fun h => .inr ⟨h.1, by omega⟩, fun h => h.elim (fun h => .inl h) fun h => .inr ⟨h.1, by have := h.1; unfold inR at this; dsimp only at this; omega⟩⟩, HDB.out⟩
            · have hyi : ¬ (yy : Int) < (ry : Int) + (rb : Int) := by omega
              go_wp2
              go_roundg (ms.length - (i + 1))
              case measure => have := HG.out; omega
              case rel => exact ⟨i + 1, by go_num, by omega, rfl, HMA.out.congr fun x y => ⟨fun h => by
                rw [HTK.out]
                rcases h with ⟨r, h1, h2⟩ | h
                · exact ⟨r, List.mem_append.2 (.inl h1), h2⟩
                · exact ⟨_, List.mem_append.2 (.inr (List.mem_singleton.2 rfl)), h.1⟩, fun ⟨r, h1, h2⟩ => by
                rw [HTK.out] at h1
                rcases List.mem_append.1 h1 with h1 | h1
                · exact .inl ⟨r, h1, h2⟩
                · rw [List.mem_singleton.1 h1] at h2
                  exact .inr ⟨h2, by unfold inR at h2; dsimp only at h2; omega⟩⟩⟩
    · obtain rfl : i = ms.length := by omega
      have hv := HALL.out _ _ _ HM.out
      obtain ⟨c, hc⟩ : ∃ c, c = (uL l g).length := ⟨_, rfl⟩
      rw [← hc] at hv
      subst hv
      have HUC := Lib.hid (HUL.out wr HBW.out)
      rw [← hc] at HUC
      clear hc
      go_wp2_with (go_at_call 73; refine (HUC.out).mono ?_; rintro e5 w5 ⟨A5, c5, rfl, k5, k6, _, hx5⟩; have HX5 := Lib.hid hx5; clear hx5)
      go_ret
      exact ⟨rfl, bext HBW.out HX5.out HBW.out.size⟩
end Go.Proofs.YtmgofdgbenfjmaaDoor
