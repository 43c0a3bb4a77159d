/- The reference's usable, box and Trim walked. Conditions: each string's length is an int. -/
import Derived.Test.YtmgofdgbenfjmaaDoorTr
import Derived.Test.YtmgofdgbenfjmaaDoorRg
namespace Go.Proofs.YtmgofdgbenfjmaaDoor
open Go.RowKit

set_option maxRecDepth 100000 in
set_option maxHeartbeats 4000000 in
theorem rusable_any (A : Option Addr) (cap : Nat) (l : List ByteArray) (g : Int) (w : World) (hok : SkOk l) (h : TSl w A l) :
    Calls Tryd.prog 73 #[.slice A l.length cap, .int .i64 g] w fun e w' => ∃ A2 cap2, e = .returned (.slice A2 (uL l g).length cap2) ∧ (uL l g).length ≤ cap2 ∧ cap2 ≤ maxLen ∧ DSl w.heap.size w' A2 (uL l g) ∧ Below w.heap.size w w' := by
  have HOK := Lib.hid hok
  have HGR := Lib.hid (fun x y W (hW : Below w.heap.size w W) => rgrade_any A cap l x y W hok (h.ext hW))
  rcases h with h0 | ⟨b, off, rfl, hblt, hcl⟩
  · have h1 := hok.1; rw [h0] at h1; simp at h1
  have HC := Lib.hid (show ∀ W, Below w.heap.size w W → b < W.heap.size ∧ ∃ r0 : ByteArray, W.cell? ⟨b, off, none⟩ = some (.string r0) ∧ r0.size = wid l from fun W hW => ⟨Nat.lt_of_lt_of_le hblt hW.size, first_row hok (fun j hj => (hW.cell (p := ⟨b, off + j, none⟩) hblt).trans (hcl j hj))⟩)
  have hl1 := hok.1
  have hl48 := hok.2.1
  have hw48 := hok.2.2.2.1
  have hw1 := hok.2.2.1
  clear hok hcl hblt
  go_enter Tryd.func73, Tryd.ntmps73
  go_wp2_with (fail)
  go_loopg [10, 5] l.length (fun gg i v wr => ∃ y : Nat, i = .int .i64 y ∧ y ≤ l.length ∧ gg = l.length - y ∧ Below w.heap.size w wr ∧ Vd w.heap.size wr v (uP l g y 0))
  case atStart => exact ⟨0, rfl, by omega, by omega, Below.refl _ _, by rw [uP_none]; exact Vd.nil _ _⟩
  case round =>
    obtain ⟨y, rfl, hy, hg, hb, hv⟩ := hrel
    have HG := Lib.hid hg
    have HB := Lib.hid hb
    have HVV := Lib.hid hv
    clear hg hb hv
    by_cases hlt : y < l.length
    · obtain ⟨hblt, r0, c0, hr0⟩ := HC.out _ HB.out
      obtain ⟨n, hn⟩ : ∃ n, n = wid l := ⟨_, rfl⟩
      have HN := Lib.hid hn
      rw [← hn] at hr0 hw48 hw1
      clear hn
      go_upto_block 2 with (fail)
      clear c0 hr0 hblt
      go_wp2_with (fail)
      go_loopg [17, 5] n (fun gg i v wr => ∃ x : Nat, i = .int .i64 x ∧ x ≤ n ∧ gg = n - x ∧ Below w.heap.size w wr ∧ Vd w.heap.size wr v (uP l g y x))
      case atStart => exact ⟨0, rfl, by omega, by omega, HB.out, HVV.out⟩
      case round =>
        obtain ⟨x, rfl, hx, hg2, hb2, hv2⟩ := hrel
        have HG2 := Lib.hid hg2
        have HB2 := Lib.hid hb2
        have HV2 := Lib.hid hv2
        have HLT := Lib.hid hlt
        have hgl := uP_len g HOK.out (show y ≤ 48 by omega) (show x ≤ 48 by omega)
        clear hg2 hb2 hv2 HB HVV
        by_cases hxn : x < n
        · have HGC := Lib.hid (HGR.out (x : Int) (y : Int) wr HB2.out)
          have HGS := Lib.hid (uP_cell l g y x)
          cases hus : usb l g ((x : Int), (y : Int))
          · have HE := Lib.hid (show uP l g y (x + 1) = uP l g y x from by rw [HGS.out, hus]; simp)
            have hz0 : ¬ g ≤ gr l (x : Int) (y : Int) := by
              unfold usb at hus
              simpa only [decide_eq_false_iff_not] using hus
            obtain ⟨z, hz⟩ : ∃ z, z = gr l (x : Int) (y : Int) := ⟨_, rfl⟩
            rw [← hz] at HGC hz0
            clear hus hz hgl
            go_wp2_with (go_at_call 34; refine (HGC.out).mono ?_; rintro e w9 ⟨rfl, rfl⟩)
            go_roundg (n - (x + 1))
            case measure => have := HG2.out; omega
            case rel => exact ⟨x + 1, by go_num, by omega, rfl, HB2.out, by rw [HE.out]; exact HV2.out⟩
          · have HE := Lib.hid (show uP l g y (x + 1) = uP l g y x ++ [((x : Int), (y : Int))] from by rw [HGS.out, hus, if_pos rfl])
            have hz0 : g ≤ gr l (x : Int) (y : Int) := by
              unfold usb at hus
              simpa only [decide_eq_true_eq] using hus
            have hgl2 : (uP l g y x).length ≤ 1000000 := by omega
            have hbs := HB2.out.size
            obtain ⟨z, hz⟩ : ∃ z, z = gr l (x : Int) (y : Int) := ⟨_, rfl⟩
            rw [← hz] at HGC hz0
            clear hus hz hgl
            go_wp2_with (first
              | (go_at_call 34; refine (HGC.out).mono ?_; rintro e w9 ⟨rfl, rfl⟩)
              | (at_builtin; refine wpList_pushD _ rfl _ _ rfl w.heap.size HV2.out (by rfl) (by rfl) rfl hgl2 hbs ?_; intro v5 w5 hv5 hb5 hk5 _; have HV5 := Lib.hid hv5; have HB5 := Lib.hid (HB2.out.trans hb5); clear hv5 hb5 hk5))
            go_roundg (n - (x + 1))
            case measure => have := HG2.out; omega
            case rel => exact ⟨x + 1, by go_num, by omega, rfl, HB5.out, by rw [HE.out]; exact HV5.out⟩
        · have HE := Lib.hid (show uP l g y x = uP l g (y + 1) 0 from by rw [show x = wid l by have := HN.out; omega]; exact uP_row l g y)
          obtain rfl : x = n := by omega
          clear hgl
          go_wp2
          go_roundg (l.length - (y + 1))
          case measure => have := HG.out; have := HLT.out; omega
          case rel => exact ⟨y + 1, by go_num, by have := HLT.out; omega, rfl, HB2.out, by rw [← HE.out]; exact HV2.out⟩
    · obtain rfl : y = l.length := by omega
      obtain ⟨C, cc, hv2, k1, k2, k3⟩ := HVV.out.csl
      subst hv2
      rw [uP_all] at k1 k3
      have k0 : (uP l g l.length 0).length = (uL l g).length := by rw [uP_all]
      rw [k0]
      have K := Lib.hid (And.intro k1 (And.intro k2 k3))
      clear k1 k2 k3 k0 hlt
      go_wp2
      refine bodyPost_ret (v := .slice C (uL l g).length cc) (by simp [results, Tryd.results73, go_sem]) rfl ?_
      exact ⟨C, cc, rfl, K.out.1, K.out.2.1, K.out.2.2, HB.out⟩

theorem bxIn_one {c : Cel} (h : InG c) : BxIn (oneB c) := by
  unfold InG at h; unfold BxIn oneB; simp only; omega
theorem bxIn_take {l : List Cel} (hl : ∀ c ∈ l, InG c) (h : 0 < l.length) (k : Nat) : BxIn ((l.take k).foldl Bx.with_ (oneB l[0])) :=
  bxIn_fold _ (bxIn_one (hl _ (List.getElem_mem h))) fun c hc => hl c (List.mem_of_mem_take hc)
set_option maxRecDepth 100000 in
set_option maxHeartbeats 4000000 in
theorem rbox_any (A : Option Addr) (cap : Nat) (l : List Cel) (w : World) (hl : ∀ c ∈ l, InG c) (hn : l.length ≤ 1000000) (h : DSl 0 w A l) :
    Calls Tryd.prog 50 #[.slice A l.length cap] w fun e w' => Below w.heap.size w w' ∧ ((l = [] ∧ e = .returned (.tuple #[.agg #[.int .i64 0, .int .i64 0, .int .i64 0, .int .i64 0], .bool false])) ∨
      (l ≠ [] ∧ e = .returned (.tuple #[.agg #[.int .i64 (boxL l).x0, .int .i64 (boxL l).y0, .int .i64 ((boxL l).x1 - (boxL l).x0 + 1), .int .i64 ((boxL l).y1 - (boxL l).y0 + 1)], .bool true]))) := by
  have hx0 := ext_alloc w (.cells #[.int .i64 0, .int .i64 0, .int .i64 0, .int .i64 0] 31)
  have HX0 := Lib.hid hx0
  have HZ0 := Lib.hid (Bk.new 31 w #[.int .i64 0, .int .i64 0, .int .i64 0, .int .i64 0])
  rcases h with h0 | ⟨b, off, rfl, hb0, hblt, hcl⟩
  · subst h0
    obtain ⟨r1, r2, r3⟩ := HZ0.out.facts
    go_enter Tryd.func50, Tryd.ntmps50
    go_wp2
    have p1 := (four_set HZ0.out (.int .i64 0) (.int .i64 0) (.int .i64 0) (.int .i64 0)).facts.1
    refine bodyPost_ret (v := .tuple #[.agg #[.int .i64 0, .int .i64 0, .int .i64 0, .int .i64 0], .bool false]) (by simp [results, Tryd.results50, go_sem, p1]) rfl ?_
    exact ⟨HX0.out, .inl ⟨by first | rfl | trivial, rfl⟩⟩
  by_cases hne : 0 < l.length
  · have HNE := Lib.hid (show l ≠ [] from fun e => by rw [e] at hne; simp at hne)
    have HC := Lib.hid (show ∀ W, Below w.heap.size w W → b < W.heap.size ∧ ∀ j (hj : j < l.length), W.cell? ⟨b, off + j * 2, none⟩ = some (.int .i64 l[j].1) ∧ W.cell? ⟨b, off + j * 2 + 1, none⟩ = some (.int .i64 l[j].2) from fun W hW => ⟨Nat.lt_of_lt_of_le hblt hW.size, fun j hj => ⟨(hW.cell (p := ⟨b, off + j * 2, none⟩) hblt).trans (hcl j hj).1, (hW.cell (p := ⟨b, off + j * 2 + 1, none⟩) hblt).trans (hcl j hj).2⟩⟩)
    have HL := Lib.hid hl
    have HST := Lib.hid (fun k => bxIn_take hl hne k)
    obtain ⟨x, hx⟩ : ∃ x, x = w.alloc (.cells #[.int .i64 0, .int .i64 0, .int .i64 0, .int .i64 0] 31) := ⟨_, rfl⟩
    obtain ⟨hb2, hc2⟩ := HC.out x (by rw [hx]; exact hx0)
    obtain ⟨c1, c2⟩ := hc2 0 hne
    simp only [Nat.zero_mul, Nat.add_zero] at c1 c2
    have hin0 := hl _ (List.getElem_mem hne)
    have HOB := Lib.hid (show oneB l[0] = ⟨l[0].1, l[0].2, l[0].1, l[0].2⟩ from rfl)
    have HBL := Lib.hid (boxL_one hl hne)
    obtain ⟨c, hc⟩ : ∃ c, c = l[0] := ⟨_, rfl⟩
    rw [← hc] at c1 c2 HST HOB HBL hin0
    obtain ⟨cx, cy⟩ := c
    dsimp only at c1 c2 HOB
    rw [← hx] at HX0 HZ0
    clear hc2 hcl hx0 hl hblt hc hb0
    go_enter Tryd.func50, Tryd.ntmps50
    go_upto_region 3 with (fail)
    rw [← hx]
    clear hx
    go_quiet (fail)
    go_upto_block 0 with (fail)
    go_wp2_with (fail)
    have HX1 := Lib.hid (bdrewN HX0.out nq)
    have HZ1 := Lib.hid (HZ0.out.ext (ext_drewN x nq))
    obtain ⟨X, hX⟩ : ∃ X, X = x.drewN nq := ⟨_, rfl⟩
    rw [← hX] at HX1 HZ1 ⊢
    clear hX c1 c2 hb2 HX0 HZ0
    go_loopg [32, 4, 5, 6, 7] l.length (fun gg i v4 v5 v6 v7 wr => ∃ (k : Nat) (bb : Bx), i = .int .i64 k ∧ k ≤ l.length ∧ gg = l.length - k ∧ bb = (l.take k).foldl Bx.with_ (oneB (cx, cy)) ∧ v4 = .int .i64 bb.x0 ∧ v5 = .int .i64 bb.y0 ∧ v6 = .int .i64 bb.x1 ∧ v7 = .int .i64 bb.y1 ∧ Below w.heap.size w wr ∧ Bk 31 wr w.heap.size #[.int .i64 0, .int .i64 0, .int .i64 0, .int .i64 0])
    case atStart => exact ⟨0, oneB (cx, cy), rfl, by omega, by omega, rfl, rfl, rfl, rfl, rfl, HX1.out, HZ1.out⟩
    case round =>
      obtain ⟨k, bb, rfl, hk, hg, hbb, rfl, rfl, rfl, rfl, hb, hz⟩ := hrel
      have HG := Lib.hid hg
      have HB := Lib.hid hb
      have HZ := Lib.hid hz
      have HBB := Lib.hid hbb
      have hin := HST.out k
      rw [← hbb] at hin
      clear hg hb hz hbb HX1 HZ1
      obtain ⟨x0, y0, x1, y1⟩ := bb
      obtain ⟨i1, i2, i3, i4, i5, i6, i7, i8⟩ := hin
      dsimp only at i1 i2 i3 i4 i5 i6 i7 i8
      dsimp only
      by_cases hlt : k < l.length
      · obtain ⟨hb2, hc2⟩ := HC.out wr HB.out
        obtain ⟨c1, c2⟩ := hc2 k hlt
        have hin := HL.out _ (List.getElem_mem hlt)
        have HN := Lib.hid (show ((l.take (k + 1)).foldl Bx.with_ (oneB (cx, cy))) = Bx.with_ ⟨x0, y0, x1, y1⟩ l[k] from by
          rw [List.take_add_one, List.getElem?_eq_getElem hlt, List.foldl_append, ← HBB.out]; rfl)
        obtain ⟨c, hc⟩ : ∃ c, c = l[k] := ⟨_, rfl⟩
        rw [← hc] at c1 c2 hin HN
        obtain ⟨dx, dy⟩ := c
        dsimp only at c1 c2
        unfold InG at hin
        dsimp only at hin
        obtain ⟨j1, j2, j3, j4⟩ := hin
        clear hc2 hc
        go_upto_region 7 with (fail)
        have HB7 := Lib.hid (HB.out.alloc HB.out.size (.cells #[.int .i64 dx, .int .i64 dy] 80))
        have HZ7 := Lib.hid (HZ.out.ext (ext_alloc wr (.cells #[.int .i64 dx, .int .i64 dy] 80)))
        have HP := Lib.hid (Bk.new 80 wr #[.int .i64 dx, .int .i64 dy])
        obtain ⟨B, hB⟩ : ∃ B, B = wr.heap.size := ⟨_, rfl⟩
        obtain ⟨X2, hX2⟩ : ∃ X2, X2 = wr.alloc (.cells #[.int .i64 dx, .int .i64 dy] 80) := ⟨_, rfl⟩
        rw [← hX2] at HB7 HZ7 HP ⊢
        rw [← hB] at HP ⊢
        clear hB hX2 HB HZ c1 c2 hb2
        obtain ⟨p1, p2, p3⟩ := HP.out.facts
        go_quiet (fail)
        go_wp2
        go_roundg (l.length - (k + 1))
        case measure => have := HG.out; omega
        case rel => exact ⟨k + 1, _, by go_num, by omega, rfl, HN.out.symm, rfl, rfl, rfl, rfl, bdrewN HB7.out _, HZ7.out.ext (ext_drewN _ _)⟩
      · obtain rfl : k = l.length := by omega
        have HE := Lib.hid (show boxL l = ⟨x0, y0, x1, y1⟩ from by rw [HBB.out, List.take_length]; exact HBL.out.symm)
        obtain ⟨r1, r2, r3⟩ := HZ.out.facts
        go_wp2
        have p1 := (four_set HZ.out (.int .i64 x0) (.int .i64 y0) (.int .i64 (x1 - x0 + 1)) (.int .i64 (y1 - y0 + 1))).facts.1
        refine bodyPost_ret (v := .tuple #[.agg #[.int .i64 x0, .int .i64 y0, .int .i64 (x1 - x0 + 1), .int .i64 (y1 - y0 + 1)], .bool true]) (by simp [results, Tryd.results50, go_sem, p1]) rfl ?_
        exact ⟨four_b HB.out (Nat.le_refl _) _ _ _ _, .inr ⟨HNE.out, by rw [HE.out]⟩⟩
  · have h0 : l = [] := List.eq_nil_of_length_eq_zero (by omega)
    subst h0
    obtain ⟨r1, r2, r3⟩ := HZ0.out.facts
    go_enter Tryd.func50, Tryd.ntmps50
    go_wp2
    have p1 := (four_set HZ0.out (.int .i64 0) (.int .i64 0) (.int .i64 0) (.int .i64 0)).facts.1
    refine bodyPost_ret (v := .tuple #[.agg #[.int .i64 0, .int .i64 0, .int .i64 0, .int .i64 0], .bool false]) (by simp [results, Tryd.results50, go_sem, p1]) rfl ?_
    exact ⟨HX0.out, .inl ⟨by first | rfl | trivial, rfl⟩⟩
theorem uL_len {l : List ByteArray} (g : Int) (hok : SkOk l) : (uL l g).length ≤ 1000000 := Nat.le_trans (List.length_filter_le _ _) (Nat.le_trans (grid_len hok) (by decide))
theorem DSl.le {b b' : Nat} {w : World} {A : Option Addr} {l : List Cel} (h : DSl b w A l) (hb : b' ≤ b) : DSl b' w A l := by
  rcases h with h | ⟨g, off, h1, h2, h3, h4⟩
  · exact .inl h
  · exact .inr ⟨g, off, h1, by omega, h3, h4⟩
end Go.Proofs.YtmgofdgbenfjmaaDoor
