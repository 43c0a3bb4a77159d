/- The plane's open walked: the neighbours that no wall parts. Conditions: the plane and its maps in memory; the cell lies in the grid. -/
import Derived.Test.YtmgofdgbenfjmaaDoorPq1
import Derived.Test.YtmgofdgbenfjmaaDoorCe
import Derived.Test.YtmgofdgbenfjmaaDoorRg1
namespace Go.Proofs.YtmgofdgbenfjmaaDoor
open Go.RowKit

/-- parted by a wall -/
def walB (fa fb : Cel → Bool) (c d : Cel) : Bool := (decide (d.1 = c.1) && fa (c.1, max c.2 d.2)) || (decide (d.2 = c.2) && fb (max c.1 d.1, c.2))
/-- the neighbours that no wall parts -/
def openL (fa fb : Cel → Bool) (c : Cel) : List Cel := (sidesL c).filter fun d => !walB fa fb c d
def opK (fa fb : Cel → Bool) (c : Cel) (k : Nat) : List Cel := ((sidesL c).take k).filter fun d => !walB fa fb c d
theorem opK_no {fa fb : Cel → Bool} {c d : Cel} {k : Nat} (hk : k < (sidesL c).length) (hd : (sidesL c)[k] = d) (h : walB fa fb c d = true) : opK fa fb c (k + 1) = opK fa fb c k := by
  unfold opK
  rw [List.take_succ_eq_append_getElem hk, List.filter_append, hd]
  simp [h]
theorem opK_yes {fa fb : Cel → Bool} {c d : Cel} {k : Nat} (hk : k < (sidesL c).length) (hd : (sidesL c)[k] = d) (h : walB fa fb c d = false) : opK fa fb c (k + 1) = opK fa fb c k ++ [d] := by
  unfold opK
  rw [List.take_succ_eq_append_getElem hk, List.filter_append, hd]
  simp [h]
theorem opK_len (fa fb : Cel → Bool) (c : Cel) (k : Nat) : (opK fa fb c k).length ≤ 4 := by
  unfold opK
  refine Nat.le_trans (List.length_filter_le _ _) ?_
  rw [List.length_take]
  have : (sidesL c).length = 4 := rfl
  omega
set_option maxRecDepth 100000 in
set_option maxHeartbeats 8000000 in
theorem open_any (b : Nat) (l : List ByteArray) (g : Int) (b1 b2 : Nat) (fa fb : Cel → Bool) (x y : Int) (W : World) (h : PlQ W b l g b1 b2) (ha : Mf b1 fa W) (hb : Mf b2 fb W) (hx : 0 ≤ x ∧ x ≤ 48) (hy : 0 ≤ y ∧ y ≤ 48) :
    Calls Tryd.prog 111 #[.pointer (some ⟨b, 0, none⟩), .agg #[.int .i64 x, .int .i64 y]] W (RetC (openL fa fb (x, y)) W) := by
  obtain ⟨hx1, hx2⟩ := hx
  obtain ⟨hy1, hy2⟩ := hy
  have HS := Lib.hid (fun V => sides_any x y V ⟨by dsimp only; omega, by dsimp only; omega, by dsimp only; omega, by dsimp only; omega⟩)
  have HX := Lib.hid (ext_alloc W (.cells #[.int .i64 x, .int .i64 y] 71))
  have HC := Lib.hid (Bk.new 71 W #[.int .i64 x, .int .i64 y])
  have HP := Lib.hid (h.ext HX.out)
  have HA := Lib.hid (ha.ext HX.out)
  have HB := Lib.hid (hb.ext HX.out)
  obtain ⟨xm, hxm⟩ : ∃ xm, xm = x - 1 := ⟨_, rfl⟩
  obtain ⟨xp, hxp⟩ : ∃ xp, xp = x + 1 := ⟨_, rfl⟩
  obtain ⟨ym, hym⟩ : ∃ ym, ym = y - 1 := ⟨_, rfl⟩
  obtain ⟨yp, hyp⟩ : ∃ yp, yp = y + 1 := ⟨_, rfl⟩
  rw [← hxm, ← hxp, ← hym, ← hyp] at HS
  have HXM := Lib.hid hxm
  have HXP := Lib.hid hxp
  have HYM := Lib.hid hym
  have HYP := Lib.hid hyp
  have hxm1 : -1 ≤ xm ∧ xm ≤ 47 := by omega
  have hxp1 : 1 ≤ xp ∧ xp ≤ 49 := by omega
  have hym1 : -1 ≤ ym ∧ ym ≤ 47 := by omega
  have hyp1 : 1 ≤ yp ∧ yp ≤ 49 := by omega
  clear h ha hb hxm hxp hym hyp
  go_enter Tryd.func111, Tryd.ntmps111
  go_upto_region 2 with (fail)
  obtain ⟨X, hX⟩ : ∃ X, X = W.alloc (.cells #[.int .i64 x, .int .i64 y] 71) := ⟨_, rfl⟩
  obtain ⟨p3, hp3⟩ : ∃ p3, p3 = W.heap.size := ⟨_, rfl⟩
  have HP3 := Lib.hid (show W.heap.size ≤ p3 from by omega)
  rw [← hX] at HX HC HP HA HB ⊢
  rw [← hp3] at HC ⊢
  clear hX hp3
  obtain ⟨f1, f2, f3⟩ := HC.out.facts
  go_wp2_with (go_at_call 85; refine (HS.out _).mono ?_; rintro e w1 ⟨rfl, hx1'⟩; have HX1 := Lib.hid (ext_trans HX.out hx1'); have HPW := Lib.hid (HP.out.ext hx1'); have HAW := Lib.hid (HA.out.ext hx1'); have HBM := Lib.hid (HB.out.ext hx1'); have HCW := Lib.hid (HC.out.ext hx1'); clear hx1')
  clear f1 f2 f3 HX HP HA HB HC
  go_loopg [12, 5] 4 (fun gg z v wr => ∃ k : Nat, z = .int .i64 k ∧ k ≤ 4 ∧ gg = 4 - k ∧ Vc w1.heap.size wr v (opK fa fb (x, y) k) ∧ Below w1.heap.size w1 wr)
  case atStart => exact ⟨0, rfl, by omega, by omega, Vc.nil _ _, Below.refl _ _⟩
  case round =>
    obtain ⟨k, rfl, hk, hgg, hv, hbw⟩ := hrel
    have hc := HCW.out.ext hbw
    have HG := Lib.hid hgg
    have HV := Lib.hid hv
    have HC := Lib.hid hc
    have HP := Lib.hid (HPW.out.ext hbw)
    have HA := Lib.hid (HAW.out.ext hbw)
    have HB := Lib.hid (HBM.out.ext hbw)
    have HBW := Lib.hid hbw
    have hlen := opK_len fa fb (x, y) k
    obtain ⟨A, cap, rfl, k1, k2, k3⟩ := hv.csl
    have HK := Lib.hid k3
    unfold maxLen at k2
    clear hgg hv hbw k3
    obtain ⟨f1, f2, f3⟩ := hc.facts
    clear hc
    have hk5 : k = 0 ∨ k = 1 ∨ k = 2 ∨ k = 3 ∨ k = 4 := by omega
    rcases hk5 with rfl | rfl | rfl | rfl | rfl
    · have hI : ∀ V : World, (Instr.index 128 (.agg #[.int .i64 x, .int .i64 ym, .int .i64 xm, .int .i64 y, .int .i64 xp, .int .i64 y, .int .i64 x, .int .i64 yp]) (.int .i64 0)).run Tryd.prog V = .ok (.agg #[.int .i64 x, .int .i64 ym]) V := fun V => by kernel_rfl
      have HN1 := Lib.hid (Bk.new 71 wr #[.int .i64 x, .int .i64 ym])
      have hx0 := ext_alloc wr (.cells #[.int .i64 x, .int .i64 ym] 71)
      have HV1 := Lib.hid (show Vc w1.heap.size _ _ _ from own_ext HV.out hx0)
      have HC1 := Lib.hid (HC.out.ext hx0)
      have HP1 := Lib.hid (HP.out.ext hx0)
      have HA1 := Lib.hid (HA.out.ext hx0)
      have HB1 := Lib.hid (HB.out.ext hx0)
      have HBW1 := Lib.hid (HBW.out.trans (hx0.mono HBW.out.size))
      have HPV := Lib.hid (fun k e => (own_lt HV.out k e).2)
      clear hx0 HV HP HA HB HBW
      go_upto_region 5 with (fail)
      obtain ⟨X1, hX1⟩ : ∃ X1, X1 = wr.alloc (.cells #[.int .i64 x, .int .i64 ym] 71) := ⟨_, rfl⟩
      obtain ⟨p7, hp7⟩ : ∃ p7, p7 = wr.heap.size := ⟨_, rfl⟩
      rw [← hX1] at HN1 HV1 HC1 HP1 HA1 HB1 HBW1 ⊢
      rw [← hp7] at HN1 HPV ⊢
      clear hX1 hp7 hI f1 f2 f3 HC
      obtain ⟨f1, f2, f3⟩ := HC1.out.facts
      obtain ⟨g1, g2, g3⟩ := HN1.out.facts
      have hm1 : (max y ym) = y := by have := HYM.out; have := HYP.out; omega
      have hm2 : x = x := by have := HXM.out; have := HXP.out; omega
      have HM1 := Lib.hid hm1
      have HM2 := Lib.hid hm2
      clear hm1 hm2
      have HN8 := Lib.hid ((Bk.new 71 X1 #[.int .i64 x, .int .i64 (max y ym)]).alloc (.cells #[.int .i64 x, .int .i64 y] 71))
      have HN9 := Bk.new 71 (X1.alloc (.cells #[.int .i64 x, .int .i64 (max y ym)] 71)) #[.int .i64 x, .int .i64 y]
      rw [World.size_alloc] at HN9
      have HN9 := Lib.hid HN9
      have HM8 := Lib.hid ((Bk.new 71 X1 #[.int .i64 x, .int .i64 y]).alloc (.cells #[.int .i64 x, .int .i64 (max y ym)] 71))
      have HM9 := Bk.new 71 (X1.alloc (.cells #[.int .i64 x, .int .i64 y] 71)) #[.int .i64 x, .int .i64 (max y ym)]
      rw [World.size_alloc] at HM9
      have HM9 := Lib.hid HM9
      go_cut [8, 9] from 15 to 62 (fun v8 v9 wx => ∃ p8 p9 : Nat, v8 = .pointer (some ⟨p8, 0, none⟩) ∧ v9 = .pointer (some ⟨p9, 0, none⟩) ∧ Bk 71 wx p8 #[.int .i64 x, .int .i64 (max y ym)] ∧ Bk 71 wx p9 #[.int .i64 x, .int .i64 y] ∧ Below X1.heap.size X1 wx)
      case first =>
        refine wp_region_T (S := fun wx => Bk 71 wx p3 #[.int .i64 x, .int .i64 y] ∧ Bk 71 wx p7 #[.int .i64 x, .int .i64 ym] ∧ Below X1.heap.size X1 wx) 19 (by kernel_rfl) ⟨HC1.out.ext (ext_drew _), HN1.out.ext (ext_drew _), ext_drew _⟩ (fun hHeld => ?_)
        obtain ⟨Y, hY⟩ : ∃ Y, Y = X1.drew := ⟨_, rfl⟩
        rw [← hY] at hHeld ⊢
        clear hY
        refine wpAnyT_take (i := 0) (v := ?v1) [] rfl (by kernel_rfl) (fun _ _ _ h => h) (Or.inl ⟨by rfl, ?hy1⟩) hHeld ?rst1
        case hy1 => (intro wx hSw; obtain ⟨q1, q2, _⟩ := hSw; have q3 := Bk.cell q1; have q4 := Bk.cell q2; go_simp; try (with_reducible rfl))
        try simp only [List.getElem_toArray, List.getElem_cons_zero, Act.put, List.setIfInBounds_toArray, List.set_cons_zero, List.set_cons_succ]
        refine wpAnyT_take (i := 1) (v := ?v2) [] rfl (by kernel_rfl) (fun _ _ _ h => h) (Or.inl ⟨by rfl, ?hy2⟩) hHeld ?rst2
        case hy2 => (intro wx hSw; obtain ⟨q1, q2, _⟩ := hSw; have q3 := Bk.cell q1; have q4 := Bk.cell q2; go_simp; try (with_reducible rfl))
        try simp only [List.getElem_toArray, List.getElem_cons_zero, List.getElem_cons_succ, Act.put, List.setIfInBounds_toArray, List.set_cons_zero, List.set_cons_succ]
        refine wpAnyT_take (i := 2) (v := ?v3) [] rfl (by kernel_rfl) (fun _ _ _ h => h) (Or.inl ⟨by rfl, ?hy3⟩) hHeld ?rst3
        case hy3 => (intro wx hSw; obtain ⟨q1, q2, _⟩ := hSw; have q3 := Bk.cell q1; have q4 := Bk.cell q2; go_simp; try (with_reducible rfl))
        try simp only [List.getElem_toArray, List.getElem_cons_zero, List.getElem_cons_succ, Act.put, List.setIfInBounds_toArray, List.set_cons_zero, List.set_cons_succ]
        refine wpAnyT_take (i := 3) (v := ?v4) [] rfl (by kernel_rfl) (fun _ _ _ h => h) (Or.inl ⟨by rfl, ?hy4⟩) hHeld ?rst4
        case hy4 => (intro wx hSw; obtain ⟨q1, q2, _⟩ := hSw; have q3 := Bk.cell q1; have q4 := Bk.cell q2; go_simp; try (with_reducible rfl))
        try simp only [List.getElem_toArray, List.getElem_cons_zero, List.getElem_cons_succ, Act.put, List.setIfInBounds_toArray, List.set_cons_zero, List.set_cons_succ]
        refine wpAnyT_take (i := 4) (v := ?v5) [] rfl (by kernel_rfl) (fun _ _ _ h => h) (Or.inl ⟨by rfl, ?hy5⟩) hHeld ?rst5
        case hy5 => (intro wx hSw; obtain ⟨q1, q2, _⟩ := hSw; have q3 := Bk.cell q1; have q4 := Bk.cell q2; go_simp; try (with_reducible rfl))
        try simp only [List.getElem_toArray, List.getElem_cons_zero, List.getElem_cons_succ, Act.put, List.setIfInBounds_toArray, List.set_cons_zero, List.set_cons_succ]
        refine wpAnyT_take (i := 5) (v := ?v6) [] rfl (by kernel_rfl) (fun _ _ _ h => h) (Or.inl ⟨by rfl, ?hy6⟩) hHeld ?rst6
        case hy6 => (intro wx hSw; obtain ⟨q1, q2, _⟩ := hSw; have q3 := Bk.cell q1; have q4 := Bk.cell q2; go_simp; try (with_reducible rfl))
        try simp only [List.getElem_toArray, List.getElem_cons_zero, List.getElem_cons_succ, Act.put, List.setIfInBounds_toArray, List.set_cons_zero, List.set_cons_succ]
        refine wpAnyT_take (i := 6) (v := ?v7) [] rfl (by kernel_rfl) (fun _ _ _ h => h) (Or.inl ⟨by rfl, ?hy7⟩) hHeld ?rst7
        case hy7 => (intro wx hSw; obtain ⟨q1, q2, _⟩ := hSw; have q3 := Bk.cell q1; have q4 := Bk.cell q2; go_simp; try (with_reducible rfl))
        try simp only [List.getElem_toArray, List.getElem_cons_zero, List.getElem_cons_succ, Act.put, List.setIfInBounds_toArray, List.set_cons_zero, List.set_cons_succ]
        refine wpAnyT_take (i := 7) (v := ?v8) [] rfl (by kernel_rfl) (fun _ _ _ h => h) (Or.inl ⟨by rfl, ?hy8⟩) hHeld ?rst8
        case hy8 => (intro wx hSw; obtain ⟨q1, q2, _⟩ := hSw; have q3 := Bk.cell q1; have q4 := Bk.cell q2; go_simp; try (with_reducible rfl))
        try simp only [List.getElem_toArray, List.getElem_cons_zero, List.getElem_cons_succ, Act.put, List.setIfInBounds_toArray, List.set_cons_zero, List.set_cons_succ]
        refine wpAnyT_take (i := 8) (v := ?v9) [] rfl (by kernel_rfl) (fun _ _ _ h => h) (Or.inl ⟨by rfl, ?hy9⟩) hHeld ?rst9
        case hy9 => (intro wx hSw; obtain ⟨q1, q2, _⟩ := hSw; have q3 := Bk.cell q1; have q4 := Bk.cell q2; go_simp; try (with_reducible rfl))
        try simp only [List.getElem_toArray, List.getElem_cons_zero, List.getElem_cons_succ, Act.put, List.setIfInBounds_toArray, List.set_cons_zero, List.set_cons_succ]
        refine wpAnyT_take (i := 9) (v := ?v10) [] rfl (by kernel_rfl) (fun _ _ _ h => h) (Or.inl ⟨by rfl, ?hy10⟩) hHeld ?rst10
        case hy10 => (intro wx hSw; obtain ⟨q1, q2, _⟩ := hSw; have q3 := Bk.cell q1; have q4 := Bk.cell q2; go_simp; try (with_reducible rfl))
        try simp only [List.getElem_toArray, List.getElem_cons_zero, List.getElem_cons_succ, Act.put, List.setIfInBounds_toArray, List.set_cons_zero, List.set_cons_succ]
        refine wpAnyT_take (i := 10) (v := ?v11) [] rfl (by kernel_rfl) (fun _ _ _ h => h) (Or.inl ⟨by rfl, ?hy11⟩) hHeld ?rst11
        case hy11 => (intro wx hSw; obtain ⟨q1, q2, _⟩ := hSw; have q3 := Bk.cell q1; have q4 := Bk.cell q2; go_simp; try (with_reducible rfl))
        try simp only [List.getElem_toArray, List.getElem_cons_zero, List.getElem_cons_succ, Act.put, List.setIfInBounds_toArray, List.set_cons_zero, List.set_cons_succ]
        refine wpAnyT_take (i := 11) (v := ?v12) [] rfl (by kernel_rfl) (fun _ _ _ h => h) (Or.inl ⟨by rfl, ?hy12⟩) hHeld ?rst12
        case hy12 => (intro wx hSw; obtain ⟨q1, q2, _⟩ := hSw; have q3 := Bk.cell q1; have q4 := Bk.cell q2; go_simp; try (with_reducible rfl))
        try simp only [List.getElem_toArray, List.getElem_cons_zero, List.getElem_cons_succ, Act.put, List.setIfInBounds_toArray, List.set_cons_zero, List.set_cons_succ]
        refine wpAnyT_take (i := 12) (v := ?v13) [] rfl (by kernel_rfl) (fun _ _ _ h => h) (Or.inl ⟨by rfl, ?hy13⟩) hHeld ?rst13
        case hy13 => (intro wx hSw; obtain ⟨q1, q2, _⟩ := hSw; have q3 := Bk.cell q1; have q4 := Bk.cell q2; go_simp; try (with_reducible rfl))
        try simp only [List.getElem_toArray, List.getElem_cons_zero, List.getElem_cons_succ, Act.put, List.setIfInBounds_toArray, List.set_cons_zero, List.set_cons_succ]
        refine wpAnyT_take (i := 13) (v := ?v14) [] rfl (by kernel_rfl) (fun _ _ _ h => h) (Or.inl ⟨by rfl, ?hy14⟩) hHeld ?rst14
        case hy14 => (intro wx hSw; obtain ⟨q1, q2, _⟩ := hSw; have q3 := Bk.cell q1; have q4 := Bk.cell q2; go_simp; try (with_reducible rfl))
        try simp only [List.getElem_toArray, List.getElem_cons_zero, List.getElem_cons_succ, Act.put, List.setIfInBounds_toArray, List.set_cons_zero, List.set_cons_succ]
        refine wpAnyT_take (i := 14) (v := ?v15) [] rfl (by kernel_rfl) (fun _ _ _ h => h) (Or.inl ⟨by rfl, ?hy15⟩) hHeld ?rst15
        case hy15 => (intro wx hSw; obtain ⟨q1, q2, _⟩ := hSw; have q3 := Bk.cell q1; have q4 := Bk.cell q2; go_simp; try (with_reducible rfl))
        try simp only [List.getElem_toArray, List.getElem_cons_zero, List.getElem_cons_succ, Act.put, List.setIfInBounds_toArray, List.set_cons_zero, List.set_cons_succ]
        refine wpAnyT_take (i := 15) (v := ?v16) [] rfl (by kernel_rfl) (fun _ _ _ h => h) (Or.inl ⟨by rfl, ?hy16⟩) hHeld ?rst16
        case hy16 => (intro wx hSw; obtain ⟨q1, q2, _⟩ := hSw; have q3 := Bk.cell q1; have q4 := Bk.cell q2; go_simp; try (with_reducible rfl))
        try simp only [List.getElem_toArray, List.getElem_cons_zero, List.getElem_cons_succ, Act.put, List.setIfInBounds_toArray, List.set_cons_zero, List.set_cons_succ]
        have HYS := Lib.hid hHeld
        have HKA := Lib.hid (⟨HYS.out.1.alloc _, HYS.out.2.1.alloc _, HYS.out.2.2.alloc HYS.out.2.2.size _⟩ : ((fun wx => Bk 71 wx p3 #[.int .i64 x, .int .i64 y] ∧ Bk 71 wx p7 #[.int .i64 x, .int .i64 ym] ∧ Below X1.heap.size X1 wx) (Y.alloc (.cells #[.int .i64 0, .int .i64 0] 71))))
        have HKB := Lib.hid (⟨HKA.out.1.alloc _, HKA.out.2.1.alloc _, HKA.out.2.2.alloc HKA.out.2.2.size _⟩ : ((fun wx => Bk 71 wx p3 #[.int .i64 x, .int .i64 y] ∧ Bk 71 wx p7 #[.int .i64 x, .int .i64 ym] ∧ Below X1.heap.size X1 wx) ((Y.alloc (.cells #[.int .i64 0, .int .i64 0] 71)).alloc (.cells #[.int .i64 0, .int .i64 0] 71))))
        refine wpAnyT_two (i := 16) (j := 17) (by kernel_rfl) rfl rfl (fun K hK => ?_) (fun K hK => ?_)
        · go_simp
          refine hK.out _ _ HKA.out (fun hHeld => ?_)
          clear hK K
          try simp only [List.getElem_toArray, List.getElem_cons_zero, List.getElem_cons_succ, Act.put, List.setIfInBounds_toArray, List.set_cons_zero, List.set_cons_succ]
          refine wpAnyT_one (i := 17) (by kernel_rfl) rfl (fun K hK => ?_)
          go_simp
          refine hK.out _ _ (HKB.out) (fun hHeld => ?_)
          clear hK K
          try simp only [List.getElem_toArray, List.getElem_cons_zero, List.getElem_cons_succ, Act.put, List.setIfInBounds_toArray, List.set_cons_zero, List.set_cons_succ]
          have HZ1 := Lib.hid ((Bk.new 71 Y #[.int .i64 0, .int .i64 0]).alloc (.cells #[.int .i64 0, .int .i64 0] 71))
          have hz2 := Bk.new 71 (Y.alloc (.cells #[.int .i64 0, .int .i64 0] 71)) #[.int .i64 0, .int .i64 0]
          rw [World.size_alloc] at hz2
          have HZ2 := Lib.hid hz2
          obtain ⟨Z, hZ⟩ : ∃ Z, Z = (Y.alloc (.cells #[.int .i64 0, .int .i64 0] 71)).alloc (.cells #[.int .i64 0, .int .i64 0] 71) := ⟨_, rfl⟩
          obtain ⟨p8, hp8⟩ : ∃ p8, p8 = Y.heap.size := ⟨_, rfl⟩
          obtain ⟨p9, hp9⟩ : ∃ p9, p9 = Y.heap.size + 1 := ⟨_, rfl⟩
          have HPP := Lib.hid (show p8 ≠ p9 ∧ (p3 ≠ p8 ∧ p3 ≠ p9 ∧ p7 ≠ p8 ∧ p7 ≠ p9) ∧ X1.heap.size ≤ p8 ∧ X1.heap.size ≤ p9 from by have h1 := HYS.out.1.lt; have h2 := HYS.out.2.1.lt; have h3 := HYS.out.2.2.size; omega)
          skip
          rw [← hZ] at HKB HZ1 HZ2 hHeld ⊢
          rw [← hp9] at HZ2 ⊢; rw [← hp8] at HZ1 ⊢
          clear hZ hp8 hp9 hz2
          have HA8 := Lib.hid HZ1.out
          have HA9 := Lib.hid HZ2.out
          obtain ⟨u1, u2, u3⟩ := HA8.out.facts
          obtain ⟨t1, t2, t3⟩ := HA9.out.facts
          have HKC := Lib.hid (⟨(HKB.out.1.set_ne HPP.out.2.1.1 _).set_ne HPP.out.2.1.1 _, (HKB.out.2.1.set_ne HPP.out.2.1.2.2.1 _).set_ne HPP.out.2.1.2.2.1 _, (HKB.out.2.2.setCell (p := ⟨p8, 0, none⟩) HPP.out.2.2.1 _).setCell (p := ⟨p8, 1, none⟩) HPP.out.2.2.1 _⟩ : ((fun wx => Bk 71 wx p3 #[.int .i64 x, .int .i64 y] ∧ Bk 71 wx p7 #[.int .i64 x, .int .i64 ym] ∧ Below X1.heap.size X1 wx) ((Z.setCell ⟨p8, 0, none⟩ (.int .i64 x)).setCell ⟨p8, 1, none⟩ (.int .i64 (max y ym)))))
          refine wpAnyT_one (i := 18) (by kernel_rfl) rfl (fun K hK => ?_)
          go_simp
          refine hK.out _ _ (HKC.out) (fun hHeld => ?_)
          clear hK K
          try simp only [List.getElem_toArray, List.getElem_cons_zero, List.getElem_cons_succ, Act.put, List.setIfInBounds_toArray, List.set_cons_zero, List.set_cons_succ]
          clear u1 u2 u3 t1 t2 t3
          have HE8 := Lib.hid ((HA8.out.set 0 (.int .i64 x)).set 1 (.int .i64 (max y ym)))
          have HE9 := Lib.hid ((HA9.out.set_ne (Ne.symm HPP.out.1) (k := p8) (j := 0) (.int .i64 x)).set_ne (Ne.symm HPP.out.1) (k := p8) (j := 1) (.int .i64 (max y ym)))
          obtain ⟨Z2, hZ2⟩ : ∃ Z2, Z2 = ((Z.setCell ⟨p8, 0, none⟩ (.int .i64 x)).setCell ⟨p8, 1, none⟩ (.int .i64 (max y ym))) := ⟨_, rfl⟩
          rw [← hZ2] at HE8 HE9 HKC hHeld ⊢
          clear hZ2
          obtain ⟨t1, t2, t3⟩ := HE9.out.facts
          refine wpAnyT_last (by kernel_rfl) (by kernel_rfl) rfl (fun K hK => ?_)
          go_simp
          refine hK.out _ _ ?_
          clear hK K
          have HF8 := Lib.hid ((HE8.out.set_ne HPP.out.1 (k := p9) (j := 0) (.int .i64 x)).set_ne HPP.out.1 (k := p9) (j := 1) (.int .i64 y))
          have HF9 := Lib.hid ((HE9.out.set 0 (.int .i64 x)).set 1 (.int .i64 y))
          have HFB := Lib.hid ((HKC.out.2.2.setCell (p := ⟨p9, 0, none⟩) HPP.out.2.2.2 (.int .i64 x)).setCell (p := ⟨p9, 1, none⟩) HPP.out.2.2.2 (.int .i64 y))
          go_wp2
          go_meet
          case rel => exact ⟨p8, p9, rfl, rfl, HF8.out, HF9.out, HFB.out⟩
        · go_simp
          refine hK.out _ _ HKA.out (fun hHeld => ?_)
          clear hK K
          try simp only [List.getElem_toArray, List.getElem_cons_zero, List.getElem_cons_succ, Act.put, List.setIfInBounds_toArray, List.set_cons_zero, List.set_cons_succ]
          refine wpAnyT_one (i := 16) (by kernel_rfl) rfl (fun K hK => ?_)
          go_simp
          refine hK.out _ _ (HKB.out) (fun hHeld => ?_)
          clear hK K
          try simp only [List.getElem_toArray, List.getElem_cons_zero, List.getElem_cons_succ, Act.put, List.setIfInBounds_toArray, List.set_cons_zero, List.set_cons_succ]
          have HZ1 := Lib.hid ((Bk.new 71 Y #[.int .i64 0, .int .i64 0]).alloc (.cells #[.int .i64 0, .int .i64 0] 71))
          have hz2 := Bk.new 71 (Y.alloc (.cells #[.int .i64 0, .int .i64 0] 71)) #[.int .i64 0, .int .i64 0]
          rw [World.size_alloc] at hz2
          have HZ2 := Lib.hid hz2
          obtain ⟨Z, hZ⟩ : ∃ Z, Z = (Y.alloc (.cells #[.int .i64 0, .int .i64 0] 71)).alloc (.cells #[.int .i64 0, .int .i64 0] 71) := ⟨_, rfl⟩
          obtain ⟨p8, hp8⟩ : ∃ p8, p8 = Y.heap.size + 1 := ⟨_, rfl⟩
          obtain ⟨p9, hp9⟩ : ∃ p9, p9 = Y.heap.size := ⟨_, rfl⟩
          have HPP := Lib.hid (show p8 ≠ p9 ∧ (p3 ≠ p8 ∧ p3 ≠ p9 ∧ p7 ≠ p8 ∧ p7 ≠ p9) ∧ X1.heap.size ≤ p8 ∧ X1.heap.size ≤ p9 from by have h1 := HYS.out.1.lt; have h2 := HYS.out.2.1.lt; have h3 := HYS.out.2.2.size; omega)
          skip
          rw [← hZ] at HKB HZ1 HZ2 hHeld ⊢
          rw [← hp8] at HZ2 ⊢; rw [← hp9] at HZ1 ⊢
          clear hZ hp8 hp9 hz2
          have HA8 := Lib.hid HZ2.out
          have HA9 := Lib.hid HZ1.out
          obtain ⟨u1, u2, u3⟩ := HA8.out.facts
          obtain ⟨t1, t2, t3⟩ := HA9.out.facts
          have HKC := Lib.hid (⟨(HKB.out.1.set_ne HPP.out.2.1.1 _).set_ne HPP.out.2.1.1 _, (HKB.out.2.1.set_ne HPP.out.2.1.2.2.1 _).set_ne HPP.out.2.1.2.2.1 _, (HKB.out.2.2.setCell (p := ⟨p8, 0, none⟩) HPP.out.2.2.1 _).setCell (p := ⟨p8, 1, none⟩) HPP.out.2.2.1 _⟩ : ((fun wx => Bk 71 wx p3 #[.int .i64 x, .int .i64 y] ∧ Bk 71 wx p7 #[.int .i64 x, .int .i64 ym] ∧ Below X1.heap.size X1 wx) ((Z.setCell ⟨p8, 0, none⟩ (.int .i64 x)).setCell ⟨p8, 1, none⟩ (.int .i64 (max y ym)))))
          refine wpAnyT_one (i := 18) (by kernel_rfl) rfl (fun K hK => ?_)
          go_simp
          refine hK.out _ _ (HKC.out) (fun hHeld => ?_)
          clear hK K
          try simp only [List.getElem_toArray, List.getElem_cons_zero, List.getElem_cons_succ, Act.put, List.setIfInBounds_toArray, List.set_cons_zero, List.set_cons_succ]
          clear u1 u2 u3 t1 t2 t3
          have HE8 := Lib.hid ((HA8.out.set 0 (.int .i64 x)).set 1 (.int .i64 (max y ym)))
          have HE9 := Lib.hid ((HA9.out.set_ne (Ne.symm HPP.out.1) (k := p8) (j := 0) (.int .i64 x)).set_ne (Ne.symm HPP.out.1) (k := p8) (j := 1) (.int .i64 (max y ym)))
          obtain ⟨Z2, hZ2⟩ : ∃ Z2, Z2 = ((Z.setCell ⟨p8, 0, none⟩ (.int .i64 x)).setCell ⟨p8, 1, none⟩ (.int .i64 (max y ym))) := ⟨_, rfl⟩
          rw [← hZ2] at HE8 HE9 HKC hHeld ⊢
          clear hZ2
          obtain ⟨t1, t2, t3⟩ := HE9.out.facts
          refine wpAnyT_last (by kernel_rfl) (by kernel_rfl) rfl (fun K hK => ?_)
          go_simp
          refine hK.out _ _ ?_
          clear hK K
          have HF8 := Lib.hid ((HE8.out.set_ne HPP.out.1 (k := p9) (j := 0) (.int .i64 x)).set_ne HPP.out.1 (k := p9) (j := 1) (.int .i64 y))
          have HF9 := Lib.hid ((HE9.out.set 0 (.int .i64 x)).set 1 (.int .i64 y))
          have HFB := Lib.hid ((HKC.out.2.2.setCell (p := ⟨p9, 0, none⟩) HPP.out.2.2.2 (.int .i64 x)).setCell (p := ⟨p9, 1, none⟩) HPP.out.2.2.2 (.int .i64 y))
          go_wp2
          go_meet
          case rel => exact ⟨p8, p9, rfl, rfl, HF8.out, HF9.out, HFB.out⟩
      case rest =>
        obtain ⟨p8, p9, rfl, rfl, h8, h9, hbx⟩ := hcut
        clear f1 f2 f3 g1 g2 g3 HN8 HN9 HM8 HM9
        rw [HM1.out] at h8
        have HV2 := Lib.hid (show Vc w1.heap.size _ _ _ from own_ext HV1.out hbx)
        have HC2 := Lib.hid (HC1.out.ext hbx)
        have HN2 := Lib.hid (HN1.out.ext hbx)
        have HP2 := Lib.hid (HP1.out.ext hbx)
        have HA2 := Lib.hid (HA1.out.ext hbx)
        have HB2 := Lib.hid (HB1.out.ext hbx)
        have HBW2 := Lib.hid (HBW1.out.trans (hbx.mono HBW1.out.size))
        obtain ⟨X2, hX2⟩ : ∃ X2, X2 = wc := ⟨_, rfl⟩
        rw [← hX2] at HV2 HC2 HN2 HP2 HA2 HB2 HBW2 h8 h9 ⊢
        clear hX2 hbx HV1 HC1 HN1 HP1 HA1 HB1 HBW1
        obtain ⟨f1, f2, f3⟩ := HC2.out.facts
        obtain ⟨g1, g2, g3⟩ := HN2.out.facts
        obtain ⟨i1, i2, i3⟩ := h8.facts
        obtain ⟨j1, j2, j3⟩ := h9.facts
        obtain ⟨v, hv⟩ : ∃ v, v = fa (x, y) := ⟨_, rfl⟩
        have hcc : IsC (x, y) := ⟨⟨by dsimp only; omega, by dsimp only; omega⟩, ⟨by dsimp only; omega, by dsimp only; omega⟩⟩
        have hl : ∀ n, (Instr.lookup 73 (.map (some b1)) (.agg #[.int .i64 x, .int .i64 y]) false).run Tryd.prog (X2.drewN n) = .ok (.bool v) (X2.drewN n) := fun n => by rw [hv]; exact (HA2.out.ext (ext_drewN X2 n)).look hcc
        have hmm := HP2.out.m1_
        have hlm : b < X2.heap.size := World.block_lt_of_cell? X2 ⟨b, 3, none⟩ hmm
        have HW := Lib.hid (show walB fa fb (x, y) (x, ym) = v from by
          have h1 := HXM.out
          have h2 := HXP.out
          have h3 := HYM.out
          have h4 := HYP.out
          have hne : ¬ ym = y := by omega
          unfold walB
          dsimp only
          rw [HM1.out, ← hv]
          simp [hne])
        have het : (ym == y) = false := by have h3 := HYM.out; have h4 := HYP.out; simp; omega
        clear hv hcc h8 h9 HM1 HM2
        rename_i hKc
        refine hKc _ _ ?_
        clear hKc
        go_upto_region 6 with (fail)
        cases v with
        | true =>
          have HE := Lib.hid (opK_no (fa := fa) (fb := fb) (c := (x, y)) (d := (x, ym)) (k := 0) (show 0 < 4 from by decide) (by rw [HYM.out]; rfl) HW.out)
          go_quiet (fail)
          go_wp2
          go_roundg (4 - 1)
          case measure => have := HG.out; omega
          case rel => exact ⟨1, by go_num, by omega, rfl, by rw [HE.out]; exact own_ext HV2.out (ext_drewN _ _), HBW2.out.trans ((ext_drewN _ _).mono HBW2.out.size)⟩
        | false =>
          have HE := Lib.hid (opK_yes (fa := fa) (fb := fb) (c := (x, y)) (d := (x, ym)) (k := 0) (show 0 < 4 from by decide) (by rw [HYM.out]; rfl) HW.out)
          go_quiet (fail)
          go_upto_region 7 with (fail)
          have HV3 := Lib.hid (show Vc w1.heap.size _ _ _ from own_ext HV2.out (ext_drewN X2 nq))
          have HN3 := Lib.hid (HN2.out.ext (ext_drewN X2 nq))
          have HBW3 := Lib.hid (HBW2.out.trans ((ext_drewN X2 nq).mono HBW2.out.size))
          obtain ⟨X3, hX3⟩ : ∃ X3, X3 = X2.drewN nq := ⟨_, rfl⟩
          rw [← hX3] at HV3 HN3 HBW3 ⊢
          clear hX3 f1 f2 f3 g1 g2 g3 i1 i2 i3 j1 j2 j3 hmm hlm hl het HV2 HC2 HN2 HP2 HA2 HB2 HBW2
          obtain ⟨g1, g2, g3⟩ := HN3.out.facts
          have hbase : w1.heap.size ≤ X3.heap.size := HBW3.out.size
          go_wp2_with (at_builtin; refine wpList_pushC _ rfl _ _ rfl w1.heap.size HV3.out (by rfl) (by rfl) rfl (by omega) hbase ?_; intro v5 w5 hv5 hb5 hk5 hk6; have HV5 := Lib.hid hv5; have HB5 := Lib.hid (HBW3.out.trans hb5); clear hv5 hb5 hk5 hk6)
          go_roundg (4 - 1)
          case measure => have := HG.out; omega
          case rel => exact ⟨1, by go_num, by omega, rfl, by rw [HE.out]; exact HV5.out, HB5.out⟩
    · have hI : ∀ V : World, (Instr.index 128 (.agg #[.int .i64 x, .int .i64 ym, .int .i64 xm, .int .i64 y, .int .i64 xp, .int .i64 y, .int .i64 x, .int .i64 yp]) (.int .i64 1)).run Tryd.prog V = .ok (.agg #[.int .i64 xm, .int .i64 y]) V := fun V => by kernel_rfl
      have HN1 := Lib.hid (Bk.new 71 wr #[.int .i64 xm, .int .i64 y])
      have hx0 := ext_alloc wr (.cells #[.int .i64 xm, .int .i64 y] 71)
      have HV1 := Lib.hid (show Vc w1.heap.size _ _ _ from own_ext HV.out hx0)
      have HC1 := Lib.hid (HC.out.ext hx0)
      have HP1 := Lib.hid (HP.out.ext hx0)
      have HA1 := Lib.hid (HA.out.ext hx0)
      have HB1 := Lib.hid (HB.out.ext hx0)
      have HBW1 := Lib.hid (HBW.out.trans (hx0.mono HBW.out.size))
      have HPV := Lib.hid (fun k e => (own_lt HV.out k e).2)
      clear hx0 HV HP HA HB HBW
      go_upto_region 5 with (fail)
      obtain ⟨X1, hX1⟩ : ∃ X1, X1 = wr.alloc (.cells #[.int .i64 xm, .int .i64 y] 71) := ⟨_, rfl⟩
      obtain ⟨p7, hp7⟩ : ∃ p7, p7 = wr.heap.size := ⟨_, rfl⟩
      rw [← hX1] at HN1 HV1 HC1 HP1 HA1 HB1 HBW1 ⊢
      rw [← hp7] at HN1 HPV ⊢
      clear hX1 hp7 hI f1 f2 f3 HC
      obtain ⟨f1, f2, f3⟩ := HC1.out.facts
      obtain ⟨g1, g2, g3⟩ := HN1.out.facts
      have hm1 : y = y := by have := HYM.out; have := HYP.out; omega
      have hm2 : (max x xm) = x := by have := HXM.out; have := HXP.out; omega
      have HM1 := Lib.hid hm1
      have HM2 := Lib.hid hm2
      clear hm1 hm2
      have HN8 := Lib.hid ((Bk.new 71 X1 #[.int .i64 x, .int .i64 y]).alloc (.cells #[.int .i64 (max x xm), .int .i64 y] 71))
      have HN9 := Bk.new 71 (X1.alloc (.cells #[.int .i64 x, .int .i64 y] 71)) #[.int .i64 (max x xm), .int .i64 y]
      rw [World.size_alloc] at HN9
      have HN9 := Lib.hid HN9
      have HM8 := Lib.hid ((Bk.new 71 X1 #[.int .i64 (max x xm), .int .i64 y]).alloc (.cells #[.int .i64 x, .int .i64 y] 71))
      have HM9 := Bk.new 71 (X1.alloc (.cells #[.int .i64 (max x xm), .int .i64 y] 71)) #[.int .i64 x, .int .i64 y]
      rw [World.size_alloc] at HM9
      have HM9 := Lib.hid HM9
      go_cut [8, 9] from 15 to 62 (fun v8 v9 wx => ∃ p8 p9 : Nat, v8 = .pointer (some ⟨p8, 0, none⟩) ∧ v9 = .pointer (some ⟨p9, 0, none⟩) ∧ Bk 71 wx p8 #[.int .i64 x, .int .i64 y] ∧ Bk 71 wx p9 #[.int .i64 (max x xm), .int .i64 y] ∧ Below X1.heap.size X1 wx)
      case first =>
        refine wp_region_T (S := fun wx => Bk 71 wx p3 #[.int .i64 x, .int .i64 y] ∧ Bk 71 wx p7 #[.int .i64 xm, .int .i64 y] ∧ Below X1.heap.size X1 wx) 19 (by kernel_rfl) ⟨HC1.out.ext (ext_drew _), HN1.out.ext (ext_drew _), ext_drew _⟩ (fun hHeld => ?_)
        obtain ⟨Y, hY⟩ : ∃ Y, Y = X1.drew := ⟨_, rfl⟩
        rw [← hY] at hHeld ⊢
        clear hY
        refine wpAnyT_take (i := 0) (v := ?v17) [] rfl (by kernel_rfl) (fun _ _ _ h => h) (Or.inl ⟨by rfl, ?hy17⟩) hHeld ?rst17
        case hy17 => (intro wx hSw; obtain ⟨q1, q2, _⟩ := hSw; have q3 := Bk.cell q1; have q4 := Bk.cell q2; go_simp; try (with_reducible rfl))
        try simp only [List.getElem_toArray, List.getElem_cons_zero, Act.put, List.setIfInBounds_toArray, List.set_cons_zero, List.set_cons_succ]
        refine wpAnyT_take (i := 1) (v := ?v18) [] rfl (by kernel_rfl) (fun _ _ _ h => h) (Or.inl ⟨by rfl, ?hy18⟩) hHeld ?rst18
        case hy18 => (intro wx hSw; obtain ⟨q1, q2, _⟩ := hSw; have q3 := Bk.cell q1; have q4 := Bk.cell q2; go_simp; try (with_reducible rfl))
        try simp only [List.getElem_toArray, List.getElem_cons_zero, List.getElem_cons_succ, Act.put, List.setIfInBounds_toArray, List.set_cons_zero, List.set_cons_succ]
        refine wpAnyT_take (i := 2) (v := ?v19) [] rfl (by kernel_rfl) (fun _ _ _ h => h) (Or.inl ⟨by rfl, ?hy19⟩) hHeld ?rst19
        case hy19 => (intro wx hSw; obtain ⟨q1, q2, _⟩ := hSw; have q3 := Bk.cell q1; have q4 := Bk.cell q2; go_simp; try (with_reducible rfl))
        try simp only [List.getElem_toArray, List.getElem_cons_zero, List.getElem_cons_succ, Act.put, List.setIfInBounds_toArray, List.set_cons_zero, List.set_cons_succ]
        refine wpAnyT_take (i := 3) (v := ?v20) [] rfl (by kernel_rfl) (fun _ _ _ h => h) (Or.inl ⟨by rfl, ?hy20⟩) hHeld ?rst20
        case hy20 => (intro wx hSw; obtain ⟨q1, q2, _⟩ := hSw; have q3 := Bk.cell q1; have q4 := Bk.cell q2; go_simp; try (with_reducible rfl))
        try simp only [List.getElem_toArray, List.getElem_cons_zero, List.getElem_cons_succ, Act.put, List.setIfInBounds_toArray, List.set_cons_zero, List.set_cons_succ]
        refine wpAnyT_take (i := 4) (v := ?v21) [] rfl (by kernel_rfl) (fun _ _ _ h => h) (Or.inl ⟨by rfl, ?hy21⟩) hHeld ?rst21
        case hy21 => (intro wx hSw; obtain ⟨q1, q2, _⟩ := hSw; have q3 := Bk.cell q1; have q4 := Bk.cell q2; go_simp; try (with_reducible rfl))
        try simp only [List.getElem_toArray, List.getElem_cons_zero, List.getElem_cons_succ, Act.put, List.setIfInBounds_toArray, List.set_cons_zero, List.set_cons_succ]
        refine wpAnyT_take (i := 5) (v := ?v22) [] rfl (by kernel_rfl) (fun _ _ _ h => h) (Or.inl ⟨by rfl, ?hy22⟩) hHeld ?rst22
        case hy22 => (intro wx hSw; obtain ⟨q1, q2, _⟩ := hSw; have q3 := Bk.cell q1; have q4 := Bk.cell q2; go_simp; try (with_reducible rfl))
        try simp only [List.getElem_toArray, List.getElem_cons_zero, List.getElem_cons_succ, Act.put, List.setIfInBounds_toArray, List.set_cons_zero, List.set_cons_succ]
        refine wpAnyT_take (i := 6) (v := ?v23) [] rfl (by kernel_rfl) (fun _ _ _ h => h) (Or.inl ⟨by rfl, ?hy23⟩) hHeld ?rst23
        case hy23 => (intro wx hSw; obtain ⟨q1, q2, _⟩ := hSw; have q3 := Bk.cell q1; have q4 := Bk.cell q2; go_simp; try (with_reducible rfl))
        try simp only [List.getElem_toArray, List.getElem_cons_zero, List.getElem_cons_succ, Act.put, List.setIfInBounds_toArray, List.set_cons_zero, List.set_cons_succ]
        refine wpAnyT_take (i := 7) (v := ?v24) [] rfl (by kernel_rfl) (fun _ _ _ h => h) (Or.inl ⟨by rfl, ?hy24⟩) hHeld ?rst24
        case hy24 => (intro wx hSw; obtain ⟨q1, q2, _⟩ := hSw; have q3 := Bk.cell q1; have q4 := Bk.cell q2; go_simp; try (with_reducible rfl))
        try simp only [List.getElem_toArray, List.getElem_cons_zero, List.getElem_cons_succ, Act.put, List.setIfInBounds_toArray, List.set_cons_zero, List.set_cons_succ]
        refine wpAnyT_take (i := 8) (v := ?v25) [] rfl (by kernel_rfl) (fun _ _ _ h => h) (Or.inl ⟨by rfl, ?hy25⟩) hHeld ?rst25
        case hy25 => (intro wx hSw; obtain ⟨q1, q2, _⟩ := hSw; have q3 := Bk.cell q1; have q4 := Bk.cell q2; go_simp; try (with_reducible rfl))
        try simp only [List.getElem_toArray, List.getElem_cons_zero, List.getElem_cons_succ, Act.put, List.setIfInBounds_toArray, List.set_cons_zero, List.set_cons_succ]
        refine wpAnyT_take (i := 9) (v := ?v26) [] rfl (by kernel_rfl) (fun _ _ _ h => h) (Or.inl ⟨by rfl, ?hy26⟩) hHeld ?rst26
        case hy26 => (intro wx hSw; obtain ⟨q1, q2, _⟩ := hSw; have q3 := Bk.cell q1; have q4 := Bk.cell q2; go_simp; try (with_reducible rfl))
        try simp only [List.getElem_toArray, List.getElem_cons_zero, List.getElem_cons_succ, Act.put, List.setIfInBounds_toArray, List.set_cons_zero, List.set_cons_succ]
        refine wpAnyT_take (i := 10) (v := ?v27) [] rfl (by kernel_rfl) (fun _ _ _ h => h) (Or.inl ⟨by rfl, ?hy27⟩) hHeld ?rst27
        case hy27 => (intro wx hSw; obtain ⟨q1, q2, _⟩ := hSw; have q3 := Bk.cell q1; have q4 := Bk.cell q2; go_simp; try (with_reducible rfl))
        try simp only [List.getElem_toArray, List.getElem_cons_zero, List.getElem_cons_succ, Act.put, List.setIfInBounds_toArray, List.set_cons_zero, List.set_cons_succ]
        refine wpAnyT_take (i := 11) (v := ?v28) [] rfl (by kernel_rfl) (fun _ _ _ h => h) (Or.inl ⟨by rfl, ?hy28⟩) hHeld ?rst28
        case hy28 => (intro wx hSw; obtain ⟨q1, q2, _⟩ := hSw; have q3 := Bk.cell q1; have q4 := Bk.cell q2; go_simp; try (with_reducible rfl))
        try simp only [List.getElem_toArray, List.getElem_cons_zero, List.getElem_cons_succ, Act.put, List.setIfInBounds_toArray, List.set_cons_zero, List.set_cons_succ]
        refine wpAnyT_take (i := 12) (v := ?v29) [] rfl (by kernel_rfl) (fun _ _ _ h => h) (Or.inl ⟨by rfl, ?hy29⟩) hHeld ?rst29
        case hy29 => (intro wx hSw; obtain ⟨q1, q2, _⟩ := hSw; have q3 := Bk.cell q1; have q4 := Bk.cell q2; go_simp; try (with_reducible rfl))
        try simp only [List.getElem_toArray, List.getElem_cons_zero, List.getElem_cons_succ, Act.put, List.setIfInBounds_toArray, List.set_cons_zero, List.set_cons_succ]
        refine wpAnyT_take (i := 13) (v := ?v30) [] rfl (by kernel_rfl) (fun _ _ _ h => h) (Or.inl ⟨by rfl, ?hy30⟩) hHeld ?rst30
        case hy30 => (intro wx hSw; obtain ⟨q1, q2, _⟩ := hSw; have q3 := Bk.cell q1; have q4 := Bk.cell q2; go_simp; try (with_reducible rfl))
        try simp only [List.getElem_toArray, List.getElem_cons_zero, List.getElem_cons_succ, Act.put, List.setIfInBounds_toArray, List.set_cons_zero, List.set_cons_succ]
        refine wpAnyT_take (i := 14) (v := ?v31) [] rfl (by kernel_rfl) (fun _ _ _ h => h) (Or.inl ⟨by rfl, ?hy31⟩) hHeld ?rst31
        case hy31 => (intro wx hSw; obtain ⟨q1, q2, _⟩ := hSw; have q3 := Bk.cell q1; have q4 := Bk.cell q2; go_simp; try (with_reducible rfl))
        try simp only [List.getElem_toArray, List.getElem_cons_zero, List.getElem_cons_succ, Act.put, List.setIfInBounds_toArray, List.set_cons_zero, List.set_cons_succ]
        refine wpAnyT_take (i := 15) (v := ?v32) [] rfl (by kernel_rfl) (fun _ _ _ h => h) (Or.inl ⟨by rfl, ?hy32⟩) hHeld ?rst32
        case hy32 => (intro wx hSw; obtain ⟨q1, q2, _⟩ := hSw; have q3 := Bk.cell q1; have q4 := Bk.cell q2; go_simp; try (with_reducible rfl))
        try simp only [List.getElem_toArray, List.getElem_cons_zero, List.getElem_cons_succ, Act.put, List.setIfInBounds_toArray, List.set_cons_zero, List.set_cons_succ]
        have HYS := Lib.hid hHeld
        have HKA := Lib.hid (⟨HYS.out.1.alloc _, HYS.out.2.1.alloc _, HYS.out.2.2.alloc HYS.out.2.2.size _⟩ : ((fun wx => Bk 71 wx p3 #[.int .i64 x, .int .i64 y] ∧ Bk 71 wx p7 #[.int .i64 xm, .int .i64 y] ∧ Below X1.heap.size X1 wx) (Y.alloc (.cells #[.int .i64 0, .int .i64 0] 71))))
        have HKB := Lib.hid (⟨HKA.out.1.alloc _, HKA.out.2.1.alloc _, HKA.out.2.2.alloc HKA.out.2.2.size _⟩ : ((fun wx => Bk 71 wx p3 #[.int .i64 x, .int .i64 y] ∧ Bk 71 wx p7 #[.int .i64 xm, .int .i64 y] ∧ Below X1.heap.size X1 wx) ((Y.alloc (.cells #[.int .i64 0, .int .i64 0] 71)).alloc (.cells #[.int .i64 0, .int .i64 0] 71))))
        refine wpAnyT_two (i := 16) (j := 17) (by kernel_rfl) rfl rfl (fun K hK => ?_) (fun K hK => ?_)
        · go_simp
          refine hK.out _ _ HKA.out (fun hHeld => ?_)
          clear hK K
          try simp only [List.getElem_toArray, List.getElem_cons_zero, List.getElem_cons_succ, Act.put, List.setIfInBounds_toArray, List.set_cons_zero, List.set_cons_succ]
          refine wpAnyT_one (i := 17) (by kernel_rfl) rfl (fun K hK => ?_)
          go_simp
          refine hK.out _ _ (HKB.out) (fun hHeld => ?_)
          clear hK K
          try simp only [List.getElem_toArray, List.getElem_cons_zero, List.getElem_cons_succ, Act.put, List.setIfInBounds_toArray, List.set_cons_zero, List.set_cons_succ]
          have HZ1 := Lib.hid ((Bk.new 71 Y #[.int .i64 0, .int .i64 0]).alloc (.cells #[.int .i64 0, .int .i64 0] 71))
          have hz2 := Bk.new 71 (Y.alloc (.cells #[.int .i64 0, .int .i64 0] 71)) #[.int .i64 0, .int .i64 0]
          rw [World.size_alloc] at hz2
          have HZ2 := Lib.hid hz2
          obtain ⟨Z, hZ⟩ : ∃ Z, Z = (Y.alloc (.cells #[.int .i64 0, .int .i64 0] 71)).alloc (.cells #[.int .i64 0, .int .i64 0] 71) := ⟨_, rfl⟩
          obtain ⟨p8, hp8⟩ : ∃ p8, p8 = Y.heap.size := ⟨_, rfl⟩
          obtain ⟨p9, hp9⟩ : ∃ p9, p9 = Y.heap.size + 1 := ⟨_, rfl⟩
          have HPP := Lib.hid (show p8 ≠ p9 ∧ (p3 ≠ p8 ∧ p3 ≠ p9 ∧ p7 ≠ p8 ∧ p7 ≠ p9) ∧ X1.heap.size ≤ p8 ∧ X1.heap.size ≤ p9 from by have h1 := HYS.out.1.lt; have h2 := HYS.out.2.1.lt; have h3 := HYS.out.2.2.size; omega)
          skip
          rw [← hZ] at HKB HZ1 HZ2 hHeld ⊢
          rw [← hp9] at HZ2 ⊢; rw [← hp8] at HZ1 ⊢
          clear hZ hp8 hp9 hz2
          have HA8 := Lib.hid HZ1.out
          have HA9 := Lib.hid HZ2.out
          obtain ⟨u1, u2, u3⟩ := HA8.out.facts
          obtain ⟨t1, t2, t3⟩ := HA9.out.facts
          have HKC := Lib.hid (⟨(HKB.out.1.set_ne HPP.out.2.1.1 _).set_ne HPP.out.2.1.1 _, (HKB.out.2.1.set_ne HPP.out.2.1.2.2.1 _).set_ne HPP.out.2.1.2.2.1 _, (HKB.out.2.2.setCell (p := ⟨p8, 0, none⟩) HPP.out.2.2.1 _).setCell (p := ⟨p8, 1, none⟩) HPP.out.2.2.1 _⟩ : ((fun wx => Bk 71 wx p3 #[.int .i64 x, .int .i64 y] ∧ Bk 71 wx p7 #[.int .i64 xm, .int .i64 y] ∧ Below X1.heap.size X1 wx) ((Z.setCell ⟨p8, 0, none⟩ (.int .i64 x)).setCell ⟨p8, 1, none⟩ (.int .i64 y))))
          refine wpAnyT_one (i := 18) (by kernel_rfl) rfl (fun K hK => ?_)
          go_simp
          refine hK.out _ _ (HKC.out) (fun hHeld => ?_)
          clear hK K
          try simp only [List.getElem_toArray, List.getElem_cons_zero, List.getElem_cons_succ, Act.put, List.setIfInBounds_toArray, List.set_cons_zero, List.set_cons_succ]
          clear u1 u2 u3 t1 t2 t3
          have HE8 := Lib.hid ((HA8.out.set 0 (.int .i64 x)).set 1 (.int .i64 y))
          have HE9 := Lib.hid ((HA9.out.set_ne (Ne.symm HPP.out.1) (k := p8) (j := 0) (.int .i64 x)).set_ne (Ne.symm HPP.out.1) (k := p8) (j := 1) (.int .i64 y))
          obtain ⟨Z2, hZ2⟩ : ∃ Z2, Z2 = ((Z.setCell ⟨p8, 0, none⟩ (.int .i64 x)).setCell ⟨p8, 1, none⟩ (.int .i64 y)) := ⟨_, rfl⟩
          rw [← hZ2] at HE8 HE9 HKC hHeld ⊢
          clear hZ2
          obtain ⟨t1, t2, t3⟩ := HE9.out.facts
          refine wpAnyT_last (by kernel_rfl) (by kernel_rfl) rfl (fun K hK => ?_)
          go_simp
          refine hK.out _ _ ?_
          clear hK K
          have HF8 := Lib.hid ((HE8.out.set_ne HPP.out.1 (k := p9) (j := 0) (.int .i64 (max x xm))).set_ne HPP.out.1 (k := p9) (j := 1) (.int .i64 y))
          have HF9 := Lib.hid ((HE9.out.set 0 (.int .i64 (max x xm))).set 1 (.int .i64 y))
          have HFB := Lib.hid ((HKC.out.2.2.setCell (p := ⟨p9, 0, none⟩) HPP.out.2.2.2 (.int .i64 (max x xm))).setCell (p := ⟨p9, 1, none⟩) HPP.out.2.2.2 (.int .i64 y))
          go_wp2
          go_meet
          case rel => exact ⟨p8, p9, rfl, rfl, HF8.out, HF9.out, HFB.out⟩
        · go_simp
          refine hK.out _ _ HKA.out (fun hHeld => ?_)
          clear hK K
          try simp only [List.getElem_toArray, List.getElem_cons_zero, List.getElem_cons_succ, Act.put, List.setIfInBounds_toArray, List.set_cons_zero, List.set_cons_succ]
          refine wpAnyT_one (i := 16) (by kernel_rfl) rfl (fun K hK => ?_)
          go_simp
          refine hK.out _ _ (HKB.out) (fun hHeld => ?_)
          clear hK K
          try simp only [List.getElem_toArray, List.getElem_cons_zero, List.getElem_cons_succ, Act.put, List.setIfInBounds_toArray, List.set_cons_zero, List.set_cons_succ]
          have HZ1 := Lib.hid ((Bk.new 71 Y #[.int .i64 0, .int .i64 0]).alloc (.cells #[.int .i64 0, .int .i64 0] 71))
          have hz2 := Bk.new 71 (Y.alloc (.cells #[.int .i64 0, .int .i64 0] 71)) #[.int .i64 0, .int .i64 0]
          rw [World.size_alloc] at hz2
          have HZ2 := Lib.hid hz2
          obtain ⟨Z, hZ⟩ : ∃ Z, Z = (Y.alloc (.cells #[.int .i64 0, .int .i64 0] 71)).alloc (.cells #[.int .i64 0, .int .i64 0] 71) := ⟨_, rfl⟩
          obtain ⟨p8, hp8⟩ : ∃ p8, p8 = Y.heap.size + 1 := ⟨_, rfl⟩
          obtain ⟨p9, hp9⟩ : ∃ p9, p9 = Y.heap.size := ⟨_, rfl⟩
          have HPP := Lib.hid (show p8 ≠ p9 ∧ (p3 ≠ p8 ∧ p3 ≠ p9 ∧ p7 ≠ p8 ∧ p7 ≠ p9) ∧ X1.heap.size ≤ p8 ∧ X1.heap.size ≤ p9 from by have h1 := HYS.out.1.lt; have h2 := HYS.out.2.1.lt; have h3 := HYS.out.2.2.size; omega)
          skip
          rw [← hZ] at HKB HZ1 HZ2 hHeld ⊢
          rw [← hp8] at HZ2 ⊢; rw [← hp9] at HZ1 ⊢
          clear hZ hp8 hp9 hz2
          have HA8 := Lib.hid HZ2.out
          have HA9 := Lib.hid HZ1.out
          obtain ⟨u1, u2, u3⟩ := HA8.out.facts
          obtain ⟨t1, t2, t3⟩ := HA9.out.facts
          have HKC := Lib.hid (⟨(HKB.out.1.set_ne HPP.out.2.1.1 _).set_ne HPP.out.2.1.1 _, (HKB.out.2.1.set_ne HPP.out.2.1.2.2.1 _).set_ne HPP.out.2.1.2.2.1 _, (HKB.out.2.2.setCell (p := ⟨p8, 0, none⟩) HPP.out.2.2.1 _).setCell (p := ⟨p8, 1, none⟩) HPP.out.2.2.1 _⟩ : ((fun wx => Bk 71 wx p3 #[.int .i64 x, .int .i64 y] ∧ Bk 71 wx p7 #[.int .i64 xm, .int .i64 y] ∧ Below X1.heap.size X1 wx) ((Z.setCell ⟨p8, 0, none⟩ (.int .i64 x)).setCell ⟨p8, 1, none⟩ (.int .i64 y))))
          refine wpAnyT_one (i := 18) (by kernel_rfl) rfl (fun K hK => ?_)
          go_simp
          refine hK.out _ _ (HKC.out) (fun hHeld => ?_)
          clear hK K
          try simp only [List.getElem_toArray, List.getElem_cons_zero, List.getElem_cons_succ, Act.put, List.setIfInBounds_toArray, List.set_cons_zero, List.set_cons_succ]
          clear u1 u2 u3 t1 t2 t3
          have HE8 := Lib.hid ((HA8.out.set 0 (.int .i64 x)).set 1 (.int .i64 y))
          have HE9 := Lib.hid ((HA9.out.set_ne (Ne.symm HPP.out.1) (k := p8) (j := 0) (.int .i64 x)).set_ne (Ne.symm HPP.out.1) (k := p8) (j := 1) (.int .i64 y))
          obtain ⟨Z2, hZ2⟩ : ∃ Z2, Z2 = ((Z.setCell ⟨p8, 0, none⟩ (.int .i64 x)).setCell ⟨p8, 1, none⟩ (.int .i64 y)) := ⟨_, rfl⟩
          rw [← hZ2] at HE8 HE9 HKC hHeld ⊢
          clear hZ2
          obtain ⟨t1, t2, t3⟩ := HE9.out.facts
          refine wpAnyT_last (by kernel_rfl) (by kernel_rfl) rfl (fun K hK => ?_)
          go_simp
          refine hK.out _ _ ?_
          clear hK K
          have HF8 := Lib.hid ((HE8.out.set_ne HPP.out.1 (k := p9) (j := 0) (.int .i64 (max x xm))).set_ne HPP.out.1 (k := p9) (j := 1) (.int .i64 y))
          have HF9 := Lib.hid ((HE9.out.set 0 (.int .i64 (max x xm))).set 1 (.int .i64 y))
          have HFB := Lib.hid ((HKC.out.2.2.setCell (p := ⟨p9, 0, none⟩) HPP.out.2.2.2 (.int .i64 (max x xm))).setCell (p := ⟨p9, 1, none⟩) HPP.out.2.2.2 (.int .i64 y))
          go_wp2
          go_meet
          case rel => exact ⟨p8, p9, rfl, rfl, HF8.out, HF9.out, HFB.out⟩
      case rest =>
        obtain ⟨p8, p9, rfl, rfl, h8, h9, hbx⟩ := hcut
        clear f1 f2 f3 g1 g2 g3 HN8 HN9 HM8 HM9
        rw [HM2.out] at h9
        have HV2 := Lib.hid (show Vc w1.heap.size _ _ _ from own_ext HV1.out hbx)
        have HC2 := Lib.hid (HC1.out.ext hbx)
        have HN2 := Lib.hid (HN1.out.ext hbx)
        have HP2 := Lib.hid (HP1.out.ext hbx)
        have HA2 := Lib.hid (HA1.out.ext hbx)
        have HB2 := Lib.hid (HB1.out.ext hbx)
        have HBW2 := Lib.hid (HBW1.out.trans (hbx.mono HBW1.out.size))
        obtain ⟨X2, hX2⟩ : ∃ X2, X2 = wc := ⟨_, rfl⟩
        rw [← hX2] at HV2 HC2 HN2 HP2 HA2 HB2 HBW2 h8 h9 ⊢
        clear hX2 hbx HV1 HC1 HN1 HP1 HA1 HB1 HBW1
        obtain ⟨f1, f2, f3⟩ := HC2.out.facts
        obtain ⟨g1, g2, g3⟩ := HN2.out.facts
        obtain ⟨i1, i2, i3⟩ := h8.facts
        obtain ⟨j1, j2, j3⟩ := h9.facts
        obtain ⟨v, hv⟩ : ∃ v, v = fb (x, y) := ⟨_, rfl⟩
        have hcc : IsC (x, y) := ⟨⟨by dsimp only; omega, by dsimp only; omega⟩, ⟨by dsimp only; omega, by dsimp only; omega⟩⟩
        have hl : ∀ n, (Instr.lookup 73 (.map (some b2)) (.agg #[.int .i64 x, .int .i64 y]) false).run Tryd.prog (X2.drewN n) = .ok (.bool v) (X2.drewN n) := fun n => by rw [hv]; exact (HB2.out.ext (ext_drewN X2 n)).look hcc
        have hmm := HP2.out.m2_
        have hlm : b < X2.heap.size := World.block_lt_of_cell? X2 ⟨b, 4, none⟩ hmm
        have HW := Lib.hid (show walB fa fb (x, y) (xm, y) = v from by
          have h1 := HXM.out
          have h2 := HXP.out
          have h3 := HYM.out
          have h4 := HYP.out
          have hne : ¬ xm = x := by omega
          unfold walB
          dsimp only
          rw [HM2.out, ← hv]
          simp [hne])
        have het : (xm == x) = false := by have h1 := HXM.out; have h2 := HXP.out; simp; omega
        clear hv hcc h8 h9 HM1 HM2
        rename_i hKc
        refine hKc _ _ ?_
        clear hKc
        go_upto_region 6 with (fail)
        cases v with
        | true =>
          have HE := Lib.hid (opK_no (fa := fa) (fb := fb) (c := (x, y)) (d := (xm, y)) (k := 1) (show 1 < 4 from by decide) (by rw [HXM.out]; rfl) HW.out)
          go_quiet (fail)
          go_wp2
          go_roundg (4 - 2)
          case measure => have := HG.out; omega
          case rel => exact ⟨2, by go_num, by omega, rfl, by rw [HE.out]; exact own_ext HV2.out (ext_drewN _ _), HBW2.out.trans ((ext_drewN _ _).mono HBW2.out.size)⟩
        | false =>
          have HE := Lib.hid (opK_yes (fa := fa) (fb := fb) (c := (x, y)) (d := (xm, y)) (k := 1) (show 1 < 4 from by decide) (by rw [HXM.out]; rfl) HW.out)
          go_quiet (fail)
          go_upto_region 7 with (fail)
          have HV3 := Lib.hid (show Vc w1.heap.size _ _ _ from own_ext HV2.out (ext_drewN X2 nq))
          have HN3 := Lib.hid (HN2.out.ext (ext_drewN X2 nq))
          have HBW3 := Lib.hid (HBW2.out.trans ((ext_drewN X2 nq).mono HBW2.out.size))
          obtain ⟨X3, hX3⟩ : ∃ X3, X3 = X2.drewN nq := ⟨_, rfl⟩
          rw [← hX3] at HV3 HN3 HBW3 ⊢
          clear hX3 f1 f2 f3 g1 g2 g3 i1 i2 i3 j1 j2 j3 hmm hlm hl het HV2 HC2 HN2 HP2 HA2 HB2 HBW2
          obtain ⟨g1, g2, g3⟩ := HN3.out.facts
          have hbase : w1.heap.size ≤ X3.heap.size := HBW3.out.size
          go_wp2_with (at_builtin; refine wpList_pushC _ rfl _ _ rfl w1.heap.size HV3.out (by rfl) (by rfl) rfl (by omega) hbase ?_; intro v5 w5 hv5 hb5 hk5 hk6; have HV5 := Lib.hid hv5; have HB5 := Lib.hid (HBW3.out.trans hb5); clear hv5 hb5 hk5 hk6)
          go_roundg (4 - 2)
          case measure => have := HG.out; omega
          case rel => exact ⟨2, by go_num, by omega, rfl, by rw [HE.out]; exact HV5.out, HB5.out⟩
    · have hI : ∀ V : World, (Instr.index 128 (.agg #[.int .i64 x, .int .i64 ym, .int .i64 xm, .int .i64 y, .int .i64 xp, .int .i64 y, .int .i64 x, .int .i64 yp]) (.int .i64 2)).run Tryd.prog V = .ok (.agg #[.int .i64 xp, .int .i64 y]) V := fun V => by kernel_rfl
      have HN1 := Lib.hid (Bk.new 71 wr #[.int .i64 xp, .int .i64 y])
      have hx0 := ext_alloc wr (.cells #[.int .i64 xp, .int .i64 y] 71)
      have HV1 := Lib.hid (show Vc w1.heap.size _ _ _ from own_ext HV.out hx0)
      have HC1 := Lib.hid (HC.out.ext hx0)
      have HP1 := Lib.hid (HP.out.ext hx0)
      have HA1 := Lib.hid (HA.out.ext hx0)
      have HB1 := Lib.hid (HB.out.ext hx0)
      have HBW1 := Lib.hid (HBW.out.trans (hx0.mono HBW.out.size))
      have HPV := Lib.hid (fun k e => (own_lt HV.out k e).2)
      clear hx0 HV HP HA HB HBW
      go_upto_region 5 with (fail)
      obtain ⟨X1, hX1⟩ : ∃ X1, X1 = wr.alloc (.cells #[.int .i64 xp, .int .i64 y] 71) := ⟨_, rfl⟩
      obtain ⟨p7, hp7⟩ : ∃ p7, p7 = wr.heap.size := ⟨_, rfl⟩
      rw [← hX1] at HN1 HV1 HC1 HP1 HA1 HB1 HBW1 ⊢
      rw [← hp7] at HN1 HPV ⊢
      clear hX1 hp7 hI f1 f2 f3 HC
      obtain ⟨f1, f2, f3⟩ := HC1.out.facts
      obtain ⟨g1, g2, g3⟩ := HN1.out.facts
      have hm1 : y = y := by have := HYM.out; have := HYP.out; omega
      have hm2 : (max x xp) = xp := by have := HXM.out; have := HXP.out; omega
      have HM1 := Lib.hid hm1
      have HM2 := Lib.hid hm2
      clear hm1 hm2
      have HN8 := Lib.hid ((Bk.new 71 X1 #[.int .i64 x, .int .i64 y]).alloc (.cells #[.int .i64 (max x xp), .int .i64 y] 71))
      have HN9 := Bk.new 71 (X1.alloc (.cells #[.int .i64 x, .int .i64 y] 71)) #[.int .i64 (max x xp), .int .i64 y]
      rw [World.size_alloc] at HN9
      have HN9 := Lib.hid HN9
      have HM8 := Lib.hid ((Bk.new 71 X1 #[.int .i64 (max x xp), .int .i64 y]).alloc (.cells #[.int .i64 x, .int .i64 y] 71))
      have HM9 := Bk.new 71 (X1.alloc (.cells #[.int .i64 (max x xp), .int .i64 y] 71)) #[.int .i64 x, .int .i64 y]
      rw [World.size_alloc] at HM9
      have HM9 := Lib.hid HM9
      go_cut [8, 9] from 15 to 62 (fun v8 v9 wx => ∃ p8 p9 : Nat, v8 = .pointer (some ⟨p8, 0, none⟩) ∧ v9 = .pointer (some ⟨p9, 0, none⟩) ∧ Bk 71 wx p8 #[.int .i64 x, .int .i64 y] ∧ Bk 71 wx p9 #[.int .i64 (max x xp), .int .i64 y] ∧ Below X1.heap.size X1 wx)
      case first =>
        refine wp_region_T (S := fun wx => Bk 71 wx p3 #[.int .i64 x, .int .i64 y] ∧ Bk 71 wx p7 #[.int .i64 xp, .int .i64 y] ∧ Below X1.heap.size X1 wx) 19 (by kernel_rfl) ⟨HC1.out.ext (ext_drew _), HN1.out.ext (ext_drew _), ext_drew _⟩ (fun hHeld => ?_)
        obtain ⟨Y, hY⟩ : ∃ Y, Y = X1.drew := ⟨_, rfl⟩
        rw [← hY] at hHeld ⊢
        clear hY
        refine wpAnyT_take (i := 0) (v := ?v33) [] rfl (by kernel_rfl) (fun _ _ _ h => h) (Or.inl ⟨by rfl, ?hy33⟩) hHeld ?rst33
        case hy33 => (intro wx hSw; obtain ⟨q1, q2, _⟩ := hSw; have q3 := Bk.cell q1; have q4 := Bk.cell q2; go_simp; try (with_reducible rfl))
        try simp only [List.getElem_toArray, List.getElem_cons_zero, Act.put, List.setIfInBounds_toArray, List.set_cons_zero, List.set_cons_succ]
        refine wpAnyT_take (i := 1) (v := ?v34) [] rfl (by kernel_rfl) (fun _ _ _ h => h) (Or.inl ⟨by rfl, ?hy34⟩) hHeld ?rst34
        case hy34 => (intro wx hSw; obtain ⟨q1, q2, _⟩ := hSw; have q3 := Bk.cell q1; have q4 := Bk.cell q2; go_simp; try (with_reducible rfl))
        try simp only [List.getElem_toArray, List.getElem_cons_zero, List.getElem_cons_succ, Act.put, List.setIfInBounds_toArray, List.set_cons_zero, List.set_cons_succ]
        refine wpAnyT_take (i := 2) (v := ?v35) [] rfl (by kernel_rfl) (fun _ _ _ h => h) (Or.inl ⟨by rfl, ?hy35⟩) hHeld ?rst35
        case hy35 => (intro wx hSw; obtain ⟨q1, q2, _⟩ := hSw; have q3 := Bk.cell q1; have q4 := Bk.cell q2; go_simp; try (with_reducible rfl))
        try simp only [List.getElem_toArray, List.getElem_cons_zero, List.getElem_cons_succ, Act.put, List.setIfInBounds_toArray, List.set_cons_zero, List.set_cons_succ]
        refine wpAnyT_take (i := 3) (v := ?v36) [] rfl (by kernel_rfl) (fun _ _ _ h => h) (Or.inl ⟨by rfl, ?hy36⟩) hHeld ?rst36
        case hy36 => (intro wx hSw; obtain ⟨q1, q2, _⟩ := hSw; have q3 := Bk.cell q1; have q4 := Bk.cell q2; go_simp; try (with_reducible rfl))
        try simp only [List.getElem_toArray, List.getElem_cons_zero, List.getElem_cons_succ, Act.put, List.setIfInBounds_toArray, List.set_cons_zero, List.set_cons_succ]
        refine wpAnyT_take (i := 4) (v := ?v37) [] rfl (by kernel_rfl) (fun _ _ _ h => h) (Or.inl ⟨by rfl, ?hy37⟩) hHeld ?rst37
        case hy37 => (intro wx hSw; obtain ⟨q1, q2, _⟩ := hSw; have q3 := Bk.cell q1; have q4 := Bk.cell q2; go_simp; try (with_reducible rfl))
        try simp only [List.getElem_toArray, List.getElem_cons_zero, List.getElem_cons_succ, Act.put, List.setIfInBounds_toArray, List.set_cons_zero, List.set_cons_succ]
        refine wpAnyT_take (i := 5) (v := ?v38) [] rfl (by kernel_rfl) (fun _ _ _ h => h) (Or.inl ⟨by rfl, ?hy38⟩) hHeld ?rst38
        case hy38 => (intro wx hSw; obtain ⟨q1, q2, _⟩ := hSw; have q3 := Bk.cell q1; have q4 := Bk.cell q2; go_simp; try (with_reducible rfl))
        try simp only [List.getElem_toArray, List.getElem_cons_zero, List.getElem_cons_succ, Act.put, List.setIfInBounds_toArray, List.set_cons_zero, List.set_cons_succ]
        refine wpAnyT_take (i := 6) (v := ?v39) [] rfl (by kernel_rfl) (fun _ _ _ h => h) (Or.inl ⟨by rfl, ?hy39⟩) hHeld ?rst39
        case hy39 => (intro wx hSw; obtain ⟨q1, q2, _⟩ := hSw; have q3 := Bk.cell q1; have q4 := Bk.cell q2; go_simp; try (with_reducible rfl))
        try simp only [List.getElem_toArray, List.getElem_cons_zero, List.getElem_cons_succ, Act.put, List.setIfInBounds_toArray, List.set_cons_zero, List.set_cons_succ]
        refine wpAnyT_take (i := 7) (v := ?v40) [] rfl (by kernel_rfl) (fun _ _ _ h => h) (Or.inl ⟨by rfl, ?hy40⟩) hHeld ?rst40
        case hy40 => (intro wx hSw; obtain ⟨q1, q2, _⟩ := hSw; have q3 := Bk.cell q1; have q4 := Bk.cell q2; go_simp; try (with_reducible rfl))
        try simp only [List.getElem_toArray, List.getElem_cons_zero, List.getElem_cons_succ, Act.put, List.setIfInBounds_toArray, List.set_cons_zero, List.set_cons_succ]
        refine wpAnyT_take (i := 8) (v := ?v41) [] rfl (by kernel_rfl) (fun _ _ _ h => h) (Or.inl ⟨by rfl, ?hy41⟩) hHeld ?rst41
        case hy41 => (intro wx hSw; obtain ⟨q1, q2, _⟩ := hSw; have q3 := Bk.cell q1; have q4 := Bk.cell q2; go_simp; try (with_reducible rfl))
        try simp only [List.getElem_toArray, List.getElem_cons_zero, List.getElem_cons_succ, Act.put, List.setIfInBounds_toArray, List.set_cons_zero, List.set_cons_succ]
        refine wpAnyT_take (i := 9) (v := ?v42) [] rfl (by kernel_rfl) (fun _ _ _ h => h) (Or.inl ⟨by rfl, ?hy42⟩) hHeld ?rst42
        case hy42 => (intro wx hSw; obtain ⟨q1, q2, _⟩ := hSw; have q3 := Bk.cell q1; have q4 := Bk.cell q2; go_simp; try (with_reducible rfl))
        try simp only [List.getElem_toArray, List.getElem_cons_zero, List.getElem_cons_succ, Act.put, List.setIfInBounds_toArray, List.set_cons_zero, List.set_cons_succ]
        refine wpAnyT_take (i := 10) (v := ?v43) [] rfl (by kernel_rfl) (fun _ _ _ h => h) (Or.inl ⟨by rfl, ?hy43⟩) hHeld ?rst43
        case hy43 => (intro wx hSw; obtain ⟨q1, q2, _⟩ := hSw; have q3 := Bk.cell q1; have q4 := Bk.cell q2; go_simp; try (with_reducible rfl))
        try simp only [List.getElem_toArray, List.getElem_cons_zero, List.getElem_cons_succ, Act.put, List.setIfInBounds_toArray, List.set_cons_zero, List.set_cons_succ]
        refine wpAnyT_take (i := 11) (v := ?v44) [] rfl (by kernel_rfl) (fun _ _ _ h => h) (Or.inl ⟨by rfl, ?hy44⟩) hHeld ?rst44
        case hy44 => (intro wx hSw; obtain ⟨q1, q2, _⟩ := hSw; have q3 := Bk.cell q1; have q4 := Bk.cell q2; go_simp; try (with_reducible rfl))
        try simp only [List.getElem_toArray, List.getElem_cons_zero, List.getElem_cons_succ, Act.put, List.setIfInBounds_toArray, List.set_cons_zero, List.set_cons_succ]
        refine wpAnyT_take (i := 12) (v := ?v45) [] rfl (by kernel_rfl) (fun _ _ _ h => h) (Or.inl ⟨by rfl, ?hy45⟩) hHeld ?rst45
        case hy45 => (intro wx hSw; obtain ⟨q1, q2, _⟩ := hSw; have q3 := Bk.cell q1; have q4 := Bk.cell q2; go_simp; try (with_reducible rfl))
        try simp only [List.getElem_toArray, List.getElem_cons_zero, List.getElem_cons_succ, Act.put, List.setIfInBounds_toArray, List.set_cons_zero, List.set_cons_succ]
        refine wpAnyT_take (i := 13) (v := ?v46) [] rfl (by kernel_rfl) (fun _ _ _ h => h) (Or.inl ⟨by rfl, ?hy46⟩) hHeld ?rst46
        case hy46 => (intro wx hSw; obtain ⟨q1, q2, _⟩ := hSw; have q3 := Bk.cell q1; have q4 := Bk.cell q2; go_simp; try (with_reducible rfl))
        try simp only [List.getElem_toArray, List.getElem_cons_zero, List.getElem_cons_succ, Act.put, List.setIfInBounds_toArray, List.set_cons_zero, List.set_cons_succ]
        refine wpAnyT_take (i := 14) (v := ?v47) [] rfl (by kernel_rfl) (fun _ _ _ h => h) (Or.inl ⟨by rfl, ?hy47⟩) hHeld ?rst47
        case hy47 => (intro wx hSw; obtain ⟨q1, q2, _⟩ := hSw; have q3 := Bk.cell q1; have q4 := Bk.cell q2; go_simp; try (with_reducible rfl))
        try simp only [List.getElem_toArray, List.getElem_cons_zero, List.getElem_cons_succ, Act.put, List.setIfInBounds_toArray, List.set_cons_zero, List.set_cons_succ]
        refine wpAnyT_take (i := 15) (v := ?v48) [] rfl (by kernel_rfl) (fun _ _ _ h => h) (Or.inl ⟨by rfl, ?hy48⟩) hHeld ?rst48
        case hy48 => (intro wx hSw; obtain ⟨q1, q2, _⟩ := hSw; have q3 := Bk.cell q1; have q4 := Bk.cell q2; go_simp; try (with_reducible rfl))
        try simp only [List.getElem_toArray, List.getElem_cons_zero, List.getElem_cons_succ, Act.put, List.setIfInBounds_toArray, List.set_cons_zero, List.set_cons_succ]
        have HYS := Lib.hid hHeld
        have HKA := Lib.hid (⟨HYS.out.1.alloc _, HYS.out.2.1.alloc _, HYS.out.2.2.alloc HYS.out.2.2.size _⟩ : ((fun wx => Bk 71 wx p3 #[.int .i64 x, .int .i64 y] ∧ Bk 71 wx p7 #[.int .i64 xp, .int .i64 y] ∧ Below X1.heap.size X1 wx) (Y.alloc (.cells #[.int .i64 0, .int .i64 0] 71))))
        have HKB := Lib.hid (⟨HKA.out.1.alloc _, HKA.out.2.1.alloc _, HKA.out.2.2.alloc HKA.out.2.2.size _⟩ : ((fun wx => Bk 71 wx p3 #[.int .i64 x, .int .i64 y] ∧ Bk 71 wx p7 #[.int .i64 xp, .int .i64 y] ∧ Below X1.heap.size X1 wx) ((Y.alloc (.cells #[.int .i64 0, .int .i64 0] 71)).alloc (.cells #[.int .i64 0, .int .i64 0] 71))))
        refine wpAnyT_two (i := 16) (j := 17) (by kernel_rfl) rfl rfl (fun K hK => ?_) (fun K hK => ?_)
        · go_simp
          refine hK.out _ _ HKA.out (fun hHeld => ?_)
          clear hK K
          try simp only [List.getElem_toArray, List.getElem_cons_zero, List.getElem_cons_succ, Act.put, List.setIfInBounds_toArray, List.set_cons_zero, List.set_cons_succ]
          refine wpAnyT_one (i := 17) (by kernel_rfl) rfl (fun K hK => ?_)
          go_simp
          refine hK.out _ _ (HKB.out) (fun hHeld => ?_)
          clear hK K
          try simp only [List.getElem_toArray, List.getElem_cons_zero, List.getElem_cons_succ, Act.put, List.setIfInBounds_toArray, List.set_cons_zero, List.set_cons_succ]
          have HZ1 := Lib.hid ((Bk.new 71 Y #[.int .i64 0, .int .i64 0]).alloc (.cells #[.int .i64 0, .int .i64 0] 71))
          have hz2 := Bk.new 71 (Y.alloc (.cells #[.int .i64 0, .int .i64 0] 71)) #[.int .i64 0, .int .i64 0]
          rw [World.size_alloc] at hz2
          have HZ2 := Lib.hid hz2
          obtain ⟨Z, hZ⟩ : ∃ Z, Z = (Y.alloc (.cells #[.int .i64 0, .int .i64 0] 71)).alloc (.cells #[.int .i64 0, .int .i64 0] 71) := ⟨_, rfl⟩
          obtain ⟨p8, hp8⟩ : ∃ p8, p8 = Y.heap.size := ⟨_, rfl⟩
          obtain ⟨p9, hp9⟩ : ∃ p9, p9 = Y.heap.size + 1 := ⟨_, rfl⟩
          have HPP := Lib.hid (show p8 ≠ p9 ∧ (p3 ≠ p8 ∧ p3 ≠ p9 ∧ p7 ≠ p8 ∧ p7 ≠ p9) ∧ X1.heap.size ≤ p8 ∧ X1.heap.size ≤ p9 from by have h1 := HYS.out.1.lt; have h2 := HYS.out.2.1.lt; have h3 := HYS.out.2.2.size; omega)
          skip
          rw [← hZ] at HKB HZ1 HZ2 hHeld ⊢
          rw [← hp9] at HZ2 ⊢; rw [← hp8] at HZ1 ⊢
          clear hZ hp8 hp9 hz2
          have HA8 := Lib.hid HZ1.out
          have HA9 := Lib.hid HZ2.out
          obtain ⟨u1, u2, u3⟩ := HA8.out.facts
          obtain ⟨t1, t2, t3⟩ := HA9.out.facts
          have HKC := Lib.hid (⟨(HKB.out.1.set_ne HPP.out.2.1.1 _).set_ne HPP.out.2.1.1 _, (HKB.out.2.1.set_ne HPP.out.2.1.2.2.1 _).set_ne HPP.out.2.1.2.2.1 _, (HKB.out.2.2.setCell (p := ⟨p8, 0, none⟩) HPP.out.2.2.1 _).setCell (p := ⟨p8, 1, none⟩) HPP.out.2.2.1 _⟩ : ((fun wx => Bk 71 wx p3 #[.int .i64 x, .int .i64 y] ∧ Bk 71 wx p7 #[.int .i64 xp, .int .i64 y] ∧ Below X1.heap.size X1 wx) ((Z.setCell ⟨p8, 0, none⟩ (.int .i64 x)).setCell ⟨p8, 1, none⟩ (.int .i64 y))))
          refine wpAnyT_one (i := 18) (by kernel_rfl) rfl (fun K hK => ?_)
          go_simp
          refine hK.out _ _ (HKC.out) (fun hHeld => ?_)
          clear hK K
          try simp only [List.getElem_toArray, List.getElem_cons_zero, List.getElem_cons_succ, Act.put, List.setIfInBounds_toArray, List.set_cons_zero, List.set_cons_succ]
          clear u1 u2 u3 t1 t2 t3
          have HE8 := Lib.hid ((HA8.out.set 0 (.int .i64 x)).set 1 (.int .i64 y))
          have HE9 := Lib.hid ((HA9.out.set_ne (Ne.symm HPP.out.1) (k := p8) (j := 0) (.int .i64 x)).set_ne (Ne.symm HPP.out.1) (k := p8) (j := 1) (.int .i64 y))
          obtain ⟨Z2, hZ2⟩ : ∃ Z2, Z2 = ((Z.setCell ⟨p8, 0, none⟩ (.int .i64 x)).setCell ⟨p8, 1, none⟩ (.int .i64 y)) := ⟨_, rfl⟩
          rw [← hZ2] at HE8 HE9 HKC hHeld ⊢
          clear hZ2
          obtain ⟨t1, t2, t3⟩ := HE9.out.facts
          refine wpAnyT_last (by kernel_rfl) (by kernel_rfl) rfl (fun K hK => ?_)
          go_simp
          refine hK.out _ _ ?_
          clear hK K
          have HF8 := Lib.hid ((HE8.out.set_ne HPP.out.1 (k := p9) (j := 0) (.int .i64 (max x xp))).set_ne HPP.out.1 (k := p9) (j := 1) (.int .i64 y))
          have HF9 := Lib.hid ((HE9.out.set 0 (.int .i64 (max x xp))).set 1 (.int .i64 y))
          have HFB := Lib.hid ((HKC.out.2.2.setCell (p := ⟨p9, 0, none⟩) HPP.out.2.2.2 (.int .i64 (max x xp))).setCell (p := ⟨p9, 1, none⟩) HPP.out.2.2.2 (.int .i64 y))
          go_wp2
          go_meet
          case rel => exact ⟨p8, p9, rfl, rfl, HF8.out, HF9.out, HFB.out⟩
        · go_simp
          refine hK.out _ _ HKA.out (fun hHeld => ?_)
          clear hK K
          try simp only [List.getElem_toArray, List.getElem_cons_zero, List.getElem_cons_succ, Act.put, List.setIfInBounds_toArray, List.set_cons_zero, List.set_cons_succ]
          refine wpAnyT_one (i := 16) (by kernel_rfl) rfl (fun K hK => ?_)
          go_simp
          refine hK.out _ _ (HKB.out) (fun hHeld => ?_)
          clear hK K
          try simp only [List.getElem_toArray, List.getElem_cons_zero, List.getElem_cons_succ, Act.put, List.setIfInBounds_toArray, List.set_cons_zero, List.set_cons_succ]
          have HZ1 := Lib.hid ((Bk.new 71 Y #[.int .i64 0, .int .i64 0]).alloc (.cells #[.int .i64 0, .int .i64 0] 71))
          have hz2 := Bk.new 71 (Y.alloc (.cells #[.int .i64 0, .int .i64 0] 71)) #[.int .i64 0, .int .i64 0]
          rw [World.size_alloc] at hz2
          have HZ2 := Lib.hid hz2
          obtain ⟨Z, hZ⟩ : ∃ Z, Z = (Y.alloc (.cells #[.int .i64 0, .int .i64 0] 71)).alloc (.cells #[.int .i64 0, .int .i64 0] 71) := ⟨_, rfl⟩
          obtain ⟨p8, hp8⟩ : ∃ p8, p8 = Y.heap.size + 1 := ⟨_, rfl⟩
          obtain ⟨p9, hp9⟩ : ∃ p9, p9 = Y.heap.size := ⟨_, rfl⟩
          have HPP := Lib.hid (show p8 ≠ p9 ∧ (p3 ≠ p8 ∧ p3 ≠ p9 ∧ p7 ≠ p8 ∧ p7 ≠ p9) ∧ X1.heap.size ≤ p8 ∧ X1.heap.size ≤ p9 from by have h1 := HYS.out.1.lt; have h2 := HYS.out.2.1.lt; have h3 := HYS.out.2.2.size; omega)
          skip
          rw [← hZ] at HKB HZ1 HZ2 hHeld ⊢
          rw [← hp8] at HZ2 ⊢; rw [← hp9] at HZ1 ⊢
          clear hZ hp8 hp9 hz2
          have HA8 := Lib.hid HZ2.out
          have HA9 := Lib.hid HZ1.out
          obtain ⟨u1, u2, u3⟩ := HA8.out.facts
          obtain ⟨t1, t2, t3⟩ := HA9.out.facts
          have HKC := Lib.hid (⟨(HKB.out.1.set_ne HPP.out.2.1.1 _).set_ne HPP.out.2.1.1 _, (HKB.out.2.1.set_ne HPP.out.2.1.2.2.1 _).set_ne HPP.out.2.1.2.2.1 _, (HKB.out.2.2.setCell (p := ⟨p8, 0, none⟩) HPP.out.2.2.1 _).setCell (p := ⟨p8, 1, none⟩) HPP.out.2.2.1 _⟩ : ((fun wx => Bk 71 wx p3 #[.int .i64 x, .int .i64 y] ∧ Bk 71 wx p7 #[.int .i64 xp, .int .i64 y] ∧ Below X1.heap.size X1 wx) ((Z.setCell ⟨p8, 0, none⟩ (.int .i64 x)).setCell ⟨p8, 1, none⟩ (.int .i64 y))))
          refine wpAnyT_one (i := 18) (by kernel_rfl) rfl (fun K hK => ?_)
          go_simp
          refine hK.out _ _ (HKC.out) (fun hHeld => ?_)
          clear hK K
          try simp only [List.getElem_toArray, List.getElem_cons_zero, List.getElem_cons_succ, Act.put, List.setIfInBounds_toArray, List.set_cons_zero, List.set_cons_succ]
          clear u1 u2 u3 t1 t2 t3
          have HE8 := Lib.hid ((HA8.out.set 0 (.int .i64 x)).set 1 (.int .i64 y))
          have HE9 := Lib.hid ((HA9.out.set_ne (Ne.symm HPP.out.1) (k := p8) (j := 0) (.int .i64 x)).set_ne (Ne.symm HPP.out.1) (k := p8) (j := 1) (.int .i64 y))
          obtain ⟨Z2, hZ2⟩ : ∃ Z2, Z2 = ((Z.setCell ⟨p8, 0, none⟩ (.int .i64 x)).setCell ⟨p8, 1, none⟩ (.int .i64 y)) := ⟨_, rfl⟩
          rw [← hZ2] at HE8 HE9 HKC hHeld ⊢
          clear hZ2
          obtain ⟨t1, t2, t3⟩ := HE9.out.facts
          refine wpAnyT_last (by kernel_rfl) (by kernel_rfl) rfl (fun K hK => ?_)
          go_simp
          refine hK.out _ _ ?_
          clear hK K
          have HF8 := Lib.hid ((HE8.out.set_ne HPP.out.1 (k := p9) (j := 0) (.int .i64 (max x xp))).set_ne HPP.out.1 (k := p9) (j := 1) (.int .i64 y))
          have HF9 := Lib.hid ((HE9.out.set 0 (.int .i64 (max x xp))).set 1 (.int .i64 y))
          have HFB := Lib.hid ((HKC.out.2.2.setCell (p := ⟨p9, 0, none⟩) HPP.out.2.2.2 (.int .i64 (max x xp))).setCell (p := ⟨p9, 1, none⟩) HPP.out.2.2.2 (.int .i64 y))
          go_wp2
          go_meet
          case rel => exact ⟨p8, p9, rfl, rfl, HF8.out, HF9.out, HFB.out⟩
      case rest =>
        obtain ⟨p8, p9, rfl, rfl, h8, h9, hbx⟩ := hcut
        clear f1 f2 f3 g1 g2 g3 HN8 HN9 HM8 HM9
        rw [HM2.out] at h9
        have HV2 := Lib.hid (show Vc w1.heap.size _ _ _ from own_ext HV1.out hbx)
        have HC2 := Lib.hid (HC1.out.ext hbx)
        have HN2 := Lib.hid (HN1.out.ext hbx)
        have HP2 := Lib.hid (HP1.out.ext hbx)
        have HA2 := Lib.hid (HA1.out.ext hbx)
        have HB2 := Lib.hid (HB1.out.ext hbx)
        have HBW2 := Lib.hid (HBW1.out.trans (hbx.mono HBW1.out.size))
        obtain ⟨X2, hX2⟩ : ∃ X2, X2 = wc := ⟨_, rfl⟩
        rw [← hX2] at HV2 HC2 HN2 HP2 HA2 HB2 HBW2 h8 h9 ⊢
        clear hX2 hbx HV1 HC1 HN1 HP1 HA1 HB1 HBW1
        obtain ⟨f1, f2, f3⟩ := HC2.out.facts
        obtain ⟨g1, g2, g3⟩ := HN2.out.facts
        obtain ⟨i1, i2, i3⟩ := h8.facts
        obtain ⟨j1, j2, j3⟩ := h9.facts
        obtain ⟨v, hv⟩ : ∃ v, v = fb (xp, y) := ⟨_, rfl⟩
        have hcc : IsC (xp, y) := ⟨⟨by dsimp only; omega, by dsimp only; omega⟩, ⟨by dsimp only; omega, by dsimp only; omega⟩⟩
        have hl : ∀ n, (Instr.lookup 73 (.map (some b2)) (.agg #[.int .i64 xp, .int .i64 y]) false).run Tryd.prog (X2.drewN n) = .ok (.bool v) (X2.drewN n) := fun n => by rw [hv]; exact (HB2.out.ext (ext_drewN X2 n)).look hcc
        have hmm := HP2.out.m2_
        have hlm : b < X2.heap.size := World.block_lt_of_cell? X2 ⟨b, 4, none⟩ hmm
        have HW := Lib.hid (show walB fa fb (x, y) (xp, y) = v from by
          have h1 := HXM.out
          have h2 := HXP.out
          have h3 := HYM.out
          have h4 := HYP.out
          have hne : ¬ xp = x := by omega
          unfold walB
          dsimp only
          rw [HM2.out, ← hv]
          simp [hne])
        have het : (xp == x) = false := by have h1 := HXM.out; have h2 := HXP.out; simp; omega
        clear hv hcc h8 h9 HM1 HM2
        rename_i hKc
        refine hKc _ _ ?_
        clear hKc
        go_upto_region 6 with (fail)
        cases v with
        | true =>
          have HE := Lib.hid (opK_no (fa := fa) (fb := fb) (c := (x, y)) (d := (xp, y)) (k := 2) (show 2 < 4 from by decide) (by rw [HXP.out]; rfl) HW.out)
          go_quiet (fail)
          go_wp2
          go_roundg (4 - 3)
          case measure => have := HG.out; omega
          case rel => exact ⟨3, by go_num, by omega, rfl, by rw [HE.out]; exact own_ext HV2.out (ext_drewN _ _), HBW2.out.trans ((ext_drewN _ _).mono HBW2.out.size)⟩
        | false =>
          have HE := Lib.hid (opK_yes (fa := fa) (fb := fb) (c := (x, y)) (d := (xp, y)) (k := 2) (show 2 < 4 from by decide) (by rw [HXP.out]; rfl) HW.out)
          go_quiet (fail)
          go_upto_region 7 with (fail)
          have HV3 := Lib.hid (show Vc w1.heap.size _ _ _ from own_ext HV2.out (ext_drewN X2 nq))
          have HN3 := Lib.hid (HN2.out.ext (ext_drewN X2 nq))
          have HBW3 := Lib.hid (HBW2.out.trans ((ext_drewN X2 nq).mono HBW2.out.size))
          obtain ⟨X3, hX3⟩ : ∃ X3, X3 = X2.drewN nq := ⟨_, rfl⟩
          rw [← hX3] at HV3 HN3 HBW3 ⊢
          clear hX3 f1 f2 f3 g1 g2 g3 i1 i2 i3 j1 j2 j3 hmm hlm hl het HV2 HC2 HN2 HP2 HA2 HB2 HBW2
          obtain ⟨g1, g2, g3⟩ := HN3.out.facts
          have hbase : w1.heap.size ≤ X3.heap.size := HBW3.out.size
          go_wp2_with (at_builtin; refine wpList_pushC _ rfl _ _ rfl w1.heap.size HV3.out (by rfl) (by rfl) rfl (by omega) hbase ?_; intro v5 w5 hv5 hb5 hk5 hk6; have HV5 := Lib.hid hv5; have HB5 := Lib.hid (HBW3.out.trans hb5); clear hv5 hb5 hk5 hk6)
          go_roundg (4 - 3)
          case measure => have := HG.out; omega
          case rel => exact ⟨3, by go_num, by omega, rfl, by rw [HE.out]; exact HV5.out, HB5.out⟩
    · have hI : ∀ V : World, (Instr.index 128 (.agg #[.int .i64 x, .int .i64 ym, .int .i64 xm, .int .i64 y, .int .i64 xp, .int .i64 y, .int .i64 x, .int .i64 yp]) (.int .i64 3)).run Tryd.prog V = .ok (.agg #[.int .i64 x, .int .i64 yp]) V := fun V => by kernel_rfl
      have HN1 := Lib.hid (Bk.new 71 wr #[.int .i64 x, .int .i64 yp])
      have hx0 := ext_alloc wr (.cells #[.int .i64 x, .int .i64 yp] 71)
      have HV1 := Lib.hid (show Vc w1.heap.size _ _ _ from own_ext HV.out hx0)
      have HC1 := Lib.hid (HC.out.ext hx0)
      have HP1 := Lib.hid (HP.out.ext hx0)
      have HA1 := Lib.hid (HA.out.ext hx0)
      have HB1 := Lib.hid (HB.out.ext hx0)
      have HBW1 := Lib.hid (HBW.out.trans (hx0.mono HBW.out.size))
      have HPV := Lib.hid (fun k e => (own_lt HV.out k e).2)
      clear hx0 HV HP HA HB HBW
      go_upto_region 5 with (fail)
      obtain ⟨X1, hX1⟩ : ∃ X1, X1 = wr.alloc (.cells #[.int .i64 x, .int .i64 yp] 71) := ⟨_, rfl⟩
      obtain ⟨p7, hp7⟩ : ∃ p7, p7 = wr.heap.size := ⟨_, rfl⟩
      rw [← hX1] at HN1 HV1 HC1 HP1 HA1 HB1 HBW1 ⊢
      rw [← hp7] at HN1 HPV ⊢
      clear hX1 hp7 hI f1 f2 f3 HC
      obtain ⟨f1, f2, f3⟩ := HC1.out.facts
      obtain ⟨g1, g2, g3⟩ := HN1.out.facts
      have hm1 : (max y yp) = yp := by have := HYM.out; have := HYP.out; omega
      have hm2 : x = x := by have := HXM.out; have := HXP.out; omega
      have HM1 := Lib.hid hm1
      have HM2 := Lib.hid hm2
      clear hm1 hm2
      have HN8 := Lib.hid ((Bk.new 71 X1 #[.int .i64 x, .int .i64 (max y yp)]).alloc (.cells #[.int .i64 x, .int .i64 y] 71))
      have HN9 := Bk.new 71 (X1.alloc (.cells #[.int .i64 x, .int .i64 (max y yp)] 71)) #[.int .i64 x, .int .i64 y]
      rw [World.size_alloc] at HN9
      have HN9 := Lib.hid HN9
      have HM8 := Lib.hid ((Bk.new 71 X1 #[.int .i64 x, .int .i64 y]).alloc (.cells #[.int .i64 x, .int .i64 (max y yp)] 71))
      have HM9 := Bk.new 71 (X1.alloc (.cells #[.int .i64 x, .int .i64 y] 71)) #[.int .i64 x, .int .i64 (max y yp)]
      rw [World.size_alloc] at HM9
      have HM9 := Lib.hid HM9
      go_cut [8, 9] from 15 to 62 (fun v8 v9 wx => ∃ p8 p9 : Nat, v8 = .pointer (some ⟨p8, 0, none⟩) ∧ v9 = .pointer (some ⟨p9, 0, none⟩) ∧ Bk 71 wx p8 #[.int .i64 x, .int .i64 (max y yp)] ∧ Bk 71 wx p9 #[.int .i64 x, .int .i64 y] ∧ Below X1.heap.size X1 wx)
      case first =>
        refine wp_region_T (S := fun wx => Bk 71 wx p3 #[.int .i64 x, .int .i64 y] ∧ Bk 71 wx p7 #[.int .i64 x, .int .i64 yp] ∧ Below X1.heap.size X1 wx) 19 (by kernel_rfl) ⟨HC1.out.ext (ext_drew _), HN1.out.ext (ext_drew _), ext_drew _⟩ (fun hHeld => ?_)
        obtain ⟨Y, hY⟩ : ∃ Y, Y = X1.drew := ⟨_, rfl⟩
        rw [← hY] at hHeld ⊢
        clear hY
        refine wpAnyT_take (i := 0) (v := ?v49) [] rfl (by kernel_rfl) (fun _ _ _ h => h) (Or.inl ⟨by rfl, ?hy49⟩) hHeld ?rst49
        case hy49 => (intro wx hSw; obtain ⟨q1, q2, _⟩ := hSw; have q3 := Bk.cell q1; have q4 := Bk.cell q2; go_simp; try (with_reducible rfl))
        try simp only [List.getElem_toArray, List.getElem_cons_zero, Act.put, List.setIfInBounds_toArray, List.set_cons_zero, List.set_cons_succ]
        refine wpAnyT_take (i := 1) (v := ?v50) [] rfl (by kernel_rfl) (fun _ _ _ h => h) (Or.inl ⟨by rfl, ?hy50⟩) hHeld ?rst50
        case hy50 => (intro wx hSw; obtain ⟨q1, q2, _⟩ := hSw; have q3 := Bk.cell q1; have q4 := Bk.cell q2; go_simp; try (with_reducible rfl))
        try simp only [List.getElem_toArray, List.getElem_cons_zero, List.getElem_cons_succ, Act.put, List.setIfInBounds_toArray, List.set_cons_zero, List.set_cons_succ]
        refine wpAnyT_take (i := 2) (v := ?v51) [] rfl (by kernel_rfl) (fun _ _ _ h => h) (Or.inl ⟨by rfl, ?hy51⟩) hHeld ?rst51
        case hy51 => (intro wx hSw; obtain ⟨q1, q2, _⟩ := hSw; have q3 := Bk.cell q1; have q4 := Bk.cell q2; go_simp; try (with_reducible rfl))
        try simp only [List.getElem_toArray, List.getElem_cons_zero, List.getElem_cons_succ, Act.put, List.setIfInBounds_toArray, List.set_cons_zero, List.set_cons_succ]
        refine wpAnyT_take (i := 3) (v := ?v52) [] rfl (by kernel_rfl) (fun _ _ _ h => h) (Or.inl ⟨by rfl, ?hy52⟩) hHeld ?rst52
        case hy52 => (intro wx hSw; obtain ⟨q1, q2, _⟩ := hSw; have q3 := Bk.cell q1; have q4 := Bk.cell q2; go_simp; try (with_reducible rfl))
        try simp only [List.getElem_toArray, List.getElem_cons_zero, List.getElem_cons_succ, Act.put, List.setIfInBounds_toArray, List.set_cons_zero, List.set_cons_succ]
        refine wpAnyT_take (i := 4) (v := ?v53) [] rfl (by kernel_rfl) (fun _ _ _ h => h) (Or.inl ⟨by rfl, ?hy53⟩) hHeld ?rst53
        case hy53 => (intro wx hSw; obtain ⟨q1, q2, _⟩ := hSw; have q3 := Bk.cell q1; have q4 := Bk.cell q2; go_simp; try (with_reducible rfl))
        try simp only [List.getElem_toArray, List.getElem_cons_zero, List.getElem_cons_succ, Act.put, List.setIfInBounds_toArray, List.set_cons_zero, List.set_cons_succ]
        refine wpAnyT_take (i := 5) (v := ?v54) [] rfl (by kernel_rfl) (fun _ _ _ h => h) (Or.inl ⟨by rfl, ?hy54⟩) hHeld ?rst54
        case hy54 => (intro wx hSw; obtain ⟨q1, q2, _⟩ := hSw; have q3 := Bk.cell q1; have q4 := Bk.cell q2; go_simp; try (with_reducible rfl))
        try simp only [List.getElem_toArray, List.getElem_cons_zero, List.getElem_cons_succ, Act.put, List.setIfInBounds_toArray, List.set_cons_zero, List.set_cons_succ]
        refine wpAnyT_take (i := 6) (v := ?v55) [] rfl (by kernel_rfl) (fun _ _ _ h => h) (Or.inl ⟨by rfl, ?hy55⟩) hHeld ?rst55
        case hy55 => (intro wx hSw; obtain ⟨q1, q2, _⟩ := hSw; have q3 := Bk.cell q1; have q4 := Bk.cell q2; go_simp; try (with_reducible rfl))
        try simp only [List.getElem_toArray, List.getElem_cons_zero, List.getElem_cons_succ, Act.put, List.setIfInBounds_toArray, List.set_cons_zero, List.set_cons_succ]
        refine wpAnyT_take (i := 7) (v := ?v56) [] rfl (by kernel_rfl) (fun _ _ _ h => h) (Or.inl ⟨by rfl, ?hy56⟩) hHeld ?rst56
        case hy56 => (intro wx hSw; obtain ⟨q1, q2, _⟩ := hSw; have q3 := Bk.cell q1; have q4 := Bk.cell q2; go_simp; try (with_reducible rfl))
        try simp only [List.getElem_toArray, List.getElem_cons_zero, List.getElem_cons_succ, Act.put, List.setIfInBounds_toArray, List.set_cons_zero, List.set_cons_succ]
        refine wpAnyT_take (i := 8) (v := ?v57) [] rfl (by kernel_rfl) (fun _ _ _ h => h) (Or.inl ⟨by rfl, ?hy57⟩) hHeld ?rst57
        case hy57 => (intro wx hSw; obtain ⟨q1, q2, _⟩ := hSw; have q3 := Bk.cell q1; have q4 := Bk.cell q2; go_simp; try (with_reducible rfl))
        try simp only [List.getElem_toArray, List.getElem_cons_zero, List.getElem_cons_succ, Act.put, List.setIfInBounds_toArray, List.set_cons_zero, List.set_cons_succ]
        refine wpAnyT_take (i := 9) (v := ?v58) [] rfl (by kernel_rfl) (fun _ _ _ h => h) (Or.inl ⟨by rfl, ?hy58⟩) hHeld ?rst58
        case hy58 => (intro wx hSw; obtain ⟨q1, q2, _⟩ := hSw; have q3 := Bk.cell q1; have q4 := Bk.cell q2; go_simp; try (with_reducible rfl))
        try simp only [List.getElem_toArray, List.getElem_cons_zero, List.getElem_cons_succ, Act.put, List.setIfInBounds_toArray, List.set_cons_zero, List.set_cons_succ]
        refine wpAnyT_take (i := 10) (v := ?v59) [] rfl (by kernel_rfl) (fun _ _ _ h => h) (Or.inl ⟨by rfl, ?hy59⟩) hHeld ?rst59
        case hy59 => (intro wx hSw; obtain ⟨q1, q2, _⟩ := hSw; have q3 := Bk.cell q1; have q4 := Bk.cell q2; go_simp; try (with_reducible rfl))
        try simp only [List.getElem_toArray, List.getElem_cons_zero, List.getElem_cons_succ, Act.put, List.setIfInBounds_toArray, List.set_cons_zero, List.set_cons_succ]
        refine wpAnyT_take (i := 11) (v := ?v60) [] rfl (by kernel_rfl) (fun _ _ _ h => h) (Or.inl ⟨by rfl, ?hy60⟩) hHeld ?rst60
        case hy60 => (intro wx hSw; obtain ⟨q1, q2, _⟩ := hSw; have q3 := Bk.cell q1; have q4 := Bk.cell q2; go_simp; try (with_reducible rfl))
        try simp only [List.getElem_toArray, List.getElem_cons_zero, List.getElem_cons_succ, Act.put, List.setIfInBounds_toArray, List.set_cons_zero, List.set_cons_succ]
        refine wpAnyT_take (i := 12) (v := ?v61) [] rfl (by kernel_rfl) (fun _ _ _ h => h) (Or.inl ⟨by rfl, ?hy61⟩) hHeld ?rst61
        case hy61 => (intro wx hSw; obtain ⟨q1, q2, _⟩ := hSw; have q3 := Bk.cell q1; have q4 := Bk.cell q2; go_simp; try (with_reducible rfl))
        try simp only [List.getElem_toArray, List.getElem_cons_zero, List.getElem_cons_succ, Act.put, List.setIfInBounds_toArray, List.set_cons_zero, List.set_cons_succ]
        refine wpAnyT_take (i := 13) (v := ?v62) [] rfl (by kernel_rfl) (fun _ _ _ h => h) (Or.inl ⟨by rfl, ?hy62⟩) hHeld ?rst62
        case hy62 => (intro wx hSw; obtain ⟨q1, q2, _⟩ := hSw; have q3 := Bk.cell q1; have q4 := Bk.cell q2; go_simp; try (with_reducible rfl))
        try simp only [List.getElem_toArray, List.getElem_cons_zero, List.getElem_cons_succ, Act.put, List.setIfInBounds_toArray, List.set_cons_zero, List.set_cons_succ]
        refine wpAnyT_take (i := 14) (v := ?v63) [] rfl (by kernel_rfl) (fun _ _ _ h => h) (Or.inl ⟨by rfl, ?hy63⟩) hHeld ?rst63
        case hy63 => (intro wx hSw; obtain ⟨q1, q2, _⟩ := hSw; have q3 := Bk.cell q1; have q4 := Bk.cell q2; go_simp; try (with_reducible rfl))
        try simp only [List.getElem_toArray, List.getElem_cons_zero, List.getElem_cons_succ, Act.put, List.setIfInBounds_toArray, List.set_cons_zero, List.set_cons_succ]
        refine wpAnyT_take (i := 15) (v := ?v64) [] rfl (by kernel_rfl) (fun _ _ _ h => h) (Or.inl ⟨by rfl, ?hy64⟩) hHeld ?rst64
        case hy64 => (intro wx hSw; obtain ⟨q1, q2, _⟩ := hSw; have q3 := Bk.cell q1; have q4 := Bk.cell q2; go_simp; try (with_reducible rfl))
        try simp only [List.getElem_toArray, List.getElem_cons_zero, List.getElem_cons_succ, Act.put, List.setIfInBounds_toArray, List.set_cons_zero, List.set_cons_succ]
        have HYS := Lib.hid hHeld
        have HKA := Lib.hid (⟨HYS.out.1.alloc _, HYS.out.2.1.alloc _, HYS.out.2.2.alloc HYS.out.2.2.size _⟩ : ((fun wx => Bk 71 wx p3 #[.int .i64 x, .int .i64 y] ∧ Bk 71 wx p7 #[.int .i64 x, .int .i64 yp] ∧ Below X1.heap.size X1 wx) (Y.alloc (.cells #[.int .i64 0, .int .i64 0] 71))))
        have HKB := Lib.hid (⟨HKA.out.1.alloc _, HKA.out.2.1.alloc _, HKA.out.2.2.alloc HKA.out.2.2.size _⟩ : ((fun wx => Bk 71 wx p3 #[.int .i64 x, .int .i64 y] ∧ Bk 71 wx p7 #[.int .i64 x, .int .i64 yp] ∧ Below X1.heap.size X1 wx) ((Y.alloc (.cells #[.int .i64 0, .int .i64 0] 71)).alloc (.cells #[.int .i64 0, .int .i64 0] 71))))
        refine wpAnyT_two (i := 16) (j := 17) (by kernel_rfl) rfl rfl (fun K hK => ?_) (fun K hK => ?_)
        · go_simp
          refine hK.out _ _ HKA.out (fun hHeld => ?_)
          clear hK K
          try simp only [List.getElem_toArray, List.getElem_cons_zero, List.getElem_cons_succ, Act.put, List.setIfInBounds_toArray, List.set_cons_zero, List.set_cons_succ]
          refine wpAnyT_one (i := 17) (by kernel_rfl) rfl (fun K hK => ?_)
          go_simp
          refine hK.out _ _ (HKB.out) (fun hHeld => ?_)
          clear hK K
          try simp only [List.getElem_toArray, List.getElem_cons_zero, List.getElem_cons_succ, Act.put, List.setIfInBounds_toArray, List.set_cons_zero, List.set_cons_succ]
          have HZ1 := Lib.hid ((Bk.new 71 Y #[.int .i64 0, .int .i64 0]).alloc (.cells #[.int .i64 0, .int .i64 0] 71))
          have hz2 := Bk.new 71 (Y.alloc (.cells #[.int .i64 0, .int .i64 0] 71)) #[.int .i64 0, .int .i64 0]
          rw [World.size_alloc] at hz2
          have HZ2 := Lib.hid hz2
          obtain ⟨Z, hZ⟩ : ∃ Z, Z = (Y.alloc (.cells #[.int .i64 0, .int .i64 0] 71)).alloc (.cells #[.int .i64 0, .int .i64 0] 71) := ⟨_, rfl⟩
          obtain ⟨p8, hp8⟩ : ∃ p8, p8 = Y.heap.size := ⟨_, rfl⟩
          obtain ⟨p9, hp9⟩ : ∃ p9, p9 = Y.heap.size + 1 := ⟨_, rfl⟩
          have HPP := Lib.hid (show p8 ≠ p9 ∧ (p3 ≠ p8 ∧ p3 ≠ p9 ∧ p7 ≠ p8 ∧ p7 ≠ p9) ∧ X1.heap.size ≤ p8 ∧ X1.heap.size ≤ p9 from by have h1 := HYS.out.1.lt; have h2 := HYS.out.2.1.lt; have h3 := HYS.out.2.2.size; omega)
          skip
          rw [← hZ] at HKB HZ1 HZ2 hHeld ⊢
          rw [← hp9] at HZ2 ⊢; rw [← hp8] at HZ1 ⊢
          clear hZ hp8 hp9 hz2
          have HA8 := Lib.hid HZ1.out
          have HA9 := Lib.hid HZ2.out
          obtain ⟨u1, u2, u3⟩ := HA8.out.facts
          obtain ⟨t1, t2, t3⟩ := HA9.out.facts
          have HKC := Lib.hid (⟨(HKB.out.1.set_ne HPP.out.2.1.1 _).set_ne HPP.out.2.1.1 _, (HKB.out.2.1.set_ne HPP.out.2.1.2.2.1 _).set_ne HPP.out.2.1.2.2.1 _, (HKB.out.2.2.setCell (p := ⟨p8, 0, none⟩) HPP.out.2.2.1 _).setCell (p := ⟨p8, 1, none⟩) HPP.out.2.2.1 _⟩ : ((fun wx => Bk 71 wx p3 #[.int .i64 x, .int .i64 y] ∧ Bk 71 wx p7 #[.int .i64 x, .int .i64 yp] ∧ Below X1.heap.size X1 wx) ((Z.setCell ⟨p8, 0, none⟩ (.int .i64 x)).setCell ⟨p8, 1, none⟩ (.int .i64 (max y yp)))))
          refine wpAnyT_one (i := 18) (by kernel_rfl) rfl (fun K hK => ?_)
          go_simp
          refine hK.out _ _ (HKC.out) (fun hHeld => ?_)
          clear hK K
          try simp only [List.getElem_toArray, List.getElem_cons_zero, List.getElem_cons_succ, Act.put, List.setIfInBounds_toArray, List.set_cons_zero, List.set_cons_succ]
          clear u1 u2 u3 t1 t2 t3
          have HE8 := Lib.hid ((HA8.out.set 0 (.int .i64 x)).set 1 (.int .i64 (max y yp)))
          have HE9 := Lib.hid ((HA9.out.set_ne (Ne.symm HPP.out.1) (k := p8) (j := 0) (.int .i64 x)).set_ne (Ne.symm HPP.out.1) (k := p8) (j := 1) (.int .i64 (max y yp)))
          obtain ⟨Z2, hZ2⟩ : ∃ Z2, Z2 = ((Z.setCell ⟨p8, 0, none⟩ (.int .i64 x)).setCell ⟨p8, 1, none⟩ (.int .i64 (max y yp))) := ⟨_, rfl⟩
          rw [← hZ2] at HE8 HE9 HKC hHeld ⊢
          clear hZ2
          obtain ⟨t1, t2, t3⟩ := HE9.out.facts
          refine wpAnyT_last (by kernel_rfl) (by kernel_rfl) rfl (fun K hK => ?_)
          go_simp
          refine hK.out _ _ ?_
          clear hK K
          have HF8 := Lib.hid ((HE8.out.set_ne HPP.out.1 (k := p9) (j := 0) (.int .i64 x)).set_ne HPP.out.1 (k := p9) (j := 1) (.int .i64 y))
          have HF9 := Lib.hid ((HE9.out.set 0 (.int .i64 x)).set 1 (.int .i64 y))
          have HFB := Lib.hid ((HKC.out.2.2.setCell (p := ⟨p9, 0, none⟩) HPP.out.2.2.2 (.int .i64 x)).setCell (p := ⟨p9, 1, none⟩) HPP.out.2.2.2 (.int .i64 y))
          go_wp2
          go_meet
          case rel => exact ⟨p8, p9, rfl, rfl, HF8.out, HF9.out, HFB.out⟩
        · go_simp
          refine hK.out _ _ HKA.out (fun hHeld => ?_)
          clear hK K
          try simp only [List.getElem_toArray, List.getElem_cons_zero, List.getElem_cons_succ, Act.put, List.setIfInBounds_toArray, List.set_cons_zero, List.set_cons_succ]
          refine wpAnyT_one (i := 16) (by kernel_rfl) rfl (fun K hK => ?_)
          go_simp
          refine hK.out _ _ (HKB.out) (fun hHeld => ?_)
          clear hK K
          try simp only [List.getElem_toArray, List.getElem_cons_zero, List.getElem_cons_succ, Act.put, List.setIfInBounds_toArray, List.set_cons_zero, List.set_cons_succ]
          have HZ1 := Lib.hid ((Bk.new 71 Y #[.int .i64 0, .int .i64 0]).alloc (.cells #[.int .i64 0, .int .i64 0] 71))
          have hz2 := Bk.new 71 (Y.alloc (.cells #[.int .i64 0, .int .i64 0] 71)) #[.int .i64 0, .int .i64 0]
          rw [World.size_alloc] at hz2
          have HZ2 := Lib.hid hz2
          obtain ⟨Z, hZ⟩ : ∃ Z, Z = (Y.alloc (.cells #[.int .i64 0, .int .i64 0] 71)).alloc (.cells #[.int .i64 0, .int .i64 0] 71) := ⟨_, rfl⟩
          obtain ⟨p8, hp8⟩ : ∃ p8, p8 = Y.heap.size + 1 := ⟨_, rfl⟩
          obtain ⟨p9, hp9⟩ : ∃ p9, p9 = Y.heap.size := ⟨_, rfl⟩
          have HPP := Lib.hid (show p8 ≠ p9 ∧ (p3 ≠ p8 ∧ p3 ≠ p9 ∧ p7 ≠ p8 ∧ p7 ≠ p9) ∧ X1.heap.size ≤ p8 ∧ X1.heap.size ≤ p9 from by have h1 := HYS.out.1.lt; have h2 := HYS.out.2.1.lt; have h3 := HYS.out.2.2.size; omega)
          skip
          rw [← hZ] at HKB HZ1 HZ2 hHeld ⊢
          rw [← hp8] at HZ2 ⊢; rw [← hp9] at HZ1 ⊢
          clear hZ hp8 hp9 hz2
          have HA8 := Lib.hid HZ2.out
          have HA9 := Lib.hid HZ1.out
          obtain ⟨u1, u2, u3⟩ := HA8.out.facts
          obtain ⟨t1, t2, t3⟩ := HA9.out.facts
          have HKC := Lib.hid (⟨(HKB.out.1.set_ne HPP.out.2.1.1 _).set_ne HPP.out.2.1.1 _, (HKB.out.2.1.set_ne HPP.out.2.1.2.2.1 _).set_ne HPP.out.2.1.2.2.1 _, (HKB.out.2.2.setCell (p := ⟨p8, 0, none⟩) HPP.out.2.2.1 _).setCell (p := ⟨p8, 1, none⟩) HPP.out.2.2.1 _⟩ : ((fun wx => Bk 71 wx p3 #[.int .i64 x, .int .i64 y] ∧ Bk 71 wx p7 #[.int .i64 x, .int .i64 yp] ∧ Below X1.heap.size X1 wx) ((Z.setCell ⟨p8, 0, none⟩ (.int .i64 x)).setCell ⟨p8, 1, none⟩ (.int .i64 (max y yp)))))
          refine wpAnyT_one (i := 18) (by kernel_rfl) rfl (fun K hK => ?_)
          go_simp
          refine hK.out _ _ (HKC.out) (fun hHeld => ?_)
          clear hK K
          try simp only [List.getElem_toArray, List.getElem_cons_zero, List.getElem_cons_succ, Act.put, List.setIfInBounds_toArray, List.set_cons_zero, List.set_cons_succ]
          clear u1 u2 u3 t1 t2 t3
          have HE8 := Lib.hid ((HA8.out.set 0 (.int .i64 x)).set 1 (.int .i64 (max y yp)))
          have HE9 := Lib.hid ((HA9.out.set_ne (Ne.symm HPP.out.1) (k := p8) (j := 0) (.int .i64 x)).set_ne (Ne.symm HPP.out.1) (k := p8) (j := 1) (.int .i64 (max y yp)))
          obtain ⟨Z2, hZ2⟩ : ∃ Z2, Z2 = ((Z.setCell ⟨p8, 0, none⟩ (.int .i64 x)).setCell ⟨p8, 1, none⟩ (.int .i64 (max y yp))) := ⟨_, rfl⟩
          rw [← hZ2] at HE8 HE9 HKC hHeld ⊢
          clear hZ2
          obtain ⟨t1, t2, t3⟩ := HE9.out.facts
          refine wpAnyT_last (by kernel_rfl) (by kernel_rfl) rfl (fun K hK => ?_)
          go_simp
          refine hK.out _ _ ?_
          clear hK K
          have HF8 := Lib.hid ((HE8.out.set_ne HPP.out.1 (k := p9) (j := 0) (.int .i64 x)).set_ne HPP.out.1 (k := p9) (j := 1) (.int .i64 y))
          have HF9 := Lib.hid ((HE9.out.set 0 (.int .i64 x)).set 1 (.int .i64 y))
          have HFB := Lib.hid ((HKC.out.2.2.setCell (p := ⟨p9, 0, none⟩) HPP.out.2.2.2 (.int .i64 x)).setCell (p := ⟨p9, 1, none⟩) HPP.out.2.2.2 (.int .i64 y))
          go_wp2
          go_meet
          case rel => exact ⟨p8, p9, rfl, rfl, HF8.out, HF9.out, HFB.out⟩
      case rest =>
        obtain ⟨p8, p9, rfl, rfl, h8, h9, hbx⟩ := hcut
        clear f1 f2 f3 g1 g2 g3 HN8 HN9 HM8 HM9
        rw [HM1.out] at h8
        have HV2 := Lib.hid (show Vc w1.heap.size _ _ _ from own_ext HV1.out hbx)
        have HC2 := Lib.hid (HC1.out.ext hbx)
        have HN2 := Lib.hid (HN1.out.ext hbx)
        have HP2 := Lib.hid (HP1.out.ext hbx)
        have HA2 := Lib.hid (HA1.out.ext hbx)
        have HB2 := Lib.hid (HB1.out.ext hbx)
        have HBW2 := Lib.hid (HBW1.out.trans (hbx.mono HBW1.out.size))
        obtain ⟨X2, hX2⟩ : ∃ X2, X2 = wc := ⟨_, rfl⟩
        rw [← hX2] at HV2 HC2 HN2 HP2 HA2 HB2 HBW2 h8 h9 ⊢
        clear hX2 hbx HV1 HC1 HN1 HP1 HA1 HB1 HBW1
        obtain ⟨f1, f2, f3⟩ := HC2.out.facts
        obtain ⟨g1, g2, g3⟩ := HN2.out.facts
        obtain ⟨i1, i2, i3⟩ := h8.facts
        obtain ⟨j1, j2, j3⟩ := h9.facts
        obtain ⟨v, hv⟩ : ∃ v, v = fa (x, yp) := ⟨_, rfl⟩
        have hcc : IsC (x, yp) := ⟨⟨by dsimp only; omega, by dsimp only; omega⟩, ⟨by dsimp only; omega, by dsimp only; omega⟩⟩
        have hl : ∀ n, (Instr.lookup 73 (.map (some b1)) (.agg #[.int .i64 x, .int .i64 yp]) false).run Tryd.prog (X2.drewN n) = .ok (.bool v) (X2.drewN n) := fun n => by rw [hv]; exact (HA2.out.ext (ext_drewN X2 n)).look hcc
        have hmm := HP2.out.m1_
        have hlm : b < X2.heap.size := World.block_lt_of_cell? X2 ⟨b, 3, none⟩ hmm
        have HW := Lib.hid (show walB fa fb (x, y) (x, yp) = v from by
          have h1 := HXM.out
          have h2 := HXP.out
          have h3 := HYM.out
          have h4 := HYP.out
          have hne : ¬ yp = y := by omega
          unfold walB
          dsimp only
          rw [HM1.out, ← hv]
          simp [hne])
        have het : (yp == y) = false := by have h3 := HYM.out; have h4 := HYP.out; simp; omega
        clear hv hcc h8 h9 HM1 HM2
        rename_i hKc
        refine hKc _ _ ?_
        clear hKc
        go_upto_region 6 with (fail)
        cases v with
        | true =>
          have HE := Lib.hid (opK_no (fa := fa) (fb := fb) (c := (x, y)) (d := (x, yp)) (k := 3) (show 3 < 4 from by decide) (by rw [HYP.out]; rfl) HW.out)
          go_quiet (fail)
          go_wp2
          go_roundg (4 - 4)
          case measure => have := HG.out; omega
          case rel => exact ⟨4, by go_num, by omega, rfl, by rw [HE.out]; exact own_ext HV2.out (ext_drewN _ _), HBW2.out.trans ((ext_drewN _ _).mono HBW2.out.size)⟩
        | false =>
          have HE := Lib.hid (opK_yes (fa := fa) (fb := fb) (c := (x, y)) (d := (x, yp)) (k := 3) (show 3 < 4 from by decide) (by rw [HYP.out]; rfl) HW.out)
          go_quiet (fail)
          go_upto_region 7 with (fail)
          have HV3 := Lib.hid (show Vc w1.heap.size _ _ _ from own_ext HV2.out (ext_drewN X2 nq))
          have HN3 := Lib.hid (HN2.out.ext (ext_drewN X2 nq))
          have HBW3 := Lib.hid (HBW2.out.trans ((ext_drewN X2 nq).mono HBW2.out.size))
          obtain ⟨X3, hX3⟩ : ∃ X3, X3 = X2.drewN nq := ⟨_, rfl⟩
          rw [← hX3] at HV3 HN3 HBW3 ⊢
          clear hX3 f1 f2 f3 g1 g2 g3 i1 i2 i3 j1 j2 j3 hmm hlm hl het HV2 HC2 HN2 HP2 HA2 HB2 HBW2
          obtain ⟨g1, g2, g3⟩ := HN3.out.facts
          have hbase : w1.heap.size ≤ X3.heap.size := HBW3.out.size
          go_wp2_with (at_builtin; refine wpList_pushC _ rfl _ _ rfl w1.heap.size HV3.out (by rfl) (by rfl) rfl (by omega) hbase ?_; intro v5 w5 hv5 hb5 hk5 hk6; have HV5 := Lib.hid hv5; have HB5 := Lib.hid (HBW3.out.trans hb5); clear hv5 hb5 hk5 hk6)
          go_roundg (4 - 4)
          case measure => have := HG.out; omega
          case rel => exact ⟨4, by go_num, by omega, rfl, by rw [HE.out]; exact HV5.out, HB5.out⟩
    · have HE := Lib.hid (show opK fa fb (x, y) 4 = openL fa fb (x, y) from rfl)
      go_wp2
      go_ret
      refine ⟨A, cap, by rw [← HE.out]; rfl, by rw [← HE.out]; exact k1, by omega, ?_, ext_trans HX1.out HBW.out⟩
      rw [← HE.out]
      rcases HK.out with h | ⟨g, off, e1, e2, e3, e4⟩
      · exact .inl h
      · exact .inr ⟨g, off, e1, Nat.le_trans HX1.out.size e2, e3, e4⟩
end Go.Proofs.YtmgofdgbenfjmaaDoor
