/- Punch walked, the program's and the reference's; printed by wip/gen_pn.py. Conditions: each string's length is an int. -/
import Derived.Test.YtdkoomcgnaokgaaDoorCr
namespace Go.Proofs.YtdkoomcgnaokgaaDoor
open Go.RowKit

/-- within the rectangle -/
def PnIn (xn yn an bn i j : Nat) : Prop := xn ≤ i ∧ i < xn + an ∧ yn ≤ j ∧ j < yn + bn
instance (xn yn an bn i j : Nat) : Decidable (PnIn xn yn an bn i j) := by unfold PnIn; infer_instance
/-- the punched skin -/
def pnC (l : List ByteArray) (xn yn an bn i j : Nat) : Nat := if PnIn xn yn an bn i j then 48 else cellB l i j
def pnP (l : List ByteArray) (x y a b : Int) : List ByteArray := skF (wid l) l.length (pnC l x.toNat y.toNat a.toNat b.toNat)
set_option maxRecDepth 100000 in
set_option maxHeartbeats 4000000 in
theorem punch_cell (i j xn yn an bn : Nat) (p q : Nat) (A : Option Addr) (cap : Nat) (l : List ByteArray) (W : World) (hok : SkOk l) (h : TSl W A l) (hp : W.cell? ⟨p, 0, none⟩ = some (.slice A l.length cap)) (hq : Bk 31 W q #[.int .i64 (xn : Int), .int .i64 (yn : Int), .int .i64 (an : Int), .int .i64 (bn : Int)]) (hx : i < wid l) (hy : j < l.length) (hxa : xn + an ≤ 48) (hyb : yn + bn ≤ 48) :
    Calls Tryd.prog 72 #[.int .i64 (i : Int), .int .i64 (j : Int), .pointer (some ⟨q, 0, none⟩), .pointer (some ⟨p, 0, none⟩)] W fun e w' => e = .returned (.int .u8 (pnC l xn yn an bn i j : Int)) ∧ w' = W := by
  have hw48 := hok.2.2.2.1
  have hl48 := hok.2.1
  rcases h with h0 | ⟨b, off, rfl, hblt, hcl⟩
  · rw [h0] at hy; simp at hy
  have c1 := hcl j hy
  have hs := (hok.row hy).1
  have HCB := Lib.hid (cellB_at (x := i) hy)
  obtain ⟨r, hr⟩ : ∃ r, r = l[j] := ⟨_, rfl⟩
  rw [← hr] at c1 hs HCB
  obtain ⟨q1, q2, q3⟩ := hq.facts
  have hyl : (j : Int) < (l.length : Int) := by omega
  have hir : i < r.size := by omega
  have hir2 : (i : Int) < (r.size : Int) := by omega
  have hib : i < 100 := by omega
  have hjb : j < 100 := by omega
  have hxb : xn < 100 := by omega
  have hyb2 : yn < 100 := by omega
  have hab : an < 100 := by omega
  have hbb : bn < 100 := by omega
  have HB := Lib.hid (show byteAt r i = r[i].toNat from dif_pos hir)
  clear hcl hr hs hq
  by_cases h0 : xn ≤ i
  · by_cases h1 : i < xn + an
    · by_cases h2 : yn ≤ j
      · by_cases h3 : j < yn + bn
        · have k0 : (xn : Int) ≤ (i : Int) := by omega
          have k1 : (i : Int) < (xn : Int) + (an : Int) := by omega
          have k2 : (yn : Int) ≤ (j : Int) := by omega
          have k3 : (j : Int) < (yn : Int) + (bn : Int) := by omega
          have HP := Lib.hid (show pnC l xn yn an bn i j = 48 from if_pos ⟨h0, h1, h2, h3⟩)
          clear h0 h1 h2 h3
          go_enter Tryd.func72, Tryd.ntmps72
          go_wp2
          go_ret
          exact ⟨by rw [HP.out]; rfl, rfl⟩
        · have k0 : (xn : Int) ≤ (i : Int) := by omega
          have k1 : (i : Int) < (xn : Int) + (an : Int) := by omega
          have k2 : (yn : Int) ≤ (j : Int) := by omega
          have k3 : ¬ (j : Int) < (yn : Int) + (bn : Int) := by omega
          have HP := Lib.hid (show pnC l xn yn an bn i j = cellB l i j from if_neg (fun h => h3 h.2.2.2))
          clear h0 h1 h2 h3
          go_enter Tryd.func72, Tryd.ntmps72
          go_wp2
          go_ret
          exact ⟨by rw [HP.out, HCB.out, HB.out]; rfl, rfl⟩
      · have k0 : (xn : Int) ≤ (i : Int) := by omega
        have k1 : (i : Int) < (xn : Int) + (an : Int) := by omega
        have k2 : ¬ (yn : Int) ≤ (j : Int) := by omega
        have HP := Lib.hid (show pnC l xn yn an bn i j = cellB l i j from if_neg (fun h => h2 h.2.2.1))
        clear h0 h1 h2
        go_enter Tryd.func72, Tryd.ntmps72
        go_wp2
        go_ret
        exact ⟨by rw [HP.out, HCB.out, HB.out]; rfl, rfl⟩
    · have k0 : (xn : Int) ≤ (i : Int) := by omega
      have k1 : ¬ (i : Int) < (xn : Int) + (an : Int) := by omega
      have HP := Lib.hid (show pnC l xn yn an bn i j = cellB l i j from if_neg (fun h => h1 h.2.1))
      clear h0 h1
      go_enter Tryd.func72, Tryd.ntmps72
      go_wp2
      go_ret
      exact ⟨by rw [HP.out, HCB.out, HB.out]; rfl, rfl⟩
  · have k0 : ¬ (xn : Int) ≤ (i : Int) := by omega
    have HP := Lib.hid (show pnC l xn yn an bn i j = cellB l i j from if_neg (fun h => h0 h.1))
    clear h0
    go_enter Tryd.func72, Tryd.ntmps72
    go_wp2
    go_ret
    exact ⟨by rw [HP.out, HCB.out, HB.out]; rfl, rfl⟩
set_option maxRecDepth 100000 in
set_option maxHeartbeats 4000000 in
theorem punch_any (A : Option Addr) (cap : Nat) (l : List ByteArray) (x y a b : Int) (w : World) (hc : l.length ≤ cap) (hcm : cap ≤ 9223372036854775807) (h : TSl w A l) (hz : TSz l) :
    Calls Tryd.prog 41 #[.slice A l.length cap, .agg #[.int .i64 x, .int .i64 y, .int .i64 a, .int .i64 b]] w (RetS2 w (ftE l x y a b = 0) (ftE l x y a b) (pnP l x y a b)) := by
  have hmf : ∀ (fn : Fn) (first cap : Array Value) (w : World), (Instr.makeFunc fn first cap).run Tryd.prog w = .ok (.func fn first cap) w := fun _ _ _ _ => rfl
  have hx0 := ext_trans (ext_alloc w (.cells #[.slice A l.length cap] 22)) (ext_alloc _ (.cells #[.int .i64 x, .int .i64 y, .int .i64 a, .int .i64 b] 31))
  have HX0 := Lib.hid hx0
  have HB0 := Lib.hid ((Bk.new 22 w #[.slice A l.length cap]).alloc (.cells #[.int .i64 x, .int .i64 y, .int .i64 a, .int .i64 b] 31))
  have hq0 := Bk.new 31 (w.alloc (.cells #[.slice A l.length cap] 22)) #[.int .i64 x, .int .i64 y, .int .i64 a, .int .i64 b]
  rw [World.size_alloc] at hq0
  have HQ0 := Lib.hid hq0
  have HFT := Lib.hid (fits_any A cap l x y a b _ hc hcm (h.ext hx0) hz)
  have HT := Lib.hid h
  clear hq0 hx0 hz
  by_cases hft : ftE l x y a b = 0
  · have HOK := Lib.hid (ft_ok hft).1
    have HF0 := Lib.hid hft
    obtain ⟨xn, yn, an, bn, rfl, rfl, rfl, rfl, ha, hb, hxa, hyb⟩ := ft_nat hft
    rw [hft] at HFT
    have hl48 := HOK.out.2.1
    have hw48 := HOK.out.2.2.2.1
    clear hft h
    go_enter Tryd.func41, Tryd.ntmps41
    go_upto_region 4 with (go_at_call 69; refine (HFT.out).mono ?_; rintro e w1 ⟨rfl, hx1⟩; have BB1 := Lib.hid (bext HX0.out hx1 HX0.out.size); have HB1 := Lib.hid (HB0.out.ext hx1); have HQ1 := Lib.hid (HQ0.out.ext hx1); clear hx1; obtain ⟨f1, f2, f3⟩ := HB1.out.facts; obtain ⟨q1, q2, q3⟩ := HQ1.out.facts)
    clear f1 f2 f3 q1 q2 q3
    obtain ⟨f1, f2, f3⟩ := HB1.out.facts
    obtain ⟨q1, q2, q3⟩ := HQ1.out.facts
    rcases HT.out with h0 | ⟨b', off, rfl, hblt0, hcl⟩
    · have h1 := HOK.out.1; rw [h0] at h1; simp at h1
    obtain ⟨r0, c00, hr0⟩ := first_row HOK.out hcl
    have c0 := (BB1.out.cell (p := ⟨b', off, none⟩) hblt0).trans c00
    have hblt := Nat.lt_of_lt_of_le hblt0 BB1.out.size
    have hl0 : 0 < l.length := HOK.out.1
    clear hcl c00 hblt0
    have HTU := Lib.hid (turned_any (wid l) l.length 72 #[.pointer (some ⟨w.heap.size + 1, 0, none⟩), .pointer (some ⟨w.heap.size, 0, none⟩)] (pnC l xn yn an bn) w1.drew (by omega) (by omega) (fun _ _ => rfl)
      (fun V hV i j hi hj => (punch_cell i j xn yn an bn w.heap.size (w.heap.size + 1) (some ⟨b', off, none⟩) cap l V HOK.out (HT.out.ext (bext BB1.out (ext_trans (ext_drew _) hV) BB1.out.size)) ((HB1.out.ext (ext_trans (ext_drew _) hV)).cell 0) (HQ1.out.ext (ext_trans (ext_drew _) hV)) hi hj (by omega) (by omega)).mono fun e w' hr => ⟨hr.1, by rw [hr.2]; exact Below.refl _ _⟩)
      (fun i j _ _ => by have := cellB_rg HOK.out i j; unfold pnC; split <;> omega))
    unfold RetSk at HTU
    obtain ⟨ms, hms⟩ : ∃ ms, ms = pnP l xn yn an bn := ⟨_, rfl⟩
    have HMS := Lib.hid hms
    rw [show skF (wid l) l.length (pnC l xn yn an bn) = ms from by rw [hms]; rfl] at HTU
    clear hms
    refine wp_region_held_drew (S := (fun wx => Below w1.heap.size w1 wx ∧ wx.cell? ⟨w.heap.size, 0, none⟩ = some (.slice (some ⟨b', off, none⟩) l.length cap) ∧ wx.cell? ⟨b', off, none⟩ = some (.string r0))) (by kernel_rfl) (⟨ext_drew _, f1 0, c0⟩) (fun hHeld => ?_)
    refine wpAnyH_take (i := 0) (v := ?v1) rfl (by kernel_rfl) (by kernel_rfl) (by kernel_rfl) (fun _ _ _ h => h) (Or.inl ⟨by rfl, ?hy1⟩) hHeld ?rst1
    case hy1 => (intro wx hSw; (try dsimp only at hSw); go_simp; try (with_reducible rfl))
    try simp only [List.getElem_toArray, List.getElem_cons_zero, Act.put, List.setIfInBounds_toArray, List.set_cons_zero, List.set_cons_succ]
    refine wpAnyH_take (i := 1) (v := ?v2) rfl (by kernel_rfl) (by kernel_rfl) (by kernel_rfl) (fun _ _ _ h => h) (Or.inl ⟨by rfl, ?hy2⟩) hHeld ?rst2
    case hy2 => (intro wx hSw; (try dsimp only at hSw); go_simp; try (with_reducible rfl))
    try simp only [List.getElem_toArray, List.getElem_cons_zero, List.getElem_cons_succ, Act.put, List.setIfInBounds_toArray, List.set_cons_zero, List.set_cons_succ]
    refine wpAnyH_take (i := 2) (v := ?v3) rfl (by kernel_rfl) (by kernel_rfl) (by kernel_rfl) (fun _ _ _ h => h) (Or.inl ⟨by rfl, ?hy3⟩) hHeld ?rst3
    case hy3 => (intro wx hSw; (try dsimp only at hSw); go_simp; try (with_reducible rfl))
    try simp only [List.getElem_toArray, List.getElem_cons_zero, List.getElem_cons_succ, Act.put, List.setIfInBounds_toArray, List.set_cons_zero, List.set_cons_succ]
    refine wpAnyH_take (i := 3) (v := ?v4) rfl (by kernel_rfl) (by kernel_rfl) (by kernel_rfl) (fun _ _ _ h => h) (Or.inl ⟨by rfl, ?hy4⟩) hHeld ?rst4
    case hy4 => (intro wx hSw; (try dsimp only at hSw); go_simp; try (with_reducible rfl))
    try simp only [List.getElem_toArray, List.getElem_cons_zero, List.getElem_cons_succ, Act.put, List.setIfInBounds_toArray, List.set_cons_zero, List.set_cons_succ]
    refine wpAnyH_take (i := 4) (v := ?v5) rfl (by kernel_rfl) (by kernel_rfl) (by kernel_rfl) (fun _ _ _ h => h) (Or.inl ⟨by rfl, ?hy5⟩) hHeld ?rst5
    case hy5 => (intro wx hSw; (try dsimp only at hSw); go_simp; try (with_reducible rfl))
    try simp only [List.getElem_toArray, List.getElem_cons_zero, List.getElem_cons_succ, Act.put, List.setIfInBounds_toArray, List.set_cons_zero, List.set_cons_succ]
    refine wpAnyH_take (i := 5) (v := ?v6) rfl (by kernel_rfl) (by kernel_rfl) (by kernel_rfl) (fun _ _ _ h => h) (Or.inl ⟨by rfl, ?hy6⟩) hHeld ?rst6
    case hy6 => (intro wx hSw; (try dsimp only at hSw); go_simp; try (with_reducible rfl))
    try simp only [List.getElem_toArray, List.getElem_cons_zero, List.getElem_cons_succ, Act.put, List.setIfInBounds_toArray, List.set_cons_zero, List.set_cons_succ]
    refine wpAnyH_take (i := 6) (v := ?v7) rfl (by kernel_rfl) (by kernel_rfl) (by kernel_rfl) (fun _ _ _ h => h) (Or.inl ⟨by rfl, ?hy7⟩) hHeld ?rst7
    case hy7 => (intro wx hSw; (try dsimp only at hSw); go_simp; try (with_reducible rfl))
    try simp only [List.getElem_toArray, List.getElem_cons_zero, List.getElem_cons_succ, Act.put, List.setIfInBounds_toArray, List.set_cons_zero, List.set_cons_succ]
    refine wpAnyH_ready (rs := [7]) (by kernel_rfl) (by simp) ?_
    refine AllReadyH.cons rfl (fun K hK => ?_) AllReadyH.nil
    go_simp
    (go_at_call 61; refine (HTU.out).mono ?_; rintro e w5 ⟨hx5', A5, cap5, rfl, k1, k2, k3⟩; have hx5 := ext_trans (ext_drew w1) hx5'; have HB5 := Lib.hid (HB1.out.ext hx5))
    refine hK.out _ _ (⟨hx5, HB5.out.cell 0, (hx5.cell (p := ⟨b', off, none⟩) hblt).trans c0⟩) (fun hHeld => ?_)
    clear hK K
    try simp only [List.getElem_toArray, List.getElem_cons_zero, List.getElem_cons_succ, Act.put, List.setIfInBounds_toArray, List.set_cons_zero, List.set_cons_succ]
    refine wpAnyH_take (i := 8) (v := ?v8) rfl (by kernel_rfl) (by kernel_rfl) (by kernel_rfl) (fun _ _ _ h => h) (Or.inl ⟨by rfl, ?hy8⟩) hHeld ?rst8
    case hy8 => (intro wx hSw; (try dsimp only at hSw); go_simp; try (with_reducible rfl))
    try simp only [List.getElem_toArray, List.getElem_cons_zero, List.getElem_cons_succ, Act.put, List.setIfInBounds_toArray, List.set_cons_zero, List.set_cons_succ]
    refine wpAnyH_take (i := 9) (v := ?v9) rfl (by kernel_rfl) (by kernel_rfl) (by kernel_rfl) (fun _ _ _ h => h) (Or.inl ⟨by rfl, ?hy9⟩) hHeld ?rst9
    case hy9 => (intro wx hSw; (try dsimp only at hSw); go_simp; try (with_reducible rfl))
    try simp only [List.getElem_toArray, List.getElem_cons_zero, List.getElem_cons_succ, Act.put, List.setIfInBounds_toArray, List.set_cons_zero, List.set_cons_succ]
    refine wpAnyH_done (by kernel_rfl) ?_ _
    go_wp2
    refine bodyPost_ret (v := .tuple #[.slice A5 ms.length cap5, .int .i64 0]) (by simp [results, Tryd.results41, go_sem]) rfl ?_
    have hm2 := HMS.out
    subst hm2
    exact ⟨bext BB1.out hx5 BB1.out.size, .inr ⟨HF0.out, A5, cap5, rfl, k1, k2, k3⟩⟩
  · have HF0 := Lib.hid hft
    obtain ⟨ev, hev⟩ : ∃ ev, ev = ftE l x y a b := ⟨_, rfl⟩
    have HEV := Lib.hid hev
    rw [← hev] at HFT hft
    have hev2 : (ev != 0) = true := by simpa using hft
    clear hft h hev
    go_enter Tryd.func41, Tryd.ntmps41
    go_wp2_with (go_at_call 69; refine (HFT.out).mono ?_; rintro e w1 ⟨rfl, hx1⟩; have BB1 := Lib.hid (bext HX0.out hx1 HX0.out.size); have HB1 := Lib.hid (HB0.out.ext hx1); have HQ1 := Lib.hid (HQ0.out.ext hx1); clear hx1; obtain ⟨f1, f2, f3⟩ := HB1.out.facts; obtain ⟨q1, q2, q3⟩ := HQ1.out.facts)
    refine bodyPost_ret (v := .tuple #[.slice none 0 0, .int .i64 ev]) (by simp [results, Tryd.results41, go_sem]) rfl ?_
    exact ⟨BB1.out, .inl ⟨HF0.out, by rw [← HEV.out]⟩⟩
set_option maxRecDepth 100000 in
set_option maxHeartbeats 4000000 in
theorem rin_any (i j xn yn an bn : Nat) (W : World) (hib : i < 100) (hjb : j < 100) (hxb : xn < 100) (hyb2 : yn < 100) (hab : an < 100) (hbb : bn < 100) :
    Calls Tryd.prog 73 #[.agg #[.int .i64 (xn : Int), .int .i64 (yn : Int), .int .i64 (an : Int), .int .i64 (bn : Int)], .int .i64 (i : Int), .int .i64 (j : Int)] W fun e w' => e = .returned (.bool (decide (PnIn xn yn an bn i j))) ∧ Below W.heap.size W w' := by
  by_cases h0 : xn ≤ i
  · by_cases h1 : i < xn + an
    · by_cases h2 : yn ≤ j
      · by_cases h3 : j < yn + bn
        · have k0 : (xn : Int) ≤ (i : Int) := by omega
          have k1 : (i : Int) - (xn : Int) < (an : Int) := by omega
          have k2 : (yn : Int) ≤ (j : Int) := by omega
          have k3 : (j : Int) - (yn : Int) < (bn : Int) := by omega
          rw [decide_eq_true (show PnIn xn yn an bn i j from ⟨h0, h1, h2, h3⟩)]
          clear h0 h1 h2 h3
          go_enter Tryd.func73, Tryd.ntmps73
          go_wp2
          go_ret
          exact ⟨rfl, ext_alloc _ _⟩
        · have k0 : (xn : Int) ≤ (i : Int) := by omega
          have k1 : (i : Int) - (xn : Int) < (an : Int) := by omega
          have k2 : (yn : Int) ≤ (j : Int) := by omega
          have k3 : ¬ (j : Int) - (yn : Int) < (bn : Int) := by omega
          rw [decide_eq_false (show ¬ PnIn xn yn an bn i j from fun h => h3 h.2.2.2)]
          clear h0 h1 h2 h3
          go_enter Tryd.func73, Tryd.ntmps73
          go_wp2
          go_ret
          exact ⟨rfl, ext_alloc _ _⟩
      · have k0 : (xn : Int) ≤ (i : Int) := by omega
        have k1 : (i : Int) - (xn : Int) < (an : Int) := by omega
        have k2 : ¬ (yn : Int) ≤ (j : Int) := by omega
        rw [decide_eq_false (show ¬ PnIn xn yn an bn i j from fun h => h2 h.2.2.1)]
        clear h0 h1 h2
        go_enter Tryd.func73, Tryd.ntmps73
        go_wp2
        go_ret
        exact ⟨rfl, ext_alloc _ _⟩
    · have k0 : (xn : Int) ≤ (i : Int) := by omega
      have k1 : ¬ (i : Int) - (xn : Int) < (an : Int) := by omega
      rw [decide_eq_false (show ¬ PnIn xn yn an bn i j from fun h => h1 h.2.1)]
      clear h0 h1
      go_enter Tryd.func73, Tryd.ntmps73
      go_wp2
      go_ret
      exact ⟨rfl, ext_alloc _ _⟩
  · have k0 : ¬ (xn : Int) ≤ (i : Int) := by omega
    rw [decide_eq_false (show ¬ PnIn xn yn an bn i j from fun h => h0 h.1)]
    clear h0
    go_enter Tryd.func73, Tryd.ntmps73
    go_wp2
    go_ret
    exact ⟨rfl, ext_alloc _ _⟩
set_option maxRecDepth 100000 in
set_option maxHeartbeats 4000000 in
theorem rpunch_any (A : Option Addr) (cap : Nat) (l : List ByteArray) (x y a b : Int) (w : World) (hc : l.length ≤ cap) (hcm : cap ≤ 9223372036854775807) (h : TSl w A l) (hz : TSz l) :
    Calls Tryd.prog 42 #[.slice A l.length cap, .agg #[.int .i64 x, .int .i64 y, .int .i64 a, .int .i64 b]] w (RetS2 w (ftE l x y a b = 0) (ftE l x y a b) (pnP l x y a b)) := by
  have hx0 := ext_alloc w (.cells #[.int .i64 x, .int .i64 y, .int .i64 a, .int .i64 b] 31)
  have HX0 := Lib.hid hx0
  have HQ0 := Lib.hid (Bk.new 31 w #[.int .i64 x, .int .i64 y, .int .i64 a, .int .i64 b])
  have HFT := Lib.hid (rchecked_any A cap l x y a b _ hc hcm (h.ext hx0) hz)
  have HT := Lib.hid h
  clear hx0 hz
  by_cases hft : ftE l x y a b = 0
  · have HOK := Lib.hid (ft_ok hft).1
    have HF0 := Lib.hid hft
    obtain ⟨xn, yn, an, bn, rfl, rfl, rfl, rfl, ha, hb, hxa, hyb⟩ := ft_nat hft
    rw [hft] at HFT
    have hl48 := HOK.out.2.1
    have hw48 := HOK.out.2.2.2.1
    have HGR := Lib.hid (fun x y W (hW : Below w.heap.size w W) => rgrade_any A cap l x y W HOK.out (HT.out.ext hW))
    clear hft h
    go_enter Tryd.func42, Tryd.ntmps42
    go_upto_region 4 with (go_at_call 71; refine (HFT.out).mono ?_; rintro e w1 ⟨rfl, hx1⟩; have BB1 := Lib.hid (bext HX0.out hx1 HX0.out.size); have HQ1 := Lib.hid (HQ0.out.ext hx1); clear hx1; obtain ⟨q1, q2, q3⟩ := HQ1.out.facts)
    rcases HT.out with h0 | ⟨b', off, rfl, hblt0, hcl⟩
    · have h1 := HOK.out.1; rw [h0] at h1; simp at h1
    have HC := Lib.hid (show ∀ W, Below w.heap.size w W → b' < W.heap.size ∧ ∃ r0 : ByteArray, W.cell? ⟨b', off, none⟩ = some (.string r0) ∧ r0.size = wid l from fun W hW => ⟨Nat.lt_of_lt_of_le hblt0 hW.size, first_row HOK.out (fun j hj => (hW.cell (p := ⟨b', off + j, none⟩) hblt0).trans (hcl j hj))⟩)
    have hl0 : 0 < l.length := HOK.out.1
    clear hcl hblt0
    obtain ⟨n, hn⟩ : ∃ n, n = wid l := ⟨_, rfl⟩
    have HN := Lib.hid hn
    rw [← hn] at hxa hw48
    clear hn
    go_wp2_with (fail)
    go_loopg [18, 7] l.length (fun gg i v wr => ∃ j : Nat, i = .int .i64 j ∧ j ≤ l.length ∧ gg = l.length - j ∧ Below w.heap.size w wr ∧ Bk 31 wr w.heap.size #[.int .i64 (xn : Int), .int .i64 (yn : Int), .int .i64 (an : Int), .int .i64 (bn : Int)] ∧ Vi (w.heap.size + 1) wr v (gridP n (fun i j => (pnC l xn yn an bn i j : Int) - 48) j 0))
    case atStart => exact ⟨0, rfl, by omega, by omega, BB1.out, HQ1.out, by rw [gridP_none]; exact Vi.nil _ _⟩
    case round =>
      obtain ⟨j, rfl, hj, hg, hb1, hq1, hv1⟩ := hrel
      have HG := Lib.hid hg
      have HB := Lib.hid hb1
      have HQ := Lib.hid hq1
      have HVV := Lib.hid hv1
      clear hg hb1 hq1 hv1 q1 q2 q3 BB1 HQ1
      obtain ⟨q1, q2, q3⟩ := HQ.out.facts
      by_cases hlt : j < l.length
      · obtain ⟨hbr, r0, c0, hr0⟩ := HC.out _ HB.out
        rw [← HN.out] at hr0
        go_upto_block 2 with (fail)
        clear c0 hr0 hbr
        go_wp2_with (fail)
        go_loopg [25, 7] n (fun gg i v wr => ∃ i' : Nat, i = .int .i64 i' ∧ i' ≤ n ∧ gg = n - i' ∧ Below w.heap.size w wr ∧ Bk 31 wr w.heap.size #[.int .i64 (xn : Int), .int .i64 (yn : Int), .int .i64 (an : Int), .int .i64 (bn : Int)] ∧ Vi (w.heap.size + 1) wr v (gridP n (fun i j => (pnC l xn yn an bn i j : Int) - 48) j i'))
        case atStart => exact ⟨0, rfl, by omega, by omega, HB.out, HQ.out, HVV.out⟩
        case round =>
          obtain ⟨i, rfl, hi, hg2, hb2, hq2, hv2⟩ := hrel
          have HG2 := Lib.hid hg2
          have HB2 := Lib.hid hb2
          have HQ2 := Lib.hid hq2
          have HV2 := Lib.hid hv2
          have HLT := Lib.hid hlt
          have hgl := gridP_len n (fun i j => (pnC l xn yn an bn i j : Int) - 48) j i
          clear hg2 hb2 hq2 hv2 HB HVV HQ q1 q2 q3
          obtain ⟨q1, q2, q3⟩ := HQ2.out.facts
          by_cases hxn : i < n
          · have HGC := Lib.hid (fun W (hW : Below w.heap.size w W) => HGR.out (i : Int) (j : Int) W hW)
            have HGS := Lib.hid (gridP_cell n (fun i j => (pnC l xn yn an bn i j : Int) - 48) j i)
            try dsimp only at HGS
            have hib : i < 100 := by omega
            have hjb : j < 100 := by omega
            have hyx : j * n + i ≤ 48 * 48 + 48 := by
              have := Nat.mul_le_mul (show j ≤ 48 by omega) (show n ≤ 48 by omega)
              omega
            have hgl2 : (gridP n (fun i j => (pnC l xn yn an bn i j : Int) - 48) j i).length ≤ 1000000 := by omega
            have hbs : w.heap.size + 1 ≤ wr.heap.size := q3
            have HIN := Lib.hid (rin_any i j xn yn an bn wr hib hjb (by omega) (by omega) (by omega) (by omega))
            clear hgl hyx
            by_cases hpn : PnIn xn yn an bn i j
            · rw [decide_eq_true hpn] at HIN
              have HZ := Lib.hid (show ((pnC l xn yn an bn i j : Nat) : Int) - 48 = 0 from by unfold pnC; rw [if_pos hpn]; rfl)
              rw [HZ.out] at HGS
              clear hpn
              go_wp2_with (first
                | (go_at_call 73; refine (HIN.out).mono ?_; rintro e w9 ⟨rfl, hx9⟩; have HB9 := Lib.hid (bext HB2.out hx9 HB2.out.size); have HQ9 := Lib.hid (HQ2.out.ext hx9); have HV9 := Lib.hid (own_ext HV2.out hx9); have hbs9 := hx9.size; clear hx9)
                | (at_builtin; refine wpList_pushI _ rfl _ _ rfl (w.heap.size + 1) HV9.out (by rfl) (by rfl) rfl hgl2 (by omega) ?_; intro v5 w5 hv5 hb5 hk5 _; have HV5 := Lib.hid hv5; have HB5 := Lib.hid (HB9.out.trans (hb5.mono (by omega))); have HQ5 := Lib.hid ((hk5 _ HQ9.out.lt (own_ne_lt HV9.out (by omega))).trans HQ9.out); clear hv5 hb5 hk5))
              go_roundg (n - (i + 1))
              case measure => have := HG2.out; omega
              case rel => exact ⟨i + 1, by go_num, by omega, rfl, HB5.out, HQ5.out, by rw [HGS.out]; exact HV5.out⟩
            · rw [decide_eq_false hpn] at HIN
              have HZ := Lib.hid (show ((pnC l xn yn an bn i j : Nat) : Int) - 48 = gr l (i : Int) (j : Int) from by
                unfold pnC; rw [if_neg hpn, gr_cell (by rw [← HN.out]; omega) hlt])
              rw [HZ.out] at HGS
              obtain ⟨z, hz⟩ : ∃ z, z = gr l (i : Int) (j : Int) := ⟨_, rfl⟩
              rw [← hz] at HGC HGS
              clear hpn hz
              go_wp2_with (first
                | (go_at_call 73; refine (HIN.out).mono ?_; rintro e w9 ⟨rfl, hx9⟩; have HB9 := Lib.hid (bext HB2.out hx9 HB2.out.size); have HQ9 := Lib.hid (HQ2.out.ext hx9); have HV9 := Lib.hid (own_ext HV2.out hx9); have hbs9 := hx9.size; clear hx9)
                | (go_at_call 53; refine (HGC.out _ HB9.out).mono ?_; rintro e w10 ⟨rfl, rfl⟩)
                | (at_builtin; refine wpList_pushI _ rfl _ _ rfl (w.heap.size + 1) HV9.out (by rfl) (by rfl) rfl hgl2 (by omega) ?_; intro v5 w5 hv5 hb5 hk5 _; have HV5 := Lib.hid hv5; have HB5 := Lib.hid (HB9.out.trans (hb5.mono (by omega))); have HQ5 := Lib.hid ((hk5 _ HQ9.out.lt (own_ne_lt HV9.out (by omega))).trans HQ9.out); clear hv5 hb5 hk5))
              go_roundg (n - (i + 1))
              case measure => have := HG2.out; omega
              case rel => exact ⟨i + 1, by go_num, by omega, rfl, HB5.out, HQ5.out, by rw [HGS.out]; exact HV5.out⟩
          · obtain rfl : i = n := by omega
            have HR := Lib.hid (gridP_row i (fun i j => (pnC l xn yn an bn i j : Int) - 48) j)
            clear hgl
            go_wp2
            go_roundg (l.length - (j + 1))
            case measure => have := HG.out; have := HLT.out; omega
            case rel => exact ⟨j + 1, by go_num, by have := HLT.out; omega, rfl, HB2.out, HQ2.out, by rw [← HR.out]; exact HV2.out⟩
      · obtain rfl : j = l.length := by omega
        obtain ⟨C, cc, hv2, k1, k2, k3⟩ := HVV.out.isl
        subst hv2
        have hpr := fun i j => show 48 ≤ pnC l xn yn an bn i j ∧ pnC l xn yn an bn i j ≤ 57 from by have := cellB_rg HOK.out i j; unfold pnC; split <;> omega
        have HDR := Lib.hid (drawn_any n l.length (fun i j => (pnC l xn yn an bn i j : Int) - 48) C cc wr (by omega) (by omega) (fun x y _ _ => by have := hpr x y; omega) k3)
        unfold RetSk at HDR
        obtain ⟨ms, hms⟩ : ∃ ms, ms = pnP l xn yn an bn := ⟨_, rfl⟩
        have HMS := Lib.hid hms
        have e1 : (skF n l.length fun i j => 48 + ((pnC l xn yn an bn i j : Int) - 48).toNat) = ms := by
          rw [hms]
          show _ = skF (wid l) l.length (pnC l xn yn an bn)
          rw [← HN.out]
          refine skF_congr fun i j' hi hj => ?_
          have := hpr i j'
          omega
        rw [e1] at HDR
        obtain ⟨hbr, r0, c0, hr0⟩ := HC.out _ HB.out
        rw [← HN.out] at hr0
        clear hms e1 k1 k2 k3 hlt hpr
        go_wp2_with (go_at_call 63; refine (HDR.out).mono ?_; rintro e w5 ⟨hx5, A5, cap5, rfl, k1, k2, k3⟩)
        refine bodyPost_ret (v := .tuple #[.slice A5 ms.length cap5, .int .i64 0]) (by simp [results, Tryd.results42, go_sem]) rfl ?_
        have hm2 := HMS.out
        subst hm2
        exact ⟨bext HB.out hx5 HB.out.size, .inr ⟨HF0.out, A5, cap5, rfl, k1, k2, k3⟩⟩
  · have HF0 := Lib.hid hft
    obtain ⟨ev, hev⟩ : ∃ ev, ev = ftE l x y a b := ⟨_, rfl⟩
    have HEV := Lib.hid hev
    rw [← hev] at HFT hft
    have hev2 : (ev != 0) = true := by simpa using hft
    clear hft h hev
    go_enter Tryd.func42, Tryd.ntmps42
    go_wp2_with (go_at_call 71; refine (HFT.out).mono ?_; rintro e w1 ⟨rfl, hx1⟩; have BB1 := Lib.hid (bext HX0.out hx1 HX0.out.size); have HQ1 := Lib.hid (HQ0.out.ext hx1); clear hx1; obtain ⟨q1, q2, q3⟩ := HQ1.out.facts)
    refine bodyPost_ret (v := .tuple #[.slice none 0 0, .int .i64 ev]) (by simp [results, Tryd.results42, go_sem]) rfl ?_
    exact ⟨BB1.out, .inl ⟨HF0.out, by rw [← HEV.out]⟩⟩
end Go.Proofs.YtdkoomcgnaokgaaDoor
