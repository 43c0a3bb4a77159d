/- Texts joined: Sm, Rf, Rm. Conditions: see each. -/
import Derived.Test.YtmgofdgbenfjmaaDoorFu1
import Derived.Test.YtmgofdgbenfjmaaDoorGok
namespace Go.Proofs.YtmgofdgbenfjmaaDoor
open Go.RowKit

/-- the sums, by number -/
def sumF (l : List ByteArray) (g : Int) (n1 k : Nat) : Int := tab l g (k % n1) (k / n1)
theorem sumF_at {l : List ByteArray} {g : Int} {n1 x y : Nat} (hx : x < n1) : sumF l g n1 (y * n1 + x) = tab l g x y := by
  unfold sumF
  rw [Nat.mul_comm y n1, Nat.mul_add_mod, Nat.mod_eq_of_lt hx, Nat.mul_add_div (by omega), Nat.div_eq_of_lt hx, Nat.add_zero]
theorem tab_step (l : List ByteArray) (g : Int) (x y : Nat) : tab l g (x + 1) (y + 1) = tab l g (x + 1) y + tab l g x (y + 1) - tab l g x y + (if usb l g ((x : Int), (y : Int)) then 1 else 0) := by
  show tab l g (x + 1) y + rcn l g y (x + 1) = tab l g (x + 1) y + (tab l g x y + rcn l g y x) - tab l g x y + _
  rw [show rcn l g y (x + 1) = rcn l g y x + if usb l g ((x : Int), (y : Int)) then 1 else 0 from rfl]
  omega
set_option maxRecDepth 100000 in
set_option maxHeartbeats 8000000 in
theorem rsums_any (A : Option Addr) (cap : Nat) (l : List ByteArray) (g : Int) (w : World) (hok : SkOk l) (h : TSl w A l) :
    Calls Tryd.prog 55 #[.slice A l.length cap, .int .i64 g] w fun e w' => ∃ v, e = .returned (.slice (some ⟨v, 0, none⟩) ((wid l + 1) * (l.length + 1)) ((wid l + 1) * (l.length + 1))) ∧ w.heap.size ≤ v ∧ Ow 3 v ((wid l + 1) * (l.length + 1)) (sumF l g (wid l + 1)) w' ∧ Below w.heap.size w w' := by
  have HGR := Lib.hid (fun x y W (hW : Below w.heap.size w W) => rgrade_any A cap l x y W hok (h.ext hW))
  rcases h with h0 | ⟨b, off, rfl, hblt, hcl⟩
  · have h1 := hok.1; rw [h0] at h1; simp at h1
  obtain ⟨r0, c0, hr0⟩ := first_row hok hcl
  have hl1 := hok.1
  have hl48 := hok.2.1
  have hw48 := hok.2.2.2.1
  have hw1 := hok.2.2.1
  have HUS := Lib.hid (show ∀ x y, (usb l g (x, y) = true ↔ g ≤ gr l x y) from fun x y => by unfold usb; simp)
  have HST := Lib.hid (fun x y => tab_step l g x y)
  have HBD := Lib.hid (fun x (hx : x ≤ 48) y => tab_bd l g hx y)
  have HT0 := Lib.hid (fun y => tab_zero l g y)
  obtain ⟨n, hn⟩ : ∃ n, n = wid l := ⟨_, rfl⟩
  have HN := Lib.hid hn
  rw [← hn] at hr0 hw48 hw1 ⊢
  obtain ⟨n1, hn1⟩ : ∃ n1, n1 = n + 1 := ⟨_, rfl⟩
  obtain ⟨h1, hh1⟩ : ∃ h1, h1 = l.length + 1 := ⟨_, rfl⟩
  rw [← hn1, ← hh1]
  obtain ⟨N, hN⟩ : ∃ N, N = n1 * h1 := ⟨_, rfl⟩
  rw [← hN]
  have HNN := Lib.hid hN
  have hn1i : (n : Int) + 1 = (n1 : Int) := by omega
  have hh1i : (l.length : Int) + 1 = (h1 : Int) := by omega
  have hNi : (n1 : Int) * (h1 : Int) = (N : Int) := by rw [hN]; push_cast; rfl
  have hn1b : n1 ≤ 49 ∧ n < n1 := by omega
  have hh1b : h1 ≤ 49 ∧ l.length < h1 := by omega
  have hNb : N ≤ 49 * 49 := by rw [hN]; exact Nat.mul_le_mul hn1b.1 hh1b.1
  have HN1 := Lib.hid hn1
  have HH1 := Lib.hid hh1
  have hmk : ∀ W, (Instr.makeSlice 64 (.int .i64 (N : Int)) (.int .i64 (N : Int))).run Tryd.prog W = .ok (.slice (some ⟨W.heap.size, 0, none⟩) N N) (W.alloc (.cells (cellsOf N fun _ => 0) 3)) := fun W => run_zeros N (by omega) W
  have HO0 := Lib.hid (Ow.new 3 w N (fun _ => 0))
  have HX0 := Lib.hid (ext_alloc w (.cells (cellsOf N fun _ => 0) 3))
  obtain ⟨F, hF⟩ : ∃ F, F = sumF l g n1 := ⟨_, rfl⟩
  have HF := Lib.hid hF
  have HFA := Lib.hid (show ∀ x y, x < n1 → F (y * n1 + x) = tab l g x y from fun x y hx => by rw [hF]; exact sumF_at hx)
  have HF0 := Lib.hid (show ∀ k, k < n1 + 1 → F k = 0 from fun k hk => by
    rw [hF]
    by_cases e : k < n1
    · have := sumF_at (l := l) (g := g) (y := 0) e
      rw [Nat.zero_mul, Nat.zero_add] at this
      rw [this]; rfl
    · have h2 := sumF_at (l := l) (g := g) (y := 1) (show 0 < n1 by omega)
      rw [show k = 1 * n1 + 0 by omega, h2]
      exact tab_zero l g 1)
  rw [← hF]
  clear hok hcl hN hn hn1 hh1 hF
  go_enter Tryd.func55, Tryd.ntmps55
  go_upto_region 3 with (fail)
  obtain ⟨u, hu⟩ : ∃ u, u = w.heap.size := ⟨_, rfl⟩
  have huw : w.heap.size ≤ u := by omega
  obtain ⟨X, hX⟩ : ∃ X, X = w.alloc (.cells (cellsOf N fun _ => 0) 3) := ⟨_, rfl⟩
  rw [← hu, ← hX]
  rw [← hu, ← hX] at HO0
  rw [← hX] at HX0
  clear hX hu c0 hmk
  go_wp2_with (fail)
  go_loopg [8] l.length (fun gg z wr => ∃ y : Nat, z = .int .i64 ((y : Int) + 1) ∧ y ≤ l.length ∧ gg = l.length - y ∧ Ow 3 u N (outK F ((y + 1) * n1 + 1)) wr ∧ Below w.heap.size w wr)
  case atStart => exact ⟨0, by go_num, by omega, by omega, HO0.out.congr (fun i _ => by unfold outK; split <;> first | rfl | (rw [HF0.out i (by omega)])), HX0.out⟩
  case round =>
    obtain ⟨y, rfl, hy, hg, ho, hb⟩ := hrel
    have HG := Lib.hid hg
    have HO := Lib.hid ho
    have HB := Lib.hid hb
    clear hg ho hb HO0 HX0
    by_cases hlt : y < l.length
    · have hyI : (y : Int) + 1 ≤ (l.length : Int) := by omega
      have HLT := Lib.hid hlt
      go_wp2_with (fail)
      go_loopg [9] n (fun gg z wr => ∃ x : Nat, z = .int .i64 ((x : Int) + 1) ∧ x ≤ n ∧ gg = n - x ∧ Ow 3 u N (outK F ((y + 1) * n1 + (x + 1))) wr ∧ Below w.heap.size w wr)
      case atStart => exact ⟨0, by go_num, by omega, by omega, HO.out, HB.out⟩
      case round =>
        obtain ⟨x, rfl, hx, hg2, ho, hb⟩ := hrel
        have HG2 := Lib.hid hg2
        have HO2 := Lib.hid ho
        have HB2 := Lib.hid hb
        clear hg2 ho hb HO HB
        by_cases hxn : x < n
        · have hxI : (x : Int) + 1 ≤ (n : Int) := by omega
          obtain ⟨yw, hyw⟩ : ∃ yw, yw = y * n1 := ⟨_, rfl⟩
          obtain ⟨yv, hyv⟩ : ∃ yv, yv = (y + 1) * n1 := ⟨_, rfl⟩
          have hywi : (y : Int) * (n1 : Int) = (yw : Int) := by rw [hyw]; push_cast; rfl
          have hyvi : ((y : Int) + 1) * (n1 : Int) = (yv : Int) := by rw [hyv]; push_cast; rfl
          have hyy : yv = yw + n1 := by rw [hyv, hyw, Nat.succ_mul]
          have hyN : yv + n1 ≤ N := by
            rw [hyv, HNN.out, ← Nat.succ_mul, Nat.mul_comm]
            exact Nat.mul_le_mul_left n1 (by have := HH1.out; omega)
          obtain ⟨i1, hi1⟩ : ∃ i1, i1 = yw + (x + 1) := ⟨_, rfl⟩
          obtain ⟨i2, hi2⟩ : ∃ i2, i2 = yv + (x + 1) := ⟨_, rfl⟩
          obtain ⟨i3, hi3⟩ : ∃ i3, i3 = yv + x := ⟨_, rfl⟩
          obtain ⟨i4, hi4⟩ : ∃ i4, i4 = yw + x := ⟨_, rfl⟩
          have hi1i : (yw : Int) + ((x : Int) + 1) = (i1 : Int) := by omega
          have hi2i : (yv : Int) + ((x : Int) + 1) = (i2 : Int) := by omega
          have hi3i : (i2 : Int) - 1 = (i3 : Int) := by omega
          have hi4i : (i1 : Int) - 1 = (i4 : Int) := by omega
          have b1 : i1 < N := by omega
          have b2 : i2 < N := by omega
          have b3 : i3 < N := by omega
          have b4 : i4 < N := by omega
          have f1 : F i1 = tab l g (x + 1) y := by rw [hi1, hyw]; exact HFA.out (x + 1) y (by omega)
          have f2 : F i2 = tab l g (x + 1) (y + 1) := by rw [hi2, hyv]; exact HFA.out (x + 1) (y + 1) (by omega)
          have f3 : F i3 = tab l g x (y + 1) := by rw [hi3, hyv]; exact HFA.out x (y + 1) (by omega)
          have f4 : F i4 = tab l g x y := by rw [hi4, hyw]; exact HFA.out x y (by omega)
          have HO3 := Lib.hid (show Ow 3 u N (outK F i2) wr from by rw [hi2, hyv]; exact HO2.out)
          have c1 : wr.cell? ⟨u, i1, none⟩ = some (.int .i64 (F i1)) := by rw [HO3.out.cell b1]; unfold outK; rw [if_pos (by omega)]
          have c3 : wr.cell? ⟨u, i3, none⟩ = some (.int .i64 (F i3)) := by rw [HO3.out.cell b3]; unfold outK; rw [if_pos (by omega)]
          have c4 : wr.cell? ⟨u, i4, none⟩ = some (.int .i64 (F i4)) := by rw [HO3.out.cell b4]; unfold outK; rw [if_pos (by omega)]
          have hub := HO3.out.lt
          have HSTEP := Lib.hid (show F i2 = F i1 + F i3 - F i4 + (if usb l g ((x : Int), (y : Int)) then 1 else 0) from by rw [f1, f2, f3, f4]; exact HST.out x y)
          have d1 := HBD.out (x + 1) (by omega) y
          have d3 := HBD.out x (by omega) (y + 1)
          have d4 := HBD.out x (by omega) y
          rw [← f1] at d1
          rw [← f3] at d3
          rw [← f4] at d4
          have HI2 := Lib.hid (show i2 + 1 = (y + 1) * n1 + (x + 1 + 1) from by rw [hi2, hyv]; omega)
          obtain ⟨v1, hv1⟩ : ∃ v1, v1 = F i1 := ⟨_, rfl⟩
          obtain ⟨v3, hv3⟩ : ∃ v3, v3 = F i3 := ⟨_, rfl⟩
          obtain ⟨v4, hv4⟩ : ∃ v4, v4 = F i4 := ⟨_, rfl⟩
          rw [← hv1] at c1 d1 HSTEP
          rw [← hv3] at c3 d3 HSTEP
          rw [← hv4] at c4 d4 HSTEP
          have b1I : (i1 : Int) < (N : Int) := by omega
          have b2I : (i2 : Int) < (N : Int) := by omega
          have b3I : (i3 : Int) < (N : Int) := by omega
          have b4I : (i4 : Int) < (N : Int) := by omega
          have d1' : 0 ≤ v1 ∧ v1 ≤ 3000 := by omega
          have d3' : 0 ≤ v3 ∧ v3 ≤ 3000 := by omega
          have d4' : 0 ≤ v4 ∧ v4 ≤ 3000 := by omega
          clear hyw hyv hyy hi1 hi2 hi3 hi4 f1 f2 f3 f4 hv1 hv3 hv4 d1 d3 d4 HO2
          go_upto_region 9 with (fail)
          go_quiet (fail)
          have HOQ := Lib.hid (HO3.out.ext (ext_drewN wr nq))
          have HBQ := Lib.hid (bdrewN HB2.out nq)
          obtain ⟨Z, hZ⟩ : ∃ Z, Z = wr.drewN nq := ⟨_, rfl⟩
          rw [← hZ] at HOQ HBQ ⊢
          clear hZ HO3 HB2 c1 c3 c4
          have q1 := HOQ.out.cell b2
          have q2 := HOQ.out.frozen i2
          have q3 := HOQ.out.lt
          have HSET := Lib.hid (show Ow 3 u N (outK F (i2 + 1)) (Z.setCell ⟨u, i2, none⟩ (.int .i64 (F i2))) from by
            have h := HOQ.out.set i2 (F i2)
            rw [outK_set] at h; exact h)
          have HGC := Lib.hid (HGR.out (x : Int) (y : Int) Z HBQ.out)
          have HU1 := Lib.hid (HUS.out (x : Int) (y : Int))
          obtain ⟨z1, hz1⟩ : ∃ z1, z1 = gr l (x : Int) (y : Int) := ⟨_, rfl⟩
          rw [← hz1] at HGC HU1
          clear hz1
          by_cases hgz : g ≤ z1
          · have HV := Lib.hid (show v1 + v3 - v4 + 1 = F i2 from by rw [HSTEP.out, if_pos (HU1.out.2 hgz)])
            clear HSTEP
            go_wp2_with (go_at_call 34; refine (HGC.out).mono ?_; rintro r9 w9 ⟨rfl, rfl⟩)
            all_goals go_roundg (n - (x + 1))
            all_goals first | (have := HG2.out; omega) | exact ⟨x + 1, by go_num, by omega, rfl, by rw [HV.out, ← HI2.out]; exact HSET.out, HBQ.out.setCell huw _⟩
          · have HV := Lib.hid (show v1 + v3 - v4 = F i2 from by rw [HSTEP.out, if_neg (fun h => hgz (HU1.out.1 h)), Int.add_zero])
            clear HSTEP
            go_wp2_with (go_at_call 34; refine (HGC.out).mono ?_; rintro r9 w9 ⟨rfl, rfl⟩)
            all_goals go_roundg (n - (x + 1))
            all_goals first | (have := HG2.out; omega) | exact ⟨x + 1, by go_num, by omega, rfl, by rw [HV.out, ← HI2.out]; exact HSET.out, HBQ.out.setCell huw _⟩
        · have hxI : ¬ (x : Int) + 1 ≤ (n : Int) := by omega
          have HOE := Lib.hid (show Ow 3 u N (outK F ((y + 1 + 1) * n1 + 1)) wr from HO2.out.congr (fun i hi => by
            have e : (y + 1) * n1 + (x + 1) = (y + 1 + 1) * n1 := by rw [Nat.succ_mul (y + 1), HN1.out]; omega
            unfold outK
            rw [e]
            by_cases h1 : i < (y + 1 + 1) * n1
            · rw [if_pos h1, if_pos (by omega)]
            · rw [if_neg h1]
              by_cases h2 : i < (y + 1 + 1) * n1 + 1
              · rw [if_pos h2]
                have := HFA.out 0 (y + 1 + 1) (by omega)
                rw [show i = (y + 1 + 1) * n1 + 0 by omega, this, HT0.out]
              · rw [if_neg h2]))
          go_wp2
          go_roundg (l.length - (y + 1))
          case measure => have := HG.out; have := HLT.out; omega
          case rel => exact ⟨y + 1, by go_num, by have := HLT.out; omega, rfl, HOE.out, HB2.out⟩
    · have hyI : ¬ (y : Int) + 1 ≤ (l.length : Int) := by omega
      have HOE := Lib.hid (show Ow 3 u N F wr from HO.out.congr (fun i hi => by
        unfold outK
        rw [if_pos ?_]
        rw [HNN.out] at hi
        have : y + 1 = h1 := by have := HH1.out; omega
        rw [this, Nat.mul_comm]; omega))
      go_wp2
      refine bodyPost_ret (v := .slice (some ⟨u, 0, none⟩) N N) (by simp [results, Tryd.results55, go_sem]) rfl ?_
      exact ⟨u, rfl, huw, HOE.out, HB.out⟩

/-- usable, where the rectangle may begin left of the grid or above -/
def fuR (us : Int × Int → Bool) (x y : Int) (a b : Nat) : Bool := decide (0 ≤ x) && fuZ us x.toNat y a b
theorem fuR_nat (us : Int × Int → Bool) (x y a b : Nat) : fuR us (x : Int) (y : Int) a b = fuB us x y a b := by
  unfold fuR; rw [decide_eq_true (by omega), Int.toNat_natCast, fuZ_nat]; rfl
theorem fuR_x {us : Int × Int → Bool} {x y : Int} {a b : Nat} (h : x < 0) : fuR us x y a b = false := by unfold fuR; rw [decide_eq_false (by omega)]; rfl
theorem fuR_y {us : Int × Int → Bool} {x y : Int} {a b : Nat} (h : y < 0) : fuR us x y a b = false := by unfold fuR; rw [fuZ_neg h, Bool.and_false]
set_option maxRecDepth 100000 in
set_option maxHeartbeats 4000000 in
theorem rfull_any (l : List ByteArray) (g : Int) (v a b : Nat) (x y : Int) (w : World) (ho : Ow 3 v ((wid l + 1) * (l.length + 1)) (sumF l g (wid l + 1)) w) (hg : 1 ≤ g) (hn48 : wid l ≤ 48) (hh48 : l.length ≤ 48) (hx : -10 ≤ x ∧ x ≤ 100) (hy : -10 ≤ y ∧ y ≤ 100) (ha : 1 ≤ a ∧ a ≤ 100) (hb : 1 ≤ b ∧ b ≤ 100) :
    Calls Tryd.prog 56 #[.slice (some ⟨v, 0, none⟩) ((wid l + 1) * (l.length + 1)) ((wid l + 1) * (l.length + 1)), .int .i64 (wid l : Int), .int .i64 (l.length : Int), .agg #[.int .i64 x, .int .i64 y, .int .i64 (a : Int), .int .i64 (b : Int)]] w fun e w' => e = .returned (.bool (fuR (usb l g) x y a b)) ∧ Below w.heap.size w w' := by
  have HFI := Lib.hid (fun (xn yn : Nat) (hf : fuB (usb l g) xn yn a b = true) => fuB_in hg ha.1 hb.1 hf)
  have HCT := Lib.hid (fun x y => cnt_tab l g x y a b)
  have HCF := Lib.hid (fun x y => (cnt_fuB (l := l) (g := g) (x := x) (y := y) (a := a) (b := b)))
  have HBD := Lib.hid (fun x (hx : x ≤ 48) y => tab_bd l g hx y)
  obtain ⟨n, hn⟩ : ∃ n, n = wid l := ⟨_, rfl⟩
  rw [← hn] at HFI ho hn48 ⊢
  obtain ⟨h, hh⟩ : ∃ h, h = l.length := ⟨_, rfl⟩
  rw [← hh] at HFI ho hh48 ⊢
  obtain ⟨n1, hn1⟩ : ∃ n1, n1 = n + 1 := ⟨_, rfl⟩
  obtain ⟨h1, hh1⟩ : ∃ h1, h1 = h + 1 := ⟨_, rfl⟩
  rw [← hn1, ← hh1] at ho ⊢
  obtain ⟨N, hN⟩ : ∃ N, N = n1 * h1 := ⟨_, rfl⟩
  rw [← hN] at ho ⊢
  have HNN := Lib.hid hN
  have HN1 := Lib.hid hn1
  have HH1 := Lib.hid hh1
  have hn1i : (n : Int) + 1 = (n1 : Int) := by omega
  have hn1b : n1 ≤ 49 := by omega
  have hNb : N ≤ 49 * 49 := by rw [hN]; exact Nat.mul_le_mul hn1b (by omega)
  have HO := Lib.hid ho
  have HFA := Lib.hid (fun (x y : Nat) (hx : x < n1) => sumF_at (l := l) (g := g) (y := y) hx)
  have hx0 := ext_alloc w (.cells #[.int .i64 x, .int .i64 y, .int .i64 (a : Int), .int .i64 (b : Int)] 31)
  have HX0 := Lib.hid hx0
  have HR := Lib.hid (Bk.new 31 w #[.int .i64 x, .int .i64 y, .int .i64 (a : Int), .int .i64 (b : Int)])
  have HOV := Lib.hid (ho.ext hx0)
  obtain ⟨rb, hrb⟩ : ∃ rb, rb = w.heap.size := ⟨_, rfl⟩
  obtain ⟨V, hV⟩ : ∃ V, V = w.alloc (.cells #[.int .i64 x, .int .i64 y, .int .i64 (a : Int), .int .i64 (b : Int)] 31) := ⟨_, rfl⟩
  rw [← hV] at HX0 HOV
  rw [← hrb, ← hV] at HR
  obtain ⟨ha1, ha2⟩ := ha
  obtain ⟨hb1, hb2⟩ := hb
  obtain ⟨f1, f2, f3⟩ := HR.out.facts
  clear hn hh hn1 hh1 hN ho hx0
  by_cases hxn : x < 0
  · rw [fuR_x hxn]
    go_enter Tryd.func56, Tryd.ntmps56
    go_upto_region 1 with (fail)
    rw [← hV, ← hrb]
    clear hV hrb
    go_wp2
    go_ret
    exact ⟨rfl, HX0.out⟩
  · by_cases hyn : y < 0
    · rw [fuR_y hyn]
      have hx0 : ¬ x < 0 := hxn
      go_enter Tryd.func56, Tryd.ntmps56
      go_upto_region 1 with (fail)
      rw [← hV, ← hrb]
      clear hV hrb
      go_wp2
      go_ret
      exact ⟨rfl, HX0.out⟩
    · obtain ⟨xn, rfl⟩ := Int.eq_ofNat_of_zero_le (show 0 ≤ x by omega)
      obtain ⟨yn, rfl⟩ := Int.eq_ofNat_of_zero_le (show 0 ≤ y by omega)
      rw [fuR_nat]
      have hx1 : ¬ (xn : Int) < 0 := by omega
      have hy1 : ¬ (yn : Int) < 0 := by omega
      have hxb : xn ≤ 100 := by omega
      have hyb : yn ≤ 100 := by omega
      by_cases hxa : n < xn + a
      · have hf : fuB (usb l g) xn yn a b = false := by
          cases hc : fuB (usb l g) xn yn a b
          · rfl
          · have := HFI.out xn yn hc; omega
        rw [hf]
        have hxa2 : (n : Int) < (xn : Int) + (a : Int) := by omega
        clear hf hxa hx hy hxn hyn
        go_enter Tryd.func56, Tryd.ntmps56
        go_upto_region 1 with (fail)
        rw [← hV, ← hrb]
        clear hV hrb
        go_wp2
        go_ret
        exact ⟨rfl, HX0.out⟩
      · have hxa2 : ¬ (n : Int) < (xn : Int) + (a : Int) := by omega
        by_cases hya : h < yn + b
        · have hf : fuB (usb l g) xn yn a b = false := by
            cases hc : fuB (usb l g) xn yn a b
            · rfl
            · have := HFI.out xn yn hc; omega
          rw [hf]
          have hya2 : (h : Int) < (yn : Int) + (b : Int) := by omega
          clear hf hya hx hy hxn hyn hxa
          go_enter Tryd.func56, Tryd.ntmps56
          go_upto_region 1 with (fail)
          rw [← hV, ← hrb]
          clear hV hrb
          go_wp2
          go_ret
          exact ⟨rfl, HX0.out⟩
        · have hya2 : ¬ (h : Int) < (yn : Int) + (b : Int) := by omega
          obtain ⟨y2, hy2⟩ : ∃ y2, y2 = yn + b := ⟨_, rfl⟩
          obtain ⟨ya, hyae⟩ : ∃ ya, ya = yn * n1 := ⟨_, rfl⟩
          obtain ⟨yc, hyce⟩ : ∃ yc, yc = y2 * n1 := ⟨_, rfl⟩
          have hy2i : (yn : Int) + (b : Int) = (y2 : Int) := by omega
          have hyai : (yn : Int) * (n1 : Int) = (ya : Int) := by rw [hyae]; push_cast; rfl
          have hyci : (y2 : Int) * (n1 : Int) = (yc : Int) := by rw [hyce]; push_cast; rfl
          have hle : ya ≤ yc := by rw [hyae, hyce]; exact Nat.mul_le_mul_right n1 (by omega)
          have hyN : yc + n1 ≤ N := by
            rw [hyce, HNN.out, ← Nat.succ_mul, Nat.mul_comm]
            exact Nat.mul_le_mul_left n1 (by have := HH1.out; omega)
          have hn1x : xn + a < n1 := by have := HN1.out; omega
          obtain ⟨i2, hi2⟩ : ∃ i2, i2 = yc + xn := ⟨_, rfl⟩
          obtain ⟨i1, hi1⟩ : ∃ i1, i1 = i2 + a := ⟨_, rfl⟩
          obtain ⟨i4, hi4⟩ : ∃ i4, i4 = ya + xn := ⟨_, rfl⟩
          obtain ⟨i3, hi3⟩ : ∃ i3, i3 = i4 + a := ⟨_, rfl⟩
          have hi2i : (yc : Int) + (xn : Int) = (i2 : Int) := by omega
          have hi1i : (i2 : Int) + (a : Int) = (i1 : Int) := by omega
          have hi4i : (ya : Int) + (xn : Int) = (i4 : Int) := by omega
          have hi3i : (i4 : Int) + (a : Int) = (i3 : Int) := by omega
          have b1 : (i1 : Int) < (N : Int) := by omega
          have b2 : (i2 : Int) < (N : Int) := by omega
          have b3 : (i3 : Int) < (N : Int) := by omega
          have b4 : (i4 : Int) < (N : Int) := by omega
          have e1 : sumF l g n1 i1 = tab l g (xn + a) y2 := by rw [show i1 = y2 * n1 + (xn + a) by omega]; exact HFA.out (xn + a) y2 hn1x
          have e2 : sumF l g n1 i2 = tab l g xn y2 := by rw [show i2 = y2 * n1 + xn by omega]; exact HFA.out xn y2 (by omega)
          have e3 : sumF l g n1 i3 = tab l g (xn + a) yn := by rw [show i3 = yn * n1 + (xn + a) by omega]; exact HFA.out (xn + a) yn hn1x
          have e4 : sumF l g n1 i4 = tab l g xn yn := by rw [show i4 = yn * n1 + xn by omega]; exact HFA.out xn yn (by omega)
          have d1 := HBD.out (xn + a) (by omega) y2
          have d2 := HBD.out xn (by omega) y2
          have d3 := HBD.out (xn + a) (by omega) yn
          have d4 := HBD.out xn (by omega) yn
          have c1 := HOV.out.cell (i := i1) (by omega)
          have c2 := HOV.out.cell (i := i2) (by omega)
          have c3 := HOV.out.cell (i := i3) (by omega)
          have c4 := HOV.out.cell (i := i4) (by omega)
          have hvV := HOV.out.lt
          rw [e1] at c1
          rw [e2] at c2
          rw [e3] at c3
          rw [e4] at c4
          have HC := Lib.hid (HCT.out xn yn)
          have HCX := Lib.hid (HCF.out xn yn)
          rw [← hy2] at HC
          obtain ⟨v1, hv1⟩ : ∃ v1, v1 = tab l g (xn + a) y2 := ⟨_, rfl⟩
          obtain ⟨v2, hv2⟩ : ∃ v2, v2 = tab l g xn y2 := ⟨_, rfl⟩
          obtain ⟨v3, hv3⟩ : ∃ v3, v3 = tab l g (xn + a) yn := ⟨_, rfl⟩
          obtain ⟨v4, hv4⟩ : ∃ v4, v4 = tab l g xn yn := ⟨_, rfl⟩
          rw [← hv1] at c1 d1 HC
          rw [← hv2] at c2 d2 HC
          rw [← hv3] at c3 d3 HC
          rw [← hv4] at c4 d4 HC
          obtain ⟨ab, hab⟩ : ∃ ab : Nat, ab = a * b := ⟨_, rfl⟩
          have habi : (a : Int) * (b : Int) = (ab : Int) := by rw [hab]; push_cast; rfl
          have habb : ab ≤ 100 * 100 := by rw [hab]; exact Nat.mul_le_mul ha2 hb2
          have hwr : IntKind.i64.wrap (ab : Int) = (ab : Int) := by simp [IntKind.wrap, IntKind.bits, IntKind.signed]; omega
          rw [habi, HC.out] at HCX
          have d1' : 0 ≤ v1 ∧ v1 ≤ 48 * 200 := by omega
          have d2' : 0 ≤ v2 ∧ v2 ≤ 48 * 200 := by omega
          have d3' : 0 ≤ v3 ∧ v3 ≤ 48 * 200 := by omega
          have d4' : 0 ≤ v4 ∧ v4 ≤ 48 * 200 := by omega
          obtain ⟨fv, hfv⟩ : ∃ fv, fv = fuB (usb l g) xn yn a b := ⟨_, rfl⟩
          have HEE := Lib.hid (show (v1 - v2 - v3 + v4 == (ab : Int)) = fv from by
            rw [hfv]
            cases hc : fuB (usb l g) xn yn a b
            · rw [beq_eq_false_iff_ne]; exact fun he => by have := HCX.out.1 he; rw [hc] at this; cases this
            · rw [beq_iff_eq]; exact HCX.out.2 hc)
          rw [← hfv]
          clear hfv e1 e2 e3 e4 hv1 hv2 hv3 hv4 d1 d2 d3 d4 hi1 hi2 hi3 hi4 hyae hyce hab hle hyN hn1x hxa hya hy2 hx hy hxn hyn
          go_enter Tryd.func56, Tryd.ntmps56
          go_upto_region 1 with (fail)
          rw [← hV, ← hrb]
          clear hV hrb
          go_upto_region 3 with (fail)
          go_quiet (fail)
          have HOQ := Lib.hid (HOV.out.ext (ext_drewN V nq))
          have HXQ := Lib.hid (bdrewN HX0.out nq)
          go_wp2_with (fail)
          go_quiet (fail)
          go_wp2
          go_ret
          exact ⟨by first | rfl | (rw [← HEE.out]; first | rfl | (rw [hwr]; rfl) | (simp only [hwr]; rfl)), bdrewN HXQ.out _⟩

/-- the five tests of a rectangle -/
theorem mx_five {us : Int × Int → Bool} {x y a b : Nat} (ha : 1 ≤ a) (hb : 1 ≤ b) : Mx us ⟨x, y, a, b⟩ ↔ fuB us x y a b = true ∧ fuR us ((x : Int) - 1) (y : Int) (a + 1) b = false ∧ fuR us (x : Int) ((y : Int) - 1) a (b + 1) = false ∧ fuB us x y (a + 1) b = false ∧ fuB us x y a (b + 1) = false := by
  have hF : fuB us x y a b = true ↔ Fu us x y a b := fu_iff
  rw [hF, fu_no, fu_no]
  have e1 : Fu us x y a b → (fuR us ((x : Int) - 1) (y : Int) (a + 1) b = false ↔ ¬ (1 ≤ x ∧ Fu us (x - 1) y 1 b)) := fun hf => by
    by_cases hx : 1 ≤ x
    · rw [show (x : Int) - 1 = ((x - 1 : Nat) : Int) by omega, fuR_nat, fu_no]
      refine ⟨fun h k => h ?_, fun h k => h ⟨hx, k.sub (Nat.le_refl _) (by omega) (Nat.le_refl _) (by omega)⟩⟩
      have := k.2.addX (a' := a) (by rw [show x - 1 + 1 = x by omega]; exact hf)
      rw [Nat.add_comm] at this; exact this
    · rw [fuR_x (by omega)]
      exact ⟨fun _ k => hx k.1, fun _ => rfl⟩
  have e2 : Fu us x y a b → (fuR us (x : Int) ((y : Int) - 1) a (b + 1) = false ↔ ¬ (1 ≤ y ∧ Fu us x (y - 1) a 1)) := fun hf => by
    by_cases hy : 1 ≤ y
    · rw [show (y : Int) - 1 = ((y - 1 : Nat) : Int) by omega, fuR_nat, fu_no]
      refine ⟨fun h k => h ?_, fun h k => h ⟨hy, k.sub (Nat.le_refl _) (by omega) (Nat.le_refl _) (by omega)⟩⟩
      have := k.2.addY (b' := b) (by rw [show y - 1 + 1 = y by omega]; exact hf)
      rw [Nat.add_comm] at this; exact this
    · rw [fuR_y (by omega)]
      exact ⟨fun _ k => hy k.1, fun _ => rfl⟩
  have e3 : Fu us x y a b → (¬ Fu us x y (a + 1) b ↔ ¬ Fu us (x + a) y 1 b) := fun hf =>
    ⟨fun h k => h (hf.addX k), fun h k => h (k.sub (by omega) (by omega) (Nat.le_refl _) (by omega))⟩
  have e4 : Fu us x y a b → (¬ Fu us x y a (b + 1) ↔ ¬ Fu us x (y + b) a 1) := fun hf =>
    ⟨fun h k => h (hf.addY k), fun h k => h (k.sub (Nat.le_refl _) (by omega) (by omega) (by omega))⟩
  constructor
  · rintro ⟨_, _, h, h1, h2, h3, h4⟩
    exact ⟨h, (e1 h).2 h1, (e2 h).2 h3, (e3 h).2 h2, (e4 h).2 h4⟩
  · rintro ⟨h, h1, h2, h3, h4⟩
    exact ⟨ha, hb, h, (e1 h).1 h1, (e3 h).1 h3, (e2 h).1 h2, (e4 h).1 h4⟩
/-- what the reference's Maximal knows of a world -/
def MrS (w : World) (B : Nat) (v : Value) (ms : List Rn) (wr : World) : Prop := Vr B wr v ms ∧ Below B w wr
theorem MrS.ext {w wr w' : World} {B : Nat} {v : Value} {ms : List Rn} (h : MrS w B v ms wr) (hb : Below wr.heap.size wr w') (hB : B ≤ w.heap.size := by first | assumption | omega) : MrS w B v ms w' := ⟨own_ext h.1 hb, bext h.2 hb (Nat.le_trans hB h.2.size)⟩
/-- the list under way is not long -/
theorem mxs_len {us : Int × Int → Bool} {n h : Nat} (hi : Inn us n h) (hn : n ≤ 48) (hh : h ≤ 48) {p : Rn} {ms : List Rn} (hm : MxS us p ms) : ms.length ≤ 10000000 := by
  refine mx_len hi hn hh (P := fun r => rlt r p) ⟨?_, hm.2⟩
  exact List.Pairwise.imp (R := rlt) (S := fun a b => a ≠ b) (fun {a b} hab e => by subst e; exact rlt_irr _ hab) hm.1
/-- what the reference's Maximal answers -/
def RetMx (w : World) (l : List ByteArray) (g : Int) (e : Ending) (w' : World) : Prop :=
  Below w.heap.size w w' ∧ ((¬ PsOk l g ∧ e = .returned (.tuple #[.slice none 0 0, .int .i64 2])) ∨
    (PsOk l g ∧ ∃ A cap ms, e = .returned (.tuple #[.slice A ms.length cap, .int .i64 0]) ∧ ms.length ≤ cap ∧ cap ≤ 9223372036854775807 ∧ ms.length ≤ 10000000 ∧ RSl w' A ms ∧ ms.Pairwise rlt ∧ ∀ r, r ∈ ms ↔ Mx (usb l g) r))
set_option maxRecDepth 100000 in
set_option maxHeartbeats 8000000 in
theorem rmaximal_any (A : Option Addr) (cap : Nat) (l : List ByteArray) (g : Int) (w : World) (hc : l.length ≤ cap) (hcm : cap ≤ 9223372036854775807) (h : TSl w A l) (hz : TSz l) :
    Calls Tryd.prog 16 #[.slice A l.length cap, .int .i64 g] w (RetMx w l g) := by
  have HGD := Lib.hid (good_any A cap l g w hc hcm h hz)
  by_cases hps : PsOk l g
  · rw [decide_eq_true hps] at HGD
    have HPS := Lib.hid hps
    have hok := hps.1
    have HSM := Lib.hid (fun W (hW : Below w.heap.size w W) => rsums_any A cap l g W hok (h.ext hW))
    rcases h with h0 | ⟨b, off, rfl, hblt, hcl⟩
    · have h1 := hok.1; rw [h0] at h1; simp at h1
    have HC := Lib.hid (show ∀ W, Below w.heap.size w W → b < W.heap.size ∧ ∃ r0 : ByteArray, W.cell? ⟨b, off, none⟩ = some (.string r0) ∧ r0.size = wid l from fun W hW => ⟨Nat.lt_of_lt_of_le hblt hW.size, first_row hok (fun j hj => (hW.cell (p := ⟨b, off + j, none⟩) hblt).trans (hcl j hj))⟩)
    have hl1 := hok.1
    have hl48 := hok.2.1
    have hw48 := hok.2.2.2.1
    have hg1 := hps.2.1
    have HFU := Lib.hid (fun v a b x y W ho hx hy ha hb => rfull_any l g v a b x y W ho hg1 hw48 hl48 hx hy ha hb)
    have HINN := Lib.hid (usb_inn (l := l) hg1)
    obtain ⟨us, hus⟩ : ∃ us, us = usb l g := ⟨_, rfl⟩
    have HU := Lib.hid hus
    rw [← hus] at HFU HINN
    obtain ⟨F, hF⟩ : ∃ F, F = sumF l g (wid l + 1) := ⟨_, rfl⟩
    rw [← hF] at HSM HFU
    obtain ⟨n, hn⟩ : ∃ n, n = wid l := ⟨_, rfl⟩
    rw [← hn] at HC hw48 HSM HFU HINN
    obtain ⟨N, hN⟩ : ∃ N, N = (n + 1) * (l.length + 1) := ⟨_, rfl⟩
    rw [← hN] at HSM HFU
    obtain ⟨h, hh⟩ : ∃ h, h = l.length := ⟨_, rfl⟩
    rw [← hh] at HFU HINN hl48
    have HH := Lib.hid hh
    have hhl : (l.length : Int) = (h : Int) := by omega
    clear hus hF hn hN hh hok hps hcl hblt hz
    go_enter Tryd.func16, Tryd.ntmps16
    go_upto_region 3 with (go_at_call 21; refine (HGD.out).mono ?_; rintro e w1 ⟨rfl, hx1⟩)
    obtain ⟨hb1, r0, c0, hr0⟩ := HC.out w1 hx1
    go_upto_region 4 with (fail)
    go_upto_region 6 with (go_at_call 55; refine (HSM.out w1 hx1).mono ?_; rintro e w2 ⟨v, rfl, hv1, ho, hx2⟩)
    have HO := Lib.hid ho
    have HB12 := Lib.hid (bext hx1 hx2 hx1.size)
    obtain ⟨B, hB⟩ : ∃ B, B = w2.heap.size := ⟨_, rfl⟩
    have hvB : v < B := by rw [hB]; exact ho.lt
    have hBw : B ≤ w2.heap.size := by omega
    have hBB : w.heap.size ≤ B := by rw [hB]; exact HB12.out.size
    have HS0 := Lib.hid (show MrS w2 B (.slice none 0 0) [] w2 from ⟨Vr.nil _ _, Below.refl _ _⟩)
    have HM0 := Lib.hid (MxS.start us)
    have HOW := Lib.hid (show ∀ W, Below B w2 W → Ow 3 v N F W from fun W hW => HO.out.below hW hvB)
    clear ho hx2 hv1 c0 hb1 hr0 hx1 hB HC HSM HGD
    go_wp2_with (fail)
    go_loopg [29, 9] h (fun gg z o wr => ∃ (y : Nat) (ms : List Rn), z = .int .i64 y ∧ y ≤ h ∧ gg = h - y ∧ MrS w2 B o ms wr ∧ MxS us ⟨0, y, 1, 1⟩ ms)
    case atStart => exact ⟨0, [], rfl, by omega, by omega, HS0.out, HM0.out⟩
    case round =>
      obtain ⟨y, ms, rfl, hy, hgg, hs, hm⟩ := hrel
      have HG1 := Lib.hid hgg
      have HS1 := Lib.hid hs
      have HM1 := Lib.hid hm
      clear hgg hs hm HS0 HM0
      by_cases hyh : y < h
      · have HYH := Lib.hid hyh
        go_wp2_with (fail)
        go_loopg [33, 9] n (fun gg z o wr => ∃ (x : Nat) (ms : List Rn), z = .int .i64 x ∧ x ≤ n ∧ gg = n - x ∧ MrS w2 B o ms wr ∧ MxS us ⟨x, y, 1, 1⟩ ms)
        case atStart => exact ⟨0, ms, rfl, by omega, by omega, HS1.out, HM1.out⟩
        case round =>
          obtain ⟨x, ms, rfl, hx, hgg, hs, hm⟩ := hrel
          have HG2 := Lib.hid hgg
          have HS2 := Lib.hid hs
          have HM2 := Lib.hid hm
          clear hgg hs hm HS1 HM1
          by_cases hxn : x < n
          · have HXN := Lib.hid hxn
            go_wp2_with (fail)
            go_loopg [12, 9] n (fun gg z o wr => ∃ (a : Nat) (ms : List Rn), z = .int .i64 a ∧ 1 ≤ a ∧ x + a ≤ n + 1 ∧ gg = n + 1 - a ∧ MrS w2 B o ms wr ∧ MxS us ⟨x, y, a, 1⟩ ms)
            case atStart => exact ⟨1, ms, rfl, by omega, by omega, by omega, HS2.out, HM2.out⟩
            case round =>
              obtain ⟨a, ms, rfl, ha1, ha2, hgg, hs, hm⟩ := hrel
              have HG3 := Lib.hid hgg
              have HS3 := Lib.hid hs
              have HM3 := Lib.hid hm
              clear hgg hs hm HS2 HM2
              by_cases hxa : x + a ≤ n
              · have hxaI : (x : Int) + (a : Int) ≤ (n : Int) := by omega
                go_wp2_with (fail)
                go_loopg [13, 9] h (fun gg z o wr => ∃ (b : Nat) (ms : List Rn), z = .int .i64 b ∧ 1 ≤ b ∧ y + b ≤ h + 1 ∧ gg = h + 1 - b ∧ MrS w2 B o ms wr ∧ MxS us ⟨x, y, a, b⟩ ms)
                case atStart => exact ⟨1, ms, rfl, by omega, by omega, by omega, HS3.out, HM3.out⟩
                case round =>
                  obtain ⟨b, ms, rfl, hb1, hb2, hgg, hs, hm⟩ := hrel
                  have HG4 := Lib.hid hgg
                  have HS4 := Lib.hid hs
                  have HM4 := Lib.hid hm
                  clear hgg hs hm HS3 HM3
                  by_cases hyb : y + b ≤ h
                  · have hybI : (y : Int) + (b : Int) ≤ (h : Int) := by omega
                    have hml : ms.length ≤ 100000000 := Nat.le_trans (mxs_len HINN.out hw48 hl48 HM4.out) (by decide)
                    have HXR := Lib.hid (ext_alloc wr (.cells #[.int .i64 (x : Int), .int .i64 (y : Int), .int .i64 (a : Int), .int .i64 (b : Int)] 31))
                    have HRS := Lib.hid (Bk.new 31 wr #[.int .i64 (x : Int), .int .i64 (y : Int), .int .i64 (a : Int), .int .i64 (b : Int)])
                    have HAS := Lib.hid (HS4.out.ext HXR.out)
                    go_upto_region 19 with (fail)
                    obtain ⟨rq, hrq⟩ : ∃ rq, rq = wr.heap.size := ⟨_, rfl⟩
                    obtain ⟨V, hV⟩ : ∃ V, V = wr.alloc (.cells #[.int .i64 (x : Int), .int .i64 (y : Int), .int .i64 (a : Int), .int .i64 (b : Int)] 31) := ⟨_, rfl⟩
                    rw [← hrq, ← hV]
                    rw [← hrq, ← hV] at HRS
                    rw [← hV] at HAS
                    clear hrq hV HXR HS4
                    obtain ⟨r1, r2, r3⟩ := HRS.out.facts
                    have H5 := Lib.hid (mx_five (us := us) (x := x) (y := y) ha1 hb1)
                    obtain ⟨xm, hxm⟩ : ∃ xm : Int, (x : Int) - 1 = xm := ⟨_, rfl⟩
                    obtain ⟨ym, hym⟩ : ∃ ym : Int, (y : Int) - 1 = ym := ⟨_, rfl⟩
                    obtain ⟨a1, ha1e⟩ : ∃ a1 : Int, (a : Int) + 1 = a1 := ⟨_, rfl⟩
                    obtain ⟨b1, hb1e⟩ : ∃ b1 : Int, (b : Int) + 1 = b1 := ⟨_, rfl⟩
                    rw [hxm, hym] at H5
                    have HF0 := Lib.hid (fun W (hW : MrS w2 B u9 ms W) => HFU.out v a b (x : Int) (y : Int) W (HOW.out W hW.2) (by omega) (by omega) (by omega) (by omega))
                    have HF1 := Lib.hid (fun W (hW : MrS w2 B u9 ms W) => HFU.out v (a + 1) b xm (y : Int) W (HOW.out W hW.2) (by omega) (by omega) (by omega) (by omega))
                    have HF2 := Lib.hid (fun W (hW : MrS w2 B u9 ms W) => HFU.out v a (b + 1) (x : Int) ym W (HOW.out W hW.2) (by omega) (by omega) (by omega) (by omega))
                    have HF3 := Lib.hid (fun W (hW : MrS w2 B u9 ms W) => HFU.out v (a + 1) b (x : Int) (y : Int) W (HOW.out W hW.2) (by omega) (by omega) (by omega) (by omega))
                    have HF4 := Lib.hid (fun W (hW : MrS w2 B u9 ms W) => HFU.out v a (b + 1) (x : Int) (y : Int) W (HOW.out W hW.2) (by omega) (by omega) (by omega) (by omega))
                    rw [fuR_nat] at HF0 HF3 HF4
                    rw [show ((a + 1 : Nat) : Int) = a1 from by rw [← ha1e]; push_cast; rfl] at HF1 HF3
                    rw [show ((b + 1 : Nat) : Int) = b1 from by rw [← hb1e]; push_cast; rfl] at HF2 HF4
                    cases hf0 : fuB us x y a b
                    · have HMN := Lib.hid (HM4.out.no (fun hm => by have := (H5.out.1 hm).1; rw [hf0] at this; cases this))
                      rw [hf0] at HF0
                      clear hf0 H5
                      go_wp2_with (first
                        | (go_at_call 56; refine (HF0.out _ HAS.out).mono ?_; rintro e0 z0 ⟨rfl, hx0⟩; have HA0 := Lib.hid (HAS.out.ext hx0); have HR0 := Lib.hid (HRS.out.ext hx0); clear hx0 r1 r2 r3; obtain ⟨r1, r2, r3⟩ := HR0.out.facts))
                      go_roundg (h + 1 - (b + 1))
                      case measure => have := HG4.out; omega
                      case rel => exact ⟨b + 1, ms, by go_num, by omega, by omega, by omega, HA0.out, HMN.out⟩
                    · rw [hf0] at HF0
                      cases hf1 : fuR us xm (y : Int) (a + 1) b
                      · rw [hf1] at HF1
                        cases hf2 : fuR us (x : Int) ym a (b + 1)
                        · rw [hf2] at HF2
                          cases hf3 : fuB us x y (a + 1) b
                          · rw [hf3] at HF3
                            cases hf4 : fuB us x y a (b + 1)
                            · rw [hf4] at HF4
                              have HMN := Lib.hid (HM4.out.yes (H5.out.2 ⟨hf0, hf1, hf2, hf3, hf4⟩))
                              clear hf0 hf1 hf2 hf3 hf4 H5
                              go_wp2_with (first
                                | (go_at_call_of 56 (Value.int .i64 xm); refine (HF1.out _ HA0.out).mono ?_; rintro e1 z1 ⟨rfl, hx1⟩; have HA1 := Lib.hid (HA0.out.ext hx1); have HR1 := Lib.hid (HR0.out.ext hx1); clear hx1 r1 r2 r3; obtain ⟨r1, r2, r3⟩ := HR1.out.facts)
                                | (go_at_call_of 56 (Value.int .i64 ym); refine (HF2.out _ HA1.out).mono ?_; rintro e2 z2 ⟨rfl, hx2⟩; have HA2 := Lib.hid (HA1.out.ext hx2); have HR2 := Lib.hid (HR1.out.ext hx2); clear hx2 r1 r2 r3; obtain ⟨r1, r2, r3⟩ := HR2.out.facts)
                                | (go_at_call_of 56 (Value.int .i64 a1); refine (HF3.out _ HA2.out).mono ?_; rintro e3 z3 ⟨rfl, hx3⟩; have HA3 := Lib.hid (HA2.out.ext hx3); have HR3 := Lib.hid (HR2.out.ext hx3); clear hx3 r1 r2 r3; obtain ⟨r1, r2, r3⟩ := HR3.out.facts)
                                | (go_at_call_of 56 (Value.int .i64 b1); refine (HF4.out _ HA3.out).mono ?_; rintro e4 z4 ⟨rfl, hx4⟩; have HA4 := Lib.hid (HA3.out.ext hx4); have HR4 := Lib.hid (HR3.out.ext hx4); clear hx4 r1 r2 r3; obtain ⟨r1, r2, r3⟩ := HR4.out.facts)
                                | (go_at_call 56; refine (HF0.out _ HAS.out).mono ?_; rintro e0 z0 ⟨rfl, hx0⟩; have HA0 := Lib.hid (HAS.out.ext hx0); have HR0 := Lib.hid (HRS.out.ext hx0); clear hx0 r1 r2 r3; obtain ⟨r1, r2, r3⟩ := HR0.out.facts)
                                | (at_builtin; refine wpList_pushRc _ rfl _ _ rfl B HA4.out.1 (by rfl) ⟨x, y, a, b⟩ (by rfl) rfl hml (Nat.le_trans hBw HA4.out.2.size) ?_; intro v5 w5 hv5 hb5; have HP := Lib.hid (show MrS w2 B v5 (ms ++ [⟨x, y, a, b⟩]) w5 from ⟨hv5, HA4.out.2.trans hb5⟩); clear hv5 hb5))
                              go_roundg (h + 1 - (b + 1))
                              case measure => have := HG4.out; omega
                              case rel => exact ⟨b + 1, ms ++ [⟨x, y, a, b⟩], by go_num, by omega, by omega, by omega, HP.out, HMN.out⟩
                            · have HMN := Lib.hid (HM4.out.no (fun hm => by have := (H5.out.1 hm).2.2.2.2; rw [hf4] at this; cases this))
                              rw [hf4] at HF4
                              clear hf0 hf1 hf2 hf3 hf4 H5
                              go_wp2_with (first
                                | (go_at_call_of 56 (Value.int .i64 xm); refine (HF1.out _ HA0.out).mono ?_; rintro e1 z1 ⟨rfl, hx1⟩; have HA1 := Lib.hid (HA0.out.ext hx1); have HR1 := Lib.hid (HR0.out.ext hx1); clear hx1 r1 r2 r3; obtain ⟨r1, r2, r3⟩ := HR1.out.facts)
                                | (go_at_call_of 56 (Value.int .i64 ym); refine (HF2.out _ HA1.out).mono ?_; rintro e2 z2 ⟨rfl, hx2⟩; have HA2 := Lib.hid (HA1.out.ext hx2); have HR2 := Lib.hid (HR1.out.ext hx2); clear hx2 r1 r2 r3; obtain ⟨r1, r2, r3⟩ := HR2.out.facts)
                                | (go_at_call_of 56 (Value.int .i64 a1); refine (HF3.out _ HA2.out).mono ?_; rintro e3 z3 ⟨rfl, hx3⟩; have HA3 := Lib.hid (HA2.out.ext hx3); have HR3 := Lib.hid (HR2.out.ext hx3); clear hx3 r1 r2 r3; obtain ⟨r1, r2, r3⟩ := HR3.out.facts)
                                | (go_at_call_of 56 (Value.int .i64 b1); refine (HF4.out _ HA3.out).mono ?_; rintro e4 z4 ⟨rfl, hx4⟩; have HA4 := Lib.hid (HA3.out.ext hx4); have HR4 := Lib.hid (HR3.out.ext hx4); clear hx4 r1 r2 r3; obtain ⟨r1, r2, r3⟩ := HR4.out.facts)
                                | (go_at_call 56; refine (HF0.out _ HAS.out).mono ?_; rintro e0 z0 ⟨rfl, hx0⟩; have HA0 := Lib.hid (HAS.out.ext hx0); have HR0 := Lib.hid (HRS.out.ext hx0); clear hx0 r1 r2 r3; obtain ⟨r1, r2, r3⟩ := HR0.out.facts))
                              go_roundg (h + 1 - (b + 1))
                              case measure => have := HG4.out; omega
                              case rel => exact ⟨b + 1, ms, by go_num, by omega, by omega, by omega, HA4.out, HMN.out⟩
                          · have HMN := Lib.hid (HM4.out.no (fun hm => by have := (H5.out.1 hm).2.2.2.1; rw [hf3] at this; cases this))
                            rw [hf3] at HF3
                            clear hf0 hf1 hf2 hf3 H5
                            go_wp2_with (first
                              | (go_at_call_of 56 (Value.int .i64 xm); refine (HF1.out _ HA0.out).mono ?_; rintro e1 z1 ⟨rfl, hx1⟩; have HA1 := Lib.hid (HA0.out.ext hx1); have HR1 := Lib.hid (HR0.out.ext hx1); clear hx1 r1 r2 r3; obtain ⟨r1, r2, r3⟩ := HR1.out.facts)
                              | (go_at_call_of 56 (Value.int .i64 ym); refine (HF2.out _ HA1.out).mono ?_; rintro e2 z2 ⟨rfl, hx2⟩; have HA2 := Lib.hid (HA1.out.ext hx2); have HR2 := Lib.hid (HR1.out.ext hx2); clear hx2 r1 r2 r3; obtain ⟨r1, r2, r3⟩ := HR2.out.facts)
                              | (go_at_call_of 56 (Value.int .i64 a1); refine (HF3.out _ HA2.out).mono ?_; rintro e3 z3 ⟨rfl, hx3⟩; have HA3 := Lib.hid (HA2.out.ext hx3); have HR3 := Lib.hid (HR2.out.ext hx3); clear hx3 r1 r2 r3; obtain ⟨r1, r2, r3⟩ := HR3.out.facts)
                              | (go_at_call 56; refine (HF0.out _ HAS.out).mono ?_; rintro e0 z0 ⟨rfl, hx0⟩; have HA0 := Lib.hid (HAS.out.ext hx0); have HR0 := Lib.hid (HRS.out.ext hx0); clear hx0 r1 r2 r3; obtain ⟨r1, r2, r3⟩ := HR0.out.facts))
                            go_roundg (h + 1 - (b + 1))
                            case measure => have := HG4.out; omega
                            case rel => exact ⟨b + 1, ms, by go_num, by omega, by omega, by omega, HA3.out, HMN.out⟩
                        · have HMN := Lib.hid (HM4.out.no (fun hm => by have := (H5.out.1 hm).2.2.1; rw [hf2] at this; cases this))
                          rw [hf2] at HF2
                          clear hf0 hf1 hf2 H5
                          go_wp2_with (first
                            | (go_at_call_of 56 (Value.int .i64 xm); refine (HF1.out _ HA0.out).mono ?_; rintro e1 z1 ⟨rfl, hx1⟩; have HA1 := Lib.hid (HA0.out.ext hx1); have HR1 := Lib.hid (HR0.out.ext hx1); clear hx1 r1 r2 r3; obtain ⟨r1, r2, r3⟩ := HR1.out.facts)
                            | (go_at_call_of 56 (Value.int .i64 ym); refine (HF2.out _ HA1.out).mono ?_; rintro e2 z2 ⟨rfl, hx2⟩; have HA2 := Lib.hid (HA1.out.ext hx2); have HR2 := Lib.hid (HR1.out.ext hx2); clear hx2 r1 r2 r3; obtain ⟨r1, r2, r3⟩ := HR2.out.facts)
                            | (go_at_call 56; refine (HF0.out _ HAS.out).mono ?_; rintro e0 z0 ⟨rfl, hx0⟩; have HA0 := Lib.hid (HAS.out.ext hx0); have HR0 := Lib.hid (HRS.out.ext hx0); clear hx0 r1 r2 r3; obtain ⟨r1, r2, r3⟩ := HR0.out.facts))
                          go_roundg (h + 1 - (b + 1))
                          case measure => have := HG4.out; omega
                          case rel => exact ⟨b + 1, ms, by go_num, by omega, by omega, by omega, HA2.out, HMN.out⟩
                      · have HMN := Lib.hid (HM4.out.no (fun hm => by have := (H5.out.1 hm).2.1; rw [hf1] at this; cases this))
                        rw [hf1] at HF1
                        clear hf0 hf1 H5
                        go_wp2_with (first
                          | (go_at_call_of 56 (Value.int .i64 xm); refine (HF1.out _ HA0.out).mono ?_; rintro e1 z1 ⟨rfl, hx1⟩; have HA1 := Lib.hid (HA0.out.ext hx1); have HR1 := Lib.hid (HR0.out.ext hx1); clear hx1 r1 r2 r3; obtain ⟨r1, r2, r3⟩ := HR1.out.facts)
                          | (go_at_call 56; refine (HF0.out _ HAS.out).mono ?_; rintro e0 z0 ⟨rfl, hx0⟩; have HA0 := Lib.hid (HAS.out.ext hx0); have HR0 := Lib.hid (HRS.out.ext hx0); clear hx0 r1 r2 r3; obtain ⟨r1, r2, r3⟩ := HR0.out.facts))
                        go_roundg (h + 1 - (b + 1))
                        case measure => have := HG4.out; omega
                        case rel => exact ⟨b + 1, ms, by go_num, by omega, by omega, by omega, HA1.out, HMN.out⟩
                  · have hybI : ¬ (y : Int) + (b : Int) ≤ (h : Int) := by omega
                    have HMN := Lib.hid (HM4.out.nextA HINN.out (show h < y + b by omega))
                    clear HM4
                    go_wp2
                    go_roundg (n + 1 - (a + 1))
                    case measure => have := HG3.out; omega
                    case rel => exact ⟨a + 1, ms, by go_num, by omega, by omega, by omega, HS4.out, HMN.out⟩
              · have hxaI : ¬ (x : Int) + (a : Int) ≤ (n : Int) := by omega
                have HMN := Lib.hid (HM3.out.nextX HINN.out (show n < x + a by omega))
                clear HM3
                go_wp2
                go_roundg (n - (x + 1))
                case measure => have := HG2.out; have := HXN.out; omega
                case rel => exact ⟨x + 1, ms, by go_num, by have := HXN.out; omega, rfl, HS3.out, HMN.out⟩
          · have HMN := Lib.hid (HM2.out.nextY HINN.out (show n ≤ x by omega))
            obtain rfl : x = n := by omega
            clear HM2
            go_wp2
            go_roundg (h - (y + 1))
            case measure => have := HG1.out; have := HYH.out; omega
            case rel => exact ⟨y + 1, ms, by go_num, by have := HYH.out; omega, rfl, HS2.out, HMN.out⟩
      · have HMA := Lib.hid (HM1.out.all HINN.out (show h ≤ y by omega))
        have hlen := mxs_len HINN.out hw48 hl48 HM1.out
        obtain ⟨A2, cap2, rfl, k1, k2, k3⟩ := HS1.out.1.rsl
        have K3 := Lib.hid k3
        have k2' : cap2 ≤ 9223372036854775807 := by unfold maxLen at k2; omega
        obtain rfl : y = h := by omega
        clear k2 k3 HM1
        go_wp2
        refine bodyPost_ret (v := .tuple #[.slice A2 ms.length cap2, .int .i64 0]) (by simp [results, Tryd.results16, go_sem]) rfl ?_
        refine ⟨HB12.out.trans (HS1.out.2.mono hBB), .inr ⟨HPS.out, A2, cap2, ms, rfl, k1, k2', hlen, K3.out, HMA.out.1, by rw [← HU.out]; exact HMA.out.2⟩⟩
  · rw [decide_eq_false hps] at HGD
    have HPS := Lib.hid hps
    clear hps h hz
    go_enter Tryd.func16, Tryd.ntmps16
    go_wp2_with (go_at_call 21; refine (HGD.out).mono ?_; rintro e w1 ⟨rfl, hx1⟩)
    refine bodyPost_ret (v := .tuple #[.slice none 0 0, .int .i64 2]) (by simp [results, Tryd.results16, go_sem]) rfl ?_
    exact ⟨hx1, .inl ⟨HPS.out, rfl⟩⟩
end Go.Proofs.YtmgofdgbenfjmaaDoor
