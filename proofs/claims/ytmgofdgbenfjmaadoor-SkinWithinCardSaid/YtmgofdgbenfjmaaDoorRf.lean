/- The reference's full walked. Conditions: the sums of a skin, a grade. -/
import Derived.Test.YtmgofdgbenfjmaaDoorSm
namespace Go.Proofs.YtmgofdgbenfjmaaDoor
open Go.RowKit

/-- usable, where the rectangle may begin left of the grid or above -/
def fuR (us : Int × Int → Bool) (x y : Int) (a b : Nat) : Bool := decide (0 ≤ x) && fuZ us x.toNat y a b
theorem fuR_nat (us : Int × Int → Bool) (x y a b : Nat) : fuR us (x : Int) (y : Int) a b = fuB us x y a b := by
  unfold fuR; rw [decide_eq_true (by omega), Int.toNat_natCast, fuZ_nat]; rfl
theorem fuR_x {us : Int × Int → Bool} {x y : Int} {a b : Nat} (h : x < 0) : fuR us x y a b = false := by unfold fuR; rw [decide_eq_false (by omega)]; rfl
theorem fuR_y {us : Int × Int → Bool} {x y : Int} {a b : Nat} (h : y < 0) : fuR us x y a b = false := by unfold fuR; rw [fuZ_neg h, Bool.and_false]
set_option maxRecDepth 100000 in
set_option maxHeartbeats 4000000 in
theorem rfull_any (l : List ByteArray) (g : Int) (v a b : Nat) (x y : Int) (w : World) (ho : Ow 3 v ((wid l + 1) * (l.length + 1)) (sumF l g (wid l + 1)) w) (hg : 1 ≤ g) (hn48 : wid l ≤ 48) (hh48 : l.length ≤ 48) (hx : -10 ≤ x ∧ x ≤ 100) (hy : -10 ≤ y ∧ y ≤ 100) (ha : 1 ≤ a ∧ a ≤ 100) (hb : 1 ≤ b ∧ b ≤ 100) :
    Calls Tryd.prog 56 #[.slice (some ⟨v, 0, none⟩) ((wid l + 1) * (l.length + 1)) ((wid l + 1) * (l.length + 1)), .int .i64 (wid l : Int), .int .i64 (l.length : Int), .agg #[.int .i64 x, .int .i64 y, .int .i64 (a : Int), .int .i64 (b : Int)]] w fun e w' => e = .returned (.bool (fuR (usb l g) x y a b)) ∧ Below w.heap.size w w' := by
  have HFI := Lib.hid (fun (xn yn : Nat) (hf : fuB (usb l g) xn yn a b = true) => fuB_in hg ha.1 hb.1 hf)
  have HCT := Lib.hid (fun x y => cnt_tab l g x y a b)
  have HCF := Lib.hid (fun x y => (cnt_fuB (l := l) (g := g) (x := x) (y := y) (a := a) (b := b)))
  have HBD := Lib.hid (fun x (hx : x ≤ 48) y => tab_bd l g hx y)
  obtain ⟨n, hn⟩ : ∃ n, n = wid l := ⟨_, rfl⟩
  rw [← hn] at HFI ho hn48 ⊢
  obtain ⟨h, hh⟩ : ∃ h, h = l.length := ⟨_, rfl⟩
  rw [← hh] at HFI ho hh48 ⊢
  obtain ⟨n1, hn1⟩ : ∃ n1, n1 = n + 1 := ⟨_, rfl⟩
  obtain ⟨h1, hh1⟩ : ∃ h1, h1 = h + 1 := ⟨_, rfl⟩
  rw [← hn1, ← hh1] at ho ⊢
  obtain ⟨N, hN⟩ : ∃ N, N = n1 * h1 := ⟨_, rfl⟩
  rw [← hN] at ho ⊢
  have HNN := Lib.hid hN
  have HN1 := Lib.hid hn1
  have HH1 := Lib.hid hh1
  have hn1i : (n : Int) + 1 = (n1 : Int) := by omega
  have hn1b : n1 ≤ 49 := by omega
  have hNb : N ≤ 49 * 49 := by rw [hN]; exact Nat.mul_le_mul hn1b (by omega)
  have HO := Lib.hid ho
  have HFA := Lib.hid (fun (x y : Nat) (hx : x < n1) => sumF_at (l := l) (g := g) (y := y) hx)
  have hx0 := ext_alloc w (.cells #[.int .i64 x, .int .i64 y, .int .i64 (a : Int), .int .i64 (b : Int)] 31)
  have HX0 := Lib.hid hx0
  have HR := Lib.hid (Bk.new 31 w #[.int .i64 x, .int .i64 y, .int .i64 (a : Int), .int .i64 (b : Int)])
  have HOV := Lib.hid (ho.ext hx0)
  obtain ⟨rb, hrb⟩ : ∃ rb, rb = w.heap.size := ⟨_, rfl⟩
  obtain ⟨V, hV⟩ : ∃ V, V = w.alloc (.cells #[.int .i64 x, .int .i64 y, .int .i64 (a : Int), .int .i64 (b : Int)] 31) := ⟨_, rfl⟩
  rw [← hV] at HX0 HOV
  rw [← hrb, ← hV] at HR
  obtain ⟨ha1, ha2⟩ := ha
  obtain ⟨hb1, hb2⟩ := hb
  obtain ⟨f1, f2, f3⟩ := HR.out.facts
  clear hn hh hn1 hh1 hN ho hx0
  by_cases hxn : x < 0
  · rw [fuR_x hxn]
    go_enter Tryd.func56, Tryd.ntmps56
    go_upto_region 1 with (fail)
    rw [← hV, ← hrb]
    clear hV hrb
    go_wp2
    go_ret
    exact ⟨rfl, HX0.out⟩
  · by_cases hyn : y < 0
    · rw [fuR_y hyn]
      have hx0 : ¬ x < 0 := hxn
      go_enter Tryd.func56, Tryd.ntmps56
      go_upto_region 1 with (fail)
      rw [← hV, ← hrb]
      clear hV hrb
      go_wp2
      go_ret
      exact ⟨rfl, HX0.out⟩
    · obtain ⟨xn, rfl⟩ := Int.eq_ofNat_of_zero_le (show 0 ≤ x by omega)
      obtain ⟨yn, rfl⟩ := Int.eq_ofNat_of_zero_le (show 0 ≤ y by omega)
      rw [fuR_nat]
      have hx1 : ¬ (xn : Int) < 0 := by omega
      have hy1 : ¬ (yn : Int) < 0 := by omega
      have hxb : xn ≤ 100 := by omega
      have hyb : yn ≤ 100 := by omega
      by_cases hxa : n < xn + a
      · have hf : fuB (usb l g) xn yn a b = false := by
          cases hc : fuB (usb l g) xn yn a b
          · rfl
          · have := HFI.out xn yn hc; omega
        rw [hf]
        have hxa2 : (n : Int) < (xn : Int) + (a : Int) := by omega
        clear hf hxa hx hy hxn hyn
        go_enter Tryd.func56, Tryd.ntmps56
        go_upto_region 1 with (fail)
        rw [← hV, ← hrb]
        clear hV hrb
        go_wp2
        go_ret
        exact ⟨rfl, HX0.out⟩
      · have hxa2 : ¬ (n : Int) < (xn : Int) + (a : Int) := by omega
        by_cases hya : h < yn + b
        · have hf : fuB (usb l g) xn yn a b = false := by
            cases hc : fuB (usb l g) xn yn a b
            · rfl
            · have := HFI.out xn yn hc; omega
          rw [hf]
          have hya2 : (h : Int) < (yn : Int) + (b : Int) := by omega
          clear hf hya hx hy hxn hyn hxa
          go_enter Tryd.func56, Tryd.ntmps56
          go_upto_region 1 with (fail)
          rw [← hV, ← hrb]
          clear hV hrb
          go_wp2
          go_ret
          exact ⟨rfl, HX0.out⟩
        · have hya2 : ¬ (h : Int) < (yn : Int) + (b : Int) := by omega
          obtain ⟨y2, hy2⟩ : ∃ y2, y2 = yn + b := ⟨_, rfl⟩
          obtain ⟨ya, hyae⟩ : ∃ ya, ya = yn * n1 := ⟨_, rfl⟩
          obtain ⟨yc, hyce⟩ : ∃ yc, yc = y2 * n1 := ⟨_, rfl⟩
          have hy2i : (yn : Int) + (b : Int) = (y2 : Int) := by omega
          have hyai : (yn : Int) * (n1 : Int) = (ya : Int) := by rw [hyae]; push_cast; rfl
          have hyci : (y2 : Int) * (n1 : Int) = (yc : Int) := by rw [hyce]; push_cast; rfl
          have hle : ya ≤ yc := by rw [hyae, hyce]; exact Nat.mul_le_mul_right n1 (by omega)
          have hyN : yc + n1 ≤ N := by
            rw [hyce, HNN.out, ← Nat.succ_mul, Nat.mul_comm]
            exact Nat.mul_le_mul_left n1 (by have := HH1.out; omega)
          have hn1x : xn + a < n1 := by have := HN1.out; omega
          obtain ⟨i2, hi2⟩ : ∃ i2, i2 = yc + xn := ⟨_, rfl⟩
          obtain ⟨i1, hi1⟩ : ∃ i1, i1 = i2 + a := ⟨_, rfl⟩
          obtain ⟨i4, hi4⟩ : ∃ i4, i4 = ya + xn := ⟨_, rfl⟩
          obtain ⟨i3, hi3⟩ : ∃ i3, i3 = i4 + a := ⟨_, rfl⟩
          have hi2i : (yc : Int) + (xn : Int) = (i2 : Int) := by omega
          have hi1i : (i2 : Int) + (a : Int) = (i1 : Int) := by omega
          have hi4i : (ya : Int) + (xn : Int) = (i4 : Int) := by omega
          have hi3i : (i4 : Int) + (a : Int) = (i3 : Int) := by omega
          have b1 : (i1 : Int) < (N : Int) := by omega
          have b2 : (i2 : Int) < (N : Int) := by omega
          have b3 : (i3 : Int) < (N : Int) := by omega
          have b4 : (i4 : Int) < (N : Int) := by omega
          have e1 : sumF l g n1 i1 = tab l g (xn + a) y2 := by rw [show i1 = y2 * n1 + (xn + a) by omega]; exact HFA.out (xn + a) y2 hn1x
          have e2 : sumF l g n1 i2 = tab l g xn y2 := by rw [show i2 = y2 * n1 + xn by omega]; exact HFA.out xn y2 (by omega)
          have e3 : sumF l g n1 i3 = tab l g (xn + a) yn := by rw [show i3 = yn * n1 + (xn + a) by omega]; exact HFA.out (xn + a) yn hn1x
          have e4 : sumF l g n1 i4 = tab l g xn yn := by rw [show i4 = yn * n1 + xn by omega]; exact HFA.out xn yn (by omega)
          have d1 := HBD.out (xn + a) (by omega) y2
          have d2 := HBD.out xn (by omega) y2
          have d3 := HBD.out (xn + a) (by omega) yn
          have d4 := HBD.out xn (by omega) yn
          have c1 := HOV.out.cell (i := i1) (by omega)
          have c2 := HOV.out.cell (i := i2) (by omega)
          have c3 := HOV.out.cell (i := i3) (by omega)
          have c4 := HOV.out.cell (i := i4) (by omega)
          have hvV := HOV.out.lt
          rw [e1] at c1
          rw [e2] at c2
          rw [e3] at c3
          rw [e4] at c4
          have HC := Lib.hid (HCT.out xn yn)
          have HCX := Lib.hid (HCF.out xn yn)
          rw [← hy2] at HC
          obtain ⟨v1, hv1⟩ : ∃ v1, v1 = tab l g (xn + a) y2 := ⟨_, rfl⟩
          obtain ⟨v2, hv2⟩ : ∃ v2, v2 = tab l g xn y2 := ⟨_, rfl⟩
          obtain ⟨v3, hv3⟩ : ∃ v3, v3 = tab l g (xn + a) yn := ⟨_, rfl⟩
          obtain ⟨v4, hv4⟩ : ∃ v4, v4 = tab l g xn yn := ⟨_, rfl⟩
          rw [← hv1] at c1 d1 HC
          rw [← hv2] at c2 d2 HC
          rw [← hv3] at c3 d3 HC
          rw [← hv4] at c4 d4 HC
          obtain ⟨ab, hab⟩ : ∃ ab : Nat, ab = a * b := ⟨_, rfl⟩
          have habi : (a : Int) * (b : Int) = (ab : Int) := by rw [hab]; push_cast; rfl
          have habb : ab ≤ 100 * 100 := by rw [hab]; exact Nat.mul_le_mul ha2 hb2
          have hwr : IntKind.i64.wrap (ab : Int) = (ab : Int) := by simp [IntKind.wrap, IntKind.bits, IntKind.signed]; omega
          rw [habi, HC.out] at HCX
          have d1' : 0 ≤ v1 ∧ v1 ≤ 48 * 200 := by omega
          have d2' : 0 ≤ v2 ∧ v2 ≤ 48 * 200 := by omega
          have d3' : 0 ≤ v3 ∧ v3 ≤ 48 * 200 := by omega
          have d4' : 0 ≤ v4 ∧ v4 ≤ 48 * 200 := by omega
          obtain ⟨fv, hfv⟩ : ∃ fv, fv = fuB (usb l g) xn yn a b := ⟨_, rfl⟩
          have HEE := Lib.hid (show (v1 - v2 - v3 + v4 == (ab : Int)) = fv from by
            rw [hfv]
            cases hc : fuB (usb l g) xn yn a b
            · rw [beq_eq_false_iff_ne]; exact fun he => by have := HCX.out.1 he; rw [hc] at this; cases this
            · rw [beq_iff_eq]; exact HCX.out.2 hc)
          rw [← hfv]
          clear hfv e1 e2 e3 e4 hv1 hv2 hv3 hv4 d1 d2 d3 d4 hi1 hi2 hi3 hi4 hyae hyce hab hle hyN hn1x hxa hya hy2 hx hy hxn hyn
          go_enter Tryd.func56, Tryd.ntmps56
          go_upto_region 1 with (fail)
          rw [← hV, ← hrb]
          clear hV hrb
          go_upto_region 3 with (fail)
          go_quiet (fail)
          have HOQ := Lib.hid (HOV.out.ext (ext_drewN V nq))
          have HXQ := Lib.hid (bdrewN HX0.out nq)
          go_wp2_with (fail)
          go_quiet (fail)
          go_wp2
          go_ret
          exact ⟨by first | rfl | (rw [← HEE.out]; first | rfl | (rw [hwr]; rfl) | (simp only [hwr]; rfl)), bdrewN HXQ.out _⟩
end Go.Proofs.YtmgofdgbenfjmaaDoor
