/- Texts joined: Bn, Re, Re2. Conditions: see each. -/
import Derived.Test.YtmgofdgbenfjmaaDoorWaP
import Derived.Test.YtmgofdgbenfjmaaDoorRg
import Derived.Test.YtmgofdgbenfjmaaDoorPl
import Derived.Deep.CutBlock
import Derived.Test.YtmgofdgbenfjmaaDoorWa1
namespace Go.Proofs.YtmgofdgbenfjmaaDoor
open Go.RowKit

/-- the four cells around a corner -/
def bnC (x y : Int) : Nat → Cel
  | 0 => (x - 1, y - 1)
  | 1 => (x, y - 1)
  | 2 => (x - 1, y)
  | _ => (x, y)
def bnN (u : Int → Int → Bool) (x y : Int) : Nat → Nat
  | 0 => 0
  | k + 1 => bnN u x y k + if u (bnC x y k).1 (bnC x y k).2 then 1 else 0
theorem bnN_q3 (u : Int → Int → Bool) (x y : Int) : q3 u x y = decide (bnN u x y 4 = 3) := by
  unfold q3
  simp only [bnN, bnC]
  generalize u (x - 1) (y - 1) = a
  generalize u x (y - 1) = b
  generalize u (x - 1) y = c
  generalize u x y = d
  revert a b c d; decide
theorem bnN_le (u : Int → Int → Bool) (x y : Int) : ∀ k, bnN u x y k ≤ k
  | 0 => Nat.le_refl _
  | k + 1 => by
    have := bnN_le u x y k
    unfold bnN; split <;> omega
theorem bn_cells {w : World} {q : Nat} {x y : Int} (h : Bk 80 w q #[.int .i64 (x - 1), .int .i64 (y - 1), .int .i64 x, .int .i64 (y - 1), .int .i64 (x - 1), .int .i64 y, .int .i64 x, .int .i64 y]) {d : Nat} (hd : d < 4) : w.cell? ⟨q, d * 2, none⟩ = some (.int .i64 (bnC x y d).1) ∧ w.cell? ⟨q, d * 2 + 1, none⟩ = some (.int .i64 (bnC x y d).2) := by
  rcases (by omega : d = 0 ∨ d = 1 ∨ d = 2 ∨ d = 3) with rfl | rfl | rfl | rfl <;> exact ⟨h.cell _, h.cell _⟩
set_option maxRecDepth 100000 in
set_option maxHeartbeats 4000000 in
theorem bend_any (A : Option Addr) (cap : Nat) (l : List ByteArray) (g x y : Int) (w : World) (hok : SkOk l) (h : TSl w A l) (hx : -100 ≤ x ∧ x ≤ 200) (hy : -100 ≤ y ∧ y ≤ 200) :
    Calls Tryd.prog 67 #[.slice A l.length cap, .int .i64 g, .int .i64 x, .int .i64 y] w fun e w' => e = .returned (.bool (q3 (us l g) x y)) ∧ Below w.heap.size w w' := by
  have HGR := Lib.hid (fun x y W (hW : Below w.heap.size w W) => rgrade_any A cap l x y W hok (h.ext hW))
  have HUS := Lib.hid (show ∀ x y, us l g x y = decide (g ≤ gr l x y) from fun x y => rfl)
  have HQ := Lib.hid (bnN_q3 (us l g) x y)
  have HB0 := Lib.hid (Bk.new 80 w #[.int .i64 (x - 1), .int .i64 (y - 1), .int .i64 x, .int .i64 (y - 1), .int .i64 (x - 1), .int .i64 y, .int .i64 x, .int .i64 y])
  have HX0 := Lib.hid (ext_alloc w (.cells #[.int .i64 (x - 1), .int .i64 (y - 1), .int .i64 x, .int .i64 (y - 1), .int .i64 (x - 1), .int .i64 y, .int .i64 x, .int .i64 y] 80))
  have HLE := Lib.hid (bnN_le (us l g) x y)
  generalize us l g = u at HUS HQ HLE ⊢
  obtain ⟨hx1, hx2⟩ := hx
  obtain ⟨hy1, hy2⟩ := hy
  clear hok h
  go_enter Tryd.func67, Tryd.ntmps67
  go_upto_block 0 with (fail)
  obtain ⟨X, hX⟩ : ∃ X, X = w.alloc (.cells #[.int .i64 (x - 1), .int .i64 (y - 1), .int .i64 x, .int .i64 (y - 1), .int .i64 (x - 1), .int .i64 y, .int .i64 x, .int .i64 y] 80) := ⟨_, rfl⟩
  obtain ⟨q, hq⟩ : ∃ q, q = w.heap.size := ⟨_, rfl⟩
  rw [← hX] at HB0 HX0 ⊢
  rw [← hq] at HB0 ⊢
  clear hX hq
  go_wp2_with (fail)
  go_loopg [30, 9] 4 (fun gg v n wr => ∃ d : Nat, v = .int .i64 d ∧ d ≤ 4 ∧ gg = 4 - d ∧ n = .int .i64 (bnN u x y d) ∧ Bk 80 wr q #[.int .i64 (x - 1), .int .i64 (y - 1), .int .i64 x, .int .i64 (y - 1), .int .i64 (x - 1), .int .i64 y, .int .i64 x, .int .i64 y] ∧ Below w.heap.size w wr)
  case atStart => exact ⟨0, rfl, by omega, by omega, rfl, HB0.out, HX0.out⟩
  case round =>
    obtain ⟨d, rfl, hd, hgg, rfl, hb, hw⟩ := hrel
    have HG := Lib.hid hgg
    have HB := Lib.hid hb
    have HW := Lib.hid hw
    have HBN := Lib.hid (show bnN u x y (d + 1) = bnN u x y d + if u (bnC x y d).1 (bnC x y d).2 then 1 else 0 from rfl)
    have hle := HLE.out d
    clear hgg hb hw HB0 HX0
    by_cases hlt : d < 4
    · obtain ⟨c1, c2⟩ := bn_cells HB.out hlt
      obtain ⟨p, hp⟩ : ∃ p, p = (bnC x y d).1 := ⟨_, rfl⟩
      obtain ⟨r, hr⟩ : ∃ r, r = (bnC x y d).2 := ⟨_, rfl⟩
      rw [← hp, ← hr] at HBN
      rw [← hp] at c1
      rw [← hr] at c2
      have hqb : q < wr.heap.size := lt_of_block HB.out
      have HA := Lib.hid (ext_alloc wr (.cells #[.int .i64 p, .int .i64 r] 80))
      have HD := Lib.hid (Bk.new 80 wr #[.int .i64 p, .int .i64 r])
      clear hp hr
      go_upto_region 5 with (fail)
      obtain ⟨Y, hY⟩ : ∃ Y, Y = wr.alloc (.cells #[.int .i64 p, .int .i64 r] 80) := ⟨_, rfl⟩
      obtain ⟨e, he⟩ : ∃ e, e = wr.heap.size := ⟨_, rfl⟩
      rw [← hY] at HA HD ⊢
      rw [← he] at HD ⊢
      have HB2 := Lib.hid (HB.out.ext HA.out)
      have HW2 := Lib.hid (bext HW.out HA.out HW.out.size)
      clear hY he c1 c2 hqb HB HW
      obtain ⟨d1, d2, d3⟩ := HD.out.facts
      have e1 := d1 0
      have e2 := d1 1
      simp only [List.getElem?_toArray, List.getElem?_cons_zero, List.getElem?_cons_succ] at e1 e2
      clear d1
      have HG1 := Lib.hid (HGR.out p r Y HW2.out)
      have HU1 := Lib.hid (HUS.out p r)
      obtain ⟨z, hz⟩ : ∃ z, z = gr l p r := ⟨_, rfl⟩
      rw [← hz] at HG1 HU1
      clear hz
      by_cases hgz : g ≤ z
      · have HN := Lib.hid (show bnN u x y (d + 1) = bnN u x y d + 1 from by rw [HBN.out, HU1.out, decide_eq_true hgz]; rfl)
        go_wp2_with (go_at_call 34; refine (HG1.out).mono ?_; rintro e w5 ⟨rfl, rfl⟩)
        go_roundg (4 - (d + 1))
        case measure => have := HG.out; omega
        case rel => exact ⟨d + 1, by go_num, by omega, rfl, by rw [HN.out]; go_num, HB2.out, HW2.out⟩
      · have HN := Lib.hid (show bnN u x y (d + 1) = bnN u x y d from by rw [HBN.out, HU1.out, decide_eq_false hgz]; rfl)
        go_wp2_with (go_at_call 34; refine (HG1.out).mono ?_; rintro e w5 ⟨rfl, rfl⟩)
        go_roundg (4 - (d + 1))
        case measure => have := HG.out; omega
        case rel => exact ⟨d + 1, by go_num, by omega, rfl, by rw [HN.out], HB2.out, HW2.out⟩
    · obtain rfl : d = 4 := by omega
      obtain ⟨b, hb⟩ : ∃ b, b = bnN u x y 4 := ⟨_, rfl⟩
      rw [← hb] at hle HQ ⊢
      clear hb HBN
      by_cases h3 : b = 3
      · subst h3
        go_wp2
        go_ret
        exact ⟨by rw [HQ.out]; rfl, HW.out⟩
      · have h3i : ¬ (b : Int) = 3 := by omega
        go_wp2
        go_ret
        exact ⟨by rw [HQ.out, decide_eq_false h3]; show Ending.returned (Value.bool ((b : Int) == 3)) = _; rw [show ((b : Int) == 3) = false from by simp; omega], HW.out⟩

/-- a chord begins here, to the right -/
def rcF (u : Int → Int → Bool) (x y : Int) : Prop := x < wayT u x y ∧ q3 u (wayT u x y) y = true
theorem rc_no {u : Int → Int → Bool} {x y : Int} {n : Nat} (hn : 1 ≤ n) (hw : Way u (x, y) (wayT u x y)) (h1 : ∀ i, x ≤ i → i < x + n - 1 → fl u i y = true) (h2 : ∀ i, x < i → i < x + n → q3 u i y = false) (h3 : fl u (x + n - 1) y = false) : ¬ rcF u x y := by
  rintro ⟨k1, k2⟩
  generalize wayT u x y = T at hw k1 k2
  rcases hw with ⟨a1, a2, a3, a4⟩ | ⟨a1, a2, _⟩
  · dsimp only at a1 a2 a3 a4
    have e1 : ¬ T < x + n - 1 := fun h => by rw [h1 T (by omega) h] at a4; cases a4
    have e2 : ¬ x + n - 1 < T := fun h => by rw [a3 _ (by omega) h] at h3; cases h3
    rw [h2 T k1 (by omega)] at k2; cases k2
  · dsimp only at a2; omega
theorem rc_yes {u : Int → Int → Bool} {x y : Int} {n : Nat} (hn : 1 ≤ n) (hw : Way u (x, y) (wayT u x y)) (h1 : ∀ i, x ≤ i → i < x + n → fl u i y = true) (h2 : q3 u (x + n) y = true) : wayT u x y = x + n ∧ rcF u x y := by
  have h3 := q3_fl h2
  rw [h1 _ (by omega) (by omega)] at h3
  have h3 : fl u (x + n) y = false := by cases h : fl u (x + n) y <;> rw [h] at h3 <;> simp at h3 ⊢
  unfold rcF
  generalize wayT u x y = T at hw ⊢
  have e : T = x + n := by
    rcases hw with ⟨a1, a2, a3, a4⟩ | ⟨a1, a2, _⟩
    · dsimp only at a1 a2 a3 a4
      have e1 : ¬ T < x + n := fun h => by rw [h1 T (by omega) h] at a4; cases a4
      have e2 : ¬ x + n < T := fun h => by rw [a3 _ (by omega) h] at h3; cases h3
      omega
    · dsimp only at a1
      rw [h1 x (by omega) (by omega)] at a1; cases a1
  exact ⟨e, by omega, by rw [e]; exact h2⟩
set_option maxRecDepth 100000 in
set_option maxHeartbeats 8000000 in
theorem reachF_any (A : Option Addr) (cap : Nat) (l : List ByteArray) (g x y : Int) (w : World) (hok : SkOk l) (hg : 1 ≤ g) (h : TSl w A l) (hx : 0 ≤ x ∧ x ≤ 48) (hy : 0 ≤ y ∧ y ≤ 48) (hq : q3 (us l g) x y = true) :
    Calls Tryd.prog 68 #[.slice A l.length cap, .int .i64 g, .int .i64 x, .int .i64 y, .bool false] w fun e w' => Below w.heap.size w w' ∧
      ((¬ rcF (us l g) x y ∧ e = .returned (.tuple #[.agg #[.int .i64 0, .int .i64 0, .int .i64 0, .bool false], .bool false])) ∨
       (rcF (us l g) x y ∧ e = .returned (.tuple #[.agg #[.int .i64 x, .int .i64 y, .int .i64 (wayT (us l g) x y - x), .bool false], .bool true]))) := by
  have HGR := Lib.hid (fun x y W (hW : Below w.heap.size w W) => rgrade_any A cap l x y W hok (h.ext hW))
  have HUS := Lib.hid (show ∀ x y, us l g x y = decide (g ≤ gr l x y) from fun x y => rfl)
  have HW := Lib.hid (way_ok (u := us l g) (w := wid l) (h := l.length) (fun x y k => us_in hok hg k) hok.2.2.2.1 hx hq)
  have HBN := Lib.hid (fun x y W (hW : Below w.heap.size w W) h1 h2 => bend_any A cap l g x y W hok (h.ext hW) h1 h2)
  have HIN := Lib.hid (show ∀ x y, us l g x y = true → 0 ≤ x ∧ x ≤ 47 from fun x y k => by have := us_in hok hg k; have := hok.2.2.2.1; omega)
  generalize us l g = u at HUS HW HBN HIN ⊢
  obtain ⟨hx1, hx2⟩ := hx
  obtain ⟨hy1, hy2⟩ := hy
  have HB0 := Lib.hid (Bk.new 106 w #[.int .i64 0, .int .i64 0, .int .i64 0, .bool false])
  have HX0 := Lib.hid (ext_alloc w (.cells #[.int .i64 0, .int .i64 0, .int .i64 0, .bool false] 106))
  clear hok h hg hq
  go_enter Tryd.func68, Tryd.ntmps68
  go_upto_region 1 with (fail)
  obtain ⟨X, hX⟩ : ∃ X, X = w.alloc (.cells #[.int .i64 0, .int .i64 0, .int .i64 0, .bool false] 106) := ⟨_, rfl⟩
  obtain ⟨q, hq⟩ : ∃ q, q = w.heap.size := ⟨_, rfl⟩
  rw [← hX] at HB0 HX0 ⊢
  rw [← hq] at HB0 ⊢
  have hwq : w.heap.size ≤ q := by omega
  clear hX hq
  go_wp2_with (fail)
  go_loopg [12] 59 (fun gg v wr => ∃ n : Nat, v = .int .i64 n ∧ 1 ≤ n ∧ n ≤ 50 ∧ gg = 60 - n ∧ (∀ i, x ≤ i → i < x + n - 1 → fl u i y = true) ∧ (∀ i, x < i → i < x + n → q3 u i y = false) ∧ Bk 106 wr q #[.int .i64 0, .int .i64 0, .int .i64 0, .bool false] ∧ Below w.heap.size w wr)
  case atStart => exact ⟨1, rfl, by omega, by omega, by omega, fun i h1 h2 => by omega, fun i h1 h2 => by omega, HB0.out, HX0.out⟩
  case round =>
    obtain ⟨n, rfl, hn1, hn50, hgg, hfl, hq3, hb, hw⟩ := hrel
    have HG := Lib.hid hgg
    have HB := Lib.hid hb
    have HWW := Lib.hid hw
    have HFL := Lib.hid hfl
    have HQ3 := Lib.hid hq3
    clear hgg hb hw hfl hq3 HB0 HX0
    obtain ⟨xn, hxn⟩ : ∃ xn, x + (n : Int) = xn := ⟨_, rfl⟩
    obtain ⟨xm, hxm⟩ : ∃ xm, xn - 1 = xm := ⟨_, rfl⟩
    obtain ⟨ym, hym⟩ : ∃ ym, y - 1 = ym := ⟨_, rfl⟩
    have HXN := Lib.hid (And.intro hxn (And.intro hxm hym))
    have r1 : -10 ≤ xn ∧ xn ≤ 200 := by omega
    have r2 : -10 ≤ xm ∧ xm ≤ 200 := by omega
    have r3 : -10 ≤ ym ∧ ym ≤ 200 := by omega
    go_upto_region 5 with (fail)
    obtain ⟨p, hp⟩ : ∃ p, p = wr.heap.size := ⟨_, rfl⟩
    have HD1 := Lib.hid ((Bk.new 80 wr #[.int .i64 xm, .int .i64 ym]).alloc (.cells #[.int .i64 xm, .int .i64 y] 80))
    have HD2 := Lib.hid (Bk.new 80 (wr.alloc (.cells #[.int .i64 xm, .int .i64 ym] 80)) #[.int .i64 xm, .int .i64 y])
    rw [World.size_alloc] at HD2
    have HY := Lib.hid (ext_trans (ext_alloc wr (.cells #[.int .i64 xm, .int .i64 ym] 80)) (ext_alloc _ (.cells #[.int .i64 xm, .int .i64 y] 80)))
    obtain ⟨Y, hYY⟩ : ∃ Y, Y = (wr.alloc (.cells #[.int .i64 xm, .int .i64 ym] 80)).alloc (.cells #[.int .i64 xm, .int .i64 y] 80) := ⟨_, rfl⟩
    rw [← hYY] at HD1 HD2 HY ⊢
    rw [← hp] at HD1 HD2 ⊢
    have HBY := Lib.hid (HB.out.ext HY.out)
    have HWY := Lib.hid (bext HWW.out HY.out HWW.out.size)
    clear hYY hp
    obtain ⟨d1, d2, d3⟩ := HD1.out.facts
    obtain ⟨f1, f2, f3⟩ := HD2.out.facts
    have HG1 := Lib.hid (HGR.out xm ym Y HWY.out)
    have HG2 := Lib.hid (HGR.out xm y Y HWY.out)
    have HFE := Lib.hid (show fl u (x + n - 1) y = (u xm ym && u xm y) from by rw [← hxm, ← hxn, ← hym]; rfl)
    rw [HUS.out xm ym, HUS.out xm y] at HFE
    obtain ⟨z1, hz1⟩ : ∃ z, z = gr l xm ym := ⟨_, rfl⟩
    obtain ⟨z2, hz2⟩ : ∃ z, z = gr l xm y := ⟨_, rfl⟩
    rw [← hz1] at HG1 HFE
    rw [← hz2] at HG2 HFE
    clear hz1 hz2
    by_cases h1 : g ≤ z1
    · by_cases h2 : g ≤ z2
      · rw [decide_eq_true h1, decide_eq_true h2] at HFE
        have HFN := Lib.hid (show ∀ i, x ≤ i → i < x + n → fl u i y = true from fun i k1 k2 => by
          by_cases e : i = x + n - 1
          · rw [e]; exact HFE.out
          · exact HFL.out i k1 (by omega))
        have HXI := Lib.hid (show 0 ≤ xm ∧ xm ≤ 47 from by
          have k := HFE.out
          unfold fl at k
          rw [Bool.and_true, Bool.and_eq_true] at k
          obtain ⟨k1, k2⟩ := k
          have := HIN.out _ _ k2
          omega)
        have HBE := Lib.hid (HBN.out xn y Y HWY.out (by omega) (by omega))
        have hq : q3 u xn y = q3 u (x + n) y := by rw [hxn]
        have HQE := Lib.hid hq
        obtain ⟨z, hz⟩ : ∃ z, z = q3 u xn y := ⟨_, rfl⟩
        rw [← hz] at HBE HQE
        clear hz hq
        cases z with
        | true =>
          have HYES := Lib.hid (rc_yes hn1 HW.out HFN.out HQE.out.symm)
          go_upto_region 11 with (first
            | (go_at_call_of 34 (Value.int .i64 ym); refine (HG1.out).mono ?_; rintro e w5 ⟨rfl, rfl⟩)
            | (go_at_call_of 34 (Value.int .i64 y); refine (HG2.out).mono ?_; rintro e w5 ⟨rfl, rfl⟩)
            | (go_at_call 67; refine (HBE.out).mono ?_; rintro e w6 ⟨rfl, hx6⟩; have HB6 := Lib.hid (HBY.out.ext hx6); have HW6 := Lib.hid (bext HWY.out hx6 HWY.out.size); clear hx6))
          obtain ⟨e1, e2, e3⟩ := HB6.out.facts
          have hxx := HXN.out.1
          go_wp2
          have HW7 := Lib.hid ((((HW6.out.setCell (p := ⟨q, 0, none⟩) hwq (.int .i64 x)).setCell (p := ⟨q, 1, none⟩) hwq (.int .i64 y)).setCell (p := ⟨q, 2, none⟩) hwq (.int .i64 (n : Int))).setCell (p := ⟨q, 3, none⟩) hwq (.bool false))
          have HB7 := Lib.hid ((((HB6.out.set 0 (.int .i64 x)).set 1 (.int .i64 y)).set 2 (.int .i64 (n : Int))).set 3 (.bool false))
          have c0 := HB7.out.cell 0
          have c1 := HB7.out.cell 1
          have c2 := HB7.out.cell 2
          have c3 := HB7.out.cell 3
          simp only [List.setIfInBounds_toArray, List.set_cons_zero, List.set_cons_succ, List.getElem?_toArray, List.getElem?_cons_zero, List.getElem?_cons_succ] at c0 c1 c2 c3
          refine bodyPost_ret (v := .tuple #[.agg #[.int .i64 x, .int .i64 y, .int .i64 (n : Int), .bool false], .bool true]) (by simp [results, Tryd.results68, go_sem, c0, c1, c2, c3]) rfl ?_
          refine ⟨HW7.out, .inr ⟨HYES.out.2, ?_⟩⟩
          rw [HYES.out.1, show x + (n : Int) - x = (n : Int) by omega]
        | false =>
          go_wp2_with (first
            | (go_at_call_of 34 (Value.int .i64 ym); refine (HG1.out).mono ?_; rintro e w5 ⟨rfl, rfl⟩)
            | (go_at_call_of 34 (Value.int .i64 y); refine (HG2.out).mono ?_; rintro e w5 ⟨rfl, rfl⟩)
            | (go_at_call 67; refine (HBE.out).mono ?_; rintro e w6 ⟨rfl, hx6⟩; have HB6 := Lib.hid (HBY.out.ext hx6); have HW6 := Lib.hid (bext HWY.out hx6 HWY.out.size); clear hx6))
          go_roundg (60 - (n + 1))
          case measure => have := HG.out; omega
          case rel => exact ⟨n + 1, by go_num, by omega, by have := HXI.out; have := HXN.out; omega, rfl, fun i k1 k2 => HFN.out i k1 (by push_cast at k2; omega), fun i k1 k2 => by
            by_cases e : i = x + n
            · rw [e]; exact HQE.out.symm
            · exact HQ3.out i k1 (by push_cast at k2; omega), HB6.out, HW6.out⟩
      · have h2' : z2 < g := by omega
        rw [decide_eq_false h2, Bool.and_false] at HFE
        have HNO := Lib.hid (rc_no hn1 HW.out HFL.out HQ3.out HFE.out)
        obtain ⟨e1, e2, e3⟩ := HBY.out.facts
        go_wp2_with (first
          | (go_at_call_of 34 (Value.int .i64 ym); refine (HG1.out).mono ?_; rintro e w5 ⟨rfl, rfl⟩)
          | (go_at_call_of 34 (Value.int .i64 y); refine (HG2.out).mono ?_; rintro e w5 ⟨rfl, rfl⟩))
        have HW7 := Lib.hid ((((HWY.out.setCell (p := ⟨q, 0, none⟩) hwq (.int .i64 0)).setCell (p := ⟨q, 1, none⟩) hwq (.int .i64 0)).setCell (p := ⟨q, 2, none⟩) hwq (.int .i64 0)).setCell (p := ⟨q, 3, none⟩) hwq (.bool false))
        have HB7 := Lib.hid ((((HBY.out.set 0 (.int .i64 0)).set 1 (.int .i64 0)).set 2 (.int .i64 0)).set 3 (.bool false))
        have c0 := HB7.out.cell 0
        have c1 := HB7.out.cell 1
        have c2 := HB7.out.cell 2
        have c3 := HB7.out.cell 3
        simp only [List.setIfInBounds_toArray, List.set_cons_zero, List.set_cons_succ, List.getElem?_toArray, List.getElem?_cons_zero, List.getElem?_cons_succ] at c0 c1 c2 c3
        refine bodyPost_ret (v := .tuple #[.agg #[.int .i64 0, .int .i64 0, .int .i64 0, .bool false], .bool false]) (by simp [results, Tryd.results68, go_sem, c0, c1, c2, c3]) rfl ?_
        exact ⟨HW7.out, .inl ⟨HNO.out, rfl⟩⟩
    · have h1' : z1 < g := by omega
      rw [decide_eq_false h1, Bool.false_and] at HFE
      have HNO := Lib.hid (rc_no hn1 HW.out HFL.out HQ3.out HFE.out)
      obtain ⟨e1, e2, e3⟩ := HBY.out.facts
      go_wp2_with (go_at_call_of 34 (Value.int .i64 ym); refine (HG1.out).mono ?_; rintro e w5 ⟨rfl, rfl⟩)
      have HW7 := Lib.hid ((((HWY.out.setCell (p := ⟨q, 0, none⟩) hwq (.int .i64 0)).setCell (p := ⟨q, 1, none⟩) hwq (.int .i64 0)).setCell (p := ⟨q, 2, none⟩) hwq (.int .i64 0)).setCell (p := ⟨q, 3, none⟩) hwq (.bool false))
      have HB7 := Lib.hid ((((HBY.out.set 0 (.int .i64 0)).set 1 (.int .i64 0)).set 2 (.int .i64 0)).set 3 (.bool false))
      have c0 := HB7.out.cell 0
      have c1 := HB7.out.cell 1
      have c2 := HB7.out.cell 2
      have c3 := HB7.out.cell 3
      simp only [List.setIfInBounds_toArray, List.set_cons_zero, List.set_cons_succ, List.getElem?_toArray, List.getElem?_cons_zero, List.getElem?_cons_succ] at c0 c1 c2 c3
      refine bodyPost_ret (v := .tuple #[.agg #[.int .i64 0, .int .i64 0, .int .i64 0, .bool false], .bool false]) (by simp [results, Tryd.results68, go_sem, c0, c1, c2, c3]) rfl ?_
      exact ⟨HW7.out, .inl ⟨HNO.out, rfl⟩⟩

set_option maxRecDepth 100000 in
set_option maxHeartbeats 8000000 in
theorem reachS_any (A : Option Addr) (cap : Nat) (l : List ByteArray) (g x y : Int) (w : World) (hok : SkOk l) (hg : 1 ≤ g) (h : TSl w A l) (hx : 0 ≤ x ∧ x ≤ 48) (hy : 0 ≤ y ∧ y ≤ 48) (hq : q3 (us l g) x y = true) :
    Calls Tryd.prog 68 #[.slice A l.length cap, .int .i64 g, .int .i64 x, .int .i64 y, .bool true] w fun e w' => Below w.heap.size w w' ∧
      ((¬ rcF (trU (us l g)) y x ∧ e = .returned (.tuple #[.agg #[.int .i64 0, .int .i64 0, .int .i64 0, .bool false], .bool false])) ∨
       (rcF (trU (us l g)) y x ∧ e = .returned (.tuple #[.agg #[.int .i64 x, .int .i64 y, .int .i64 (wayS (us l g) x y - y), .bool true], .bool true]))) := by
  have HGR := Lib.hid (fun x y W (hW : Below w.heap.size w W) => rgrade_any A cap l x y W hok (h.ext hW))
  have HUS := Lib.hid (show ∀ x y, us l g x y = decide (g ≤ gr l x y) from fun x y => rfl)
  have HW := Lib.hid (show Way (trU (us l g)) (y, x) (wayT (trU (us l g)) y x) from way_ok (u := trU (us l g)) (w := l.length) (h := wid l) (fun x y k => by have := us_in hok hg (show us l g y x = true from k); omega) hok.2.1 hy (by rw [q3_tr]; exact hq))
  have HWS := Lib.hid (show wayS (us l g) x y = wayT (trU (us l g)) y x from rfl)
  have HBN := Lib.hid (fun x y W (hW : Below w.heap.size w W) h1 h2 => bend_any A cap l g x y W hok (h.ext hW) h1 h2)
  have HIN := Lib.hid (show ∀ x y, us l g x y = true → 0 ≤ y ∧ y ≤ 47 from fun x y k => by have := us_in hok hg k; have := hok.2.1; omega)
  generalize us l g = u at HUS HW HWS HBN HIN ⊢
  obtain ⟨hx1, hx2⟩ := hx
  obtain ⟨hy1, hy2⟩ := hy
  have HB0 := Lib.hid (Bk.new 106 w #[.int .i64 0, .int .i64 0, .int .i64 0, .bool false])
  have HX0 := Lib.hid (ext_alloc w (.cells #[.int .i64 0, .int .i64 0, .int .i64 0, .bool false] 106))
  clear hok h hg hq
  go_enter Tryd.func68, Tryd.ntmps68
  go_upto_region 1 with (fail)
  obtain ⟨X, hX⟩ : ∃ X, X = w.alloc (.cells #[.int .i64 0, .int .i64 0, .int .i64 0, .bool false] 106) := ⟨_, rfl⟩
  obtain ⟨q, hq⟩ : ∃ q, q = w.heap.size := ⟨_, rfl⟩
  rw [← hX] at HB0 HX0 ⊢
  rw [← hq] at HB0 ⊢
  have hwq : w.heap.size ≤ q := by omega
  clear hX hq
  go_wp2_with (fail)
  go_loopg [12] 59 (fun gg v wr => ∃ n : Nat, v = .int .i64 n ∧ 1 ≤ n ∧ n ≤ 50 ∧ gg = 60 - n ∧ (∀ i, y ≤ i → i < y + n - 1 → fl (trU u) i x = true) ∧ (∀ i, y < i → i < y + n → q3 (trU u) i x = false) ∧ Bk 106 wr q #[.int .i64 0, .int .i64 0, .int .i64 0, .bool false] ∧ Below w.heap.size w wr)
  case atStart => exact ⟨1, rfl, by omega, by omega, by omega, fun i h1 h2 => by omega, fun i h1 h2 => by omega, HB0.out, HX0.out⟩
  case round =>
    obtain ⟨n, rfl, hn1, hn50, hgg, hfl, hq3, hb, hw⟩ := hrel
    have HG := Lib.hid hgg
    have HB := Lib.hid hb
    have HWW := Lib.hid hw
    have HFL := Lib.hid hfl
    have HQ3 := Lib.hid hq3
    clear hgg hb hw hfl hq3 HB0 HX0
    obtain ⟨xn, hxn⟩ : ∃ xn, x + (n : Int) = xn := ⟨_, rfl⟩
    obtain ⟨xm, hxm⟩ : ∃ xm, xn - 1 = xm := ⟨_, rfl⟩
    obtain ⟨ym, hym⟩ : ∃ ym, y - 1 = ym := ⟨_, rfl⟩
    have HXN := Lib.hid (And.intro hxn (And.intro hxm hym))
    have r1 : -10 ≤ xn ∧ xn ≤ 200 := by omega
    have r2 : -10 ≤ xm ∧ xm ≤ 200 := by omega
    have r3 : -10 ≤ ym ∧ ym ≤ 200 := by omega
    obtain ⟨yn, hyn⟩ : ∃ yn, y + (n : Int) = yn := ⟨_, rfl⟩
    obtain ⟨yv, hyv⟩ : ∃ yv, yn - 1 = yv := ⟨_, rfl⟩
    obtain ⟨xl, hxl⟩ : ∃ xl, x - 1 = xl := ⟨_, rfl⟩
    have HYN := Lib.hid (And.intro hyn (And.intro hyv hxl))
    have r4 : -10 ≤ yn ∧ yn ≤ 200 := by omega
    have r5 : -10 ≤ yv ∧ yv ≤ 200 := by omega
    have r6 : -10 ≤ xl ∧ xl ≤ 200 := by omega
    go_upto_region 5 with (fail)
    obtain ⟨p, hp⟩ : ∃ p, p = wr.heap.size := ⟨_, rfl⟩
    have HD1 := Lib.hid ((Bk.new 80 wr #[.int .i64 xm, .int .i64 ym]).alloc (.cells #[.int .i64 xm, .int .i64 y] 80))
    have HD2 := Lib.hid (Bk.new 80 (wr.alloc (.cells #[.int .i64 xm, .int .i64 ym] 80)) #[.int .i64 xm, .int .i64 y])
    rw [World.size_alloc] at HD2
    have HY := Lib.hid (ext_trans (ext_alloc wr (.cells #[.int .i64 xm, .int .i64 ym] 80)) (ext_alloc _ (.cells #[.int .i64 xm, .int .i64 y] 80)))
    obtain ⟨Y, hYY⟩ : ∃ Y, Y = (wr.alloc (.cells #[.int .i64 xm, .int .i64 ym] 80)).alloc (.cells #[.int .i64 xm, .int .i64 y] 80) := ⟨_, rfl⟩
    rw [← hYY] at HD1 HD2 HY ⊢
    rw [← hp] at HD1 HD2 ⊢
    have HBY := Lib.hid (HB.out.ext HY.out)
    have HWY := Lib.hid (bext HWW.out HY.out HWW.out.size)
    have hpb : q < p := by have := HB.out.lt; omega
    have hpp : w.heap.size ≤ p := by have := HWW.out.size; omega
    clear hYY
    obtain ⟨d1, d2, d3⟩ := HD1.out.facts
    obtain ⟨f1, f2, f3⟩ := HD2.out.facts
    have hpw : wr.heap.size ≤ p := by omega
    clear hp
    go_upto_region 8 with (fail)
    have HZ1 := Lib.hid (((((HD1.out.set 0 (.int .i64 xl)).set 1 (.int .i64 yv)).set_ne (k := p + 1) (j := 0) (by omega) (.int .i64 x)).set_ne (k := p + 1) (j := 1) (by omega) (.int .i64 yv)))
    have HZ2 := Lib.hid (((((HD2.out.set_ne (k := p) (j := 0) (by omega) (.int .i64 xl)).set_ne (k := p) (j := 1) (by omega) (.int .i64 yv)).set 0 (.int .i64 x)).set 1 (.int .i64 yv)))
    have HBZ0 := Lib.hid (((((HBY.out.set_ne (k := p) (j := 0) (by omega) (.int .i64 xl)).set_ne (k := p) (j := 1) (by omega) (.int .i64 yv)).set_ne (k := p + 1) (j := 0) (by omega) (.int .i64 x)).set_ne (k := p + 1) (j := 1) (by omega) (.int .i64 yv)))
    have HWZ0 := Lib.hid ((((HWY.out.setCell (p := ⟨p, 0, none⟩) (by show _ ≤ p; omega) (.int .i64 xl)).setCell (p := ⟨p, 1, none⟩) (by show _ ≤ p; omega) (.int .i64 yv)).setCell (p := ⟨p + 1, 0, none⟩) (by show _ ≤ p + 1; omega) (.int .i64 x)).setCell (p := ⟨p + 1, 1, none⟩) (by show _ ≤ p + 1; omega) (.int .i64 yv))
    simp only [List.setIfInBounds_toArray, List.set_cons_zero, List.set_cons_succ] at HZ1 HZ2
    obtain ⟨Z, hZ⟩ : ∃ Z, Z = (((Y.setCell ⟨p, 0, none⟩ (.int .i64 xl)).setCell ⟨p, 1, none⟩ (.int .i64 yv)).setCell ⟨p + 1, 0, none⟩ (.int .i64 x)).setCell ⟨p + 1, 1, none⟩ (.int .i64 yv) := ⟨_, rfl⟩
    rw [← hZ] at HZ1 HZ2 HBZ0 HWZ0 ⊢
    clear hZ d1 d2 d3 f1 f2 f3 HD1 HD2 HBY HWY HY
    have HBY := HBZ0
    have HWY := HWZ0
    clear HBZ0 HWZ0
    obtain ⟨d1, d2, d3⟩ := HZ1.out.facts
    obtain ⟨f1, f2, f3⟩ := HZ2.out.facts
    have HG1 := Lib.hid (HGR.out xl yv Z HWY.out)
    have HG2 := Lib.hid (HGR.out x yv Z HWY.out)
    have HFE := Lib.hid (show fl (trU u) (y + n - 1) x = (u xl yv && u x yv) from by rw [← hyv, ← hyn, ← hxl]; rfl)
    rw [HUS.out xl yv, HUS.out x yv] at HFE
    obtain ⟨z1, hz1⟩ : ∃ z, z = gr l xl yv := ⟨_, rfl⟩
    obtain ⟨z2, hz2⟩ : ∃ z, z = gr l x yv := ⟨_, rfl⟩
    rw [← hz1] at HG1 HFE
    rw [← hz2] at HG2 HFE
    clear hz1 hz2
    by_cases h1 : g ≤ z1
    · by_cases h2 : g ≤ z2
      · rw [decide_eq_true h1, decide_eq_true h2] at HFE
        have HFN := Lib.hid (show ∀ i, y ≤ i → i < y + n → fl (trU u) i x = true from fun i k1 k2 => by
          by_cases e : i = y + n - 1
          · rw [e]; exact HFE.out
          · exact HFL.out i k1 (by omega))
        have HXI := Lib.hid (show 0 ≤ yv ∧ yv ≤ 47 from by
          have k := HFE.out
          rw [Bool.and_true] at k
          unfold fl trU at k
          rw [Bool.and_eq_true] at k
          obtain ⟨k1, k2⟩ := k
          have := HIN.out _ _ k2
          omega)
        have HBE := Lib.hid (HBN.out x yn Z HWY.out (by omega) (by omega))
        have hq : q3 u x yn = q3 (trU u) (y + n) x := by rw [hyn, q3_tr]
        have HQE := Lib.hid hq
        obtain ⟨z, hz⟩ : ∃ z, z = q3 u x yn := ⟨_, rfl⟩
        rw [← hz] at HBE HQE
        clear hz hq
        cases z with
        | true =>
          have HYES := Lib.hid (rc_yes hn1 HW.out HFN.out HQE.out.symm)
          go_upto_region 11 with (first
            | (go_at_call_of 34 (Value.int .i64 xl); refine (HG1.out).mono ?_; rintro e w5 ⟨rfl, rfl⟩)
            | (go_at_call_of 34 (Value.int .i64 x); refine (HG2.out).mono ?_; rintro e w5 ⟨rfl, rfl⟩)
            | (go_at_call 67; refine (HBE.out).mono ?_; rintro e w6 ⟨rfl, hx6⟩; have HB6 := Lib.hid (HBY.out.ext hx6); have HW6 := Lib.hid (bext HWY.out hx6 HWY.out.size); clear hx6))
          obtain ⟨e1, e2, e3⟩ := HB6.out.facts
          have hxx := HYN.out.1
          go_wp2
          have HW7 := Lib.hid ((((HW6.out.setCell (p := ⟨q, 0, none⟩) hwq (.int .i64 x)).setCell (p := ⟨q, 1, none⟩) hwq (.int .i64 y)).setCell (p := ⟨q, 2, none⟩) hwq (.int .i64 (n : Int))).setCell (p := ⟨q, 3, none⟩) hwq (.bool true))
          have HB7 := Lib.hid ((((HB6.out.set 0 (.int .i64 x)).set 1 (.int .i64 y)).set 2 (.int .i64 (n : Int))).set 3 (.bool true))
          have c0 := HB7.out.cell 0
          have c1 := HB7.out.cell 1
          have c2 := HB7.out.cell 2
          have c3 := HB7.out.cell 3
          simp only [List.setIfInBounds_toArray, List.set_cons_zero, List.set_cons_succ, List.getElem?_toArray, List.getElem?_cons_zero, List.getElem?_cons_succ] at c0 c1 c2 c3
          refine bodyPost_ret (v := .tuple #[.agg #[.int .i64 x, .int .i64 y, .int .i64 (n : Int), .bool true], .bool true]) (by simp [results, Tryd.results68, go_sem, c0, c1, c2, c3]) rfl ?_
          refine ⟨HW7.out, .inr ⟨HYES.out.2, ?_⟩⟩
          rw [HWS.out, HYES.out.1, show y + (n : Int) - y = (n : Int) by omega]
        | false =>
          go_wp2_with (first
            | (go_at_call_of 34 (Value.int .i64 xl); refine (HG1.out).mono ?_; rintro e w5 ⟨rfl, rfl⟩)
            | (go_at_call_of 34 (Value.int .i64 x); refine (HG2.out).mono ?_; rintro e w5 ⟨rfl, rfl⟩)
            | (go_at_call 67; refine (HBE.out).mono ?_; rintro e w6 ⟨rfl, hx6⟩; have HB6 := Lib.hid (HBY.out.ext hx6); have HW6 := Lib.hid (bext HWY.out hx6 HWY.out.size); clear hx6))
          go_roundg (60 - (n + 1))
          case measure => have := HG.out; omega
          case rel => exact ⟨n + 1, by go_num, by omega, by have := HXI.out; have := HYN.out; omega, rfl, fun i k1 k2 => HFN.out i k1 (by push_cast at k2; omega), fun i k1 k2 => by
            by_cases e : i = y + n
            · rw [e]; exact HQE.out.symm
            · exact HQ3.out i k1 (by push_cast at k2; omega), HB6.out, HW6.out⟩
      · have h2' : z2 < g := by omega
        rw [decide_eq_false h2, Bool.and_false] at HFE
        have HNO := Lib.hid (rc_no hn1 HW.out HFL.out HQ3.out HFE.out)
        obtain ⟨e1, e2, e3⟩ := HBY.out.facts
        go_wp2_with (first
          | (go_at_call_of 34 (Value.int .i64 xl); refine (HG1.out).mono ?_; rintro e w5 ⟨rfl, rfl⟩)
          | (go_at_call_of 34 (Value.int .i64 x); refine (HG2.out).mono ?_; rintro e w5 ⟨rfl, rfl⟩))
        have HW7 := Lib.hid ((((HWY.out.setCell (p := ⟨q, 0, none⟩) hwq (.int .i64 0)).setCell (p := ⟨q, 1, none⟩) hwq (.int .i64 0)).setCell (p := ⟨q, 2, none⟩) hwq (.int .i64 0)).setCell (p := ⟨q, 3, none⟩) hwq (.bool false))
        have HB7 := Lib.hid ((((HBY.out.set 0 (.int .i64 0)).set 1 (.int .i64 0)).set 2 (.int .i64 0)).set 3 (.bool false))
        have c0 := HB7.out.cell 0
        have c1 := HB7.out.cell 1
        have c2 := HB7.out.cell 2
        have c3 := HB7.out.cell 3
        simp only [List.setIfInBounds_toArray, List.set_cons_zero, List.set_cons_succ, List.getElem?_toArray, List.getElem?_cons_zero, List.getElem?_cons_succ] at c0 c1 c2 c3
        refine bodyPost_ret (v := .tuple #[.agg #[.int .i64 0, .int .i64 0, .int .i64 0, .bool false], .bool false]) (by simp [results, Tryd.results68, go_sem, c0, c1, c2, c3]) rfl ?_
        exact ⟨HW7.out, .inl ⟨HNO.out, rfl⟩⟩
    · have h1' : z1 < g := by omega
      rw [decide_eq_false h1, Bool.false_and] at HFE
      have HNO := Lib.hid (rc_no hn1 HW.out HFL.out HQ3.out HFE.out)
      obtain ⟨e1, e2, e3⟩ := HBY.out.facts
      go_wp2_with (go_at_call_of 34 (Value.int .i64 xl); refine (HG1.out).mono ?_; rintro e w5 ⟨rfl, rfl⟩)
      have HW7 := Lib.hid ((((HWY.out.setCell (p := ⟨q, 0, none⟩) hwq (.int .i64 0)).setCell (p := ⟨q, 1, none⟩) hwq (.int .i64 0)).setCell (p := ⟨q, 2, none⟩) hwq (.int .i64 0)).setCell (p := ⟨q, 3, none⟩) hwq (.bool false))
      have HB7 := Lib.hid ((((HBY.out.set 0 (.int .i64 0)).set 1 (.int .i64 0)).set 2 (.int .i64 0)).set 3 (.bool false))
      have c0 := HB7.out.cell 0
      have c1 := HB7.out.cell 1
      have c2 := HB7.out.cell 2
      have c3 := HB7.out.cell 3
      simp only [List.setIfInBounds_toArray, List.set_cons_zero, List.set_cons_succ, List.getElem?_toArray, List.getElem?_cons_zero, List.getElem?_cons_succ] at c0 c1 c2 c3
      refine bodyPost_ret (v := .tuple #[.agg #[.int .i64 0, .int .i64 0, .int .i64 0, .bool false], .bool false]) (by simp [results, Tryd.results68, go_sem, c0, c1, c2, c3]) rfl ?_
      exact ⟨HW7.out, .inl ⟨HNO.out, rfl⟩⟩
end Go.Proofs.YtmgofdgbenfjmaaDoor
