/- slices.insertionSortCmpFunc walked at frac.Share's comparison. Conditions: the range lies within the row, its numbers rise. -/
import Derived.Test.YthkoblnfeebafaaMb
import Derived.Test.YthkoblnfeebafaaMc
import Derived.Deep.DeepCutAuto
namespace Go.Proofs.Ythkoblnfeebafaa
open Go.RowKit

def cv (a b : Int) : Int := if a < b then -1 else if b < a then 1 else 0
theorem cv_neg {a b : Int} : cv a b < 0 ↔ a < b := by
  unfold cv
  split
  · simp; omega
  · split <;> simp <;> omega
/-- what the comparison answers, wherever only block b has turned since w0 -/
def Cm (b : Nat) (w0 : World) (N : Int) (q1 q2 q3 : Value) (K : Int → Int) : Prop := ∀ W, Fr b w0 W → ∀ x y : Int, 0 ≤ x → x < N → 0 ≤ y → y < N →
  Calls Try.prog 102 #[.int .i64 x, .int .i64 y, q1, q2, q3] W fun e w' => e = .returned (.int .i64 (cv (K y) (K x))) ∧ Below W.heap.size W w'

/-- the row's state -/
def SO (b n : Nat) (d : Nat → Int) (w wx : World) : Prop := Fr b w wx ∧ Ow b n d wx
theorem SO.call {b n : Nat} {d : Nat → Int} {w wx wy : World} (h : SO b n d w wx) (hb : Below wx.heap.size wx wy) : SO b n d w wy := ⟨h.1.trans (Fr.below hb), h.2.ext hb⟩

/-- one element more is in its place -/
theorem ins_outer {K : Int → Int} {d d' dd : Nat → Int} {a c i : Nat} (hic : i < c) (hia : a ≤ i) (hsw : Sws a c d d') (hrest : ∀ k, i ≤ k → d' k = d k) (hlow : ∀ x k, a ≤ x → x < i → x < c → i ≤ k → k < c → d' x < d k)
    (hl : ∀ i j, a ≤ i → i < j → j < c → d i < d j) (h1 : Sws a (i + 1) d' dd) (h2 : Sd K dd a (i + 1)) :
    Sws a c d dd ∧ (∀ k, i + 1 ≤ k → dd k = d k) ∧ (∀ j, j ≤ i + 1 → j ≤ c → Sd K dd a j) ∧ (∀ x k, a ≤ x → x < i + 1 → x < c → i + 1 ≤ k → k < c → dd x < d k) := by
  refine ⟨hsw.trans (h1.mono (Nat.le_refl _) (by omega)), fun k hk => (h1.outside (by omega)).trans (hrest k (by omega)), fun j j1 j2 x y x1 x2 x3 => h2 x y x1 x2 (by omega), fun x k x1 x2 x3 k1 k2 => ?_⟩
  refine h1.all (P := fun v => v < d k) (fun y y1 y2 => ?_) x x1 x2
  by_cases hy : y = i
  · subst hy
    rw [hrest y (Nat.le_refl _)]
    exact hl y k y1 (by omega) k2
  · exact hlow y k y1 (by omega) (by omega) (by omega) k2

set_option maxRecDepth 100000 in
set_option maxHeartbeats 4000000 in
theorem ins_any (b n : Nat) (d : Nat → Int) (a c : Nat) (x y : Int) (q1 q2 q3 : Value) (K : Int → Int) (N : Int) (w0 w : World) (hw : Ow b n d w) (hf : Fr b w0 w) (hcm : Cm b w0 N q1 q2 q3 K) (hn : n ≤ 1000000) (h1 : a ≤ c) (h2 : c ≤ n)
    (hN : ∀ i, a ≤ i → i < c → 0 ≤ d i ∧ d i < N) (hl : ∀ i j, a ≤ i → i < j → j < c → d i < d j) (hx : x = a) (hy : y = c) :
    Calls Try.prog 112 #[.slice (some ⟨b, 0, none⟩) n n, .int .i64 x, .int .i64 y, .func (.func 102) #[] #[q1, q2, q3]] w fun e w' => e = .returned (.tuple #[]) ∧ Fr b w w' ∧ ∃ d', Ow b n d' w' ∧ Sws a c d d' ∧ Sd K d' a c := by
  subst hx hy
  have HW := Lib.hid hw
  have HF := Lib.hid hf
  have HCM := Lib.hid hcm
  have HN := Lib.hid hN
  have HL := Lib.hid hl
  clear hw hf hcm hN hl
  go_enter Try.func112, Try.ntmps112
  go_wp2
  go_loopg [8] (c - a) (fun g z wr => ∃ (i : Nat) (d' : Nat → Int), z = .int .i64 i ∧ g = c + 1 - i ∧ a + 1 ≤ i ∧ (i ≤ c ∨ i = a + 1) ∧ Fr b w wr ∧ Ow b n d' wr ∧ Sws a c d d' ∧ (∀ k, i ≤ k → d' k = d k) ∧ (∀ j, j ≤ i → j ≤ c → Sd K d' a j) ∧ (∀ x k, a ≤ x → x < i → x < c → i ≤ k → k < c → d' x < d k))
  case atStart => exact ⟨a + 1, d, by go_num, by omega, by omega, by omega, Fr.refl _ _, HW.out, .refl _, fun _ _ => rfl, fun j h h' x y x1 x2 x3 => by omega, fun x k x1 x2 x3 k1 k2 => HL.out x k x1 (by omega) k2⟩
  case round =>
    obtain ⟨i, d', rfl, hg, hi1, hi2, hfr, how, hsw, hrest, hsd, hlow⟩ := hrel
    have HG := Lib.hid hg
    have HFR := Lib.hid hfr
    have HOW := Lib.hid how
    have HSW := Lib.hid hsw
    have HREST := Lib.hid hrest
    have HSD := Lib.hid hsd
    have HLOW := Lib.hid hlow
    clear hg hfr how hsw hrest hsd hlow
    by_cases hic : i < c
    · have HINS := Lib.hid (show Ins K d' d' a i i from Ins.start (HSD.out i (Nat.le_refl _) (by omega)) (by omega) (fun x x1 x2 => by rw [HREST.out i (Nat.le_refl _)]; exact HLOW.out x i x1 x2 (by omega) (Nat.le_refl _) hic))
      have HIN := Lib.hid (show ∀ k, a ≤ k → k < c → 0 ≤ d' k ∧ d' k < N from HSW.out.all (P := fun v => 0 ≤ v ∧ v < N) HN.out)
      go_wp2
      go_loopg [9] i (fun g z wr => ∃ (j : Nat) (dd : Nat → Int), z = .int .i64 j ∧ g = j ∧ Ins K d' dd a i j ∧ Fr b w wr ∧ Ow b n dd wr)
      case atStart => exact ⟨i, d', rfl, rfl, HINS.out, HFR.out, HOW.out⟩
      case round =>
        obtain ⟨j, dd, rfl, hg, hins, hfr, how⟩ := hrel
        have HG2 := Lib.hid hg
        have HI2 := Lib.hid hins
        have HFR2 := Lib.hid hfr
        have HOW2 := Lib.hid how
        obtain ⟨-, j1, j2, -⟩ := hins
        clear hg hfr how
        by_cases hja : a < j
        · obtain ⟨k, rfl⟩ : ∃ k, j = k + 1 := ⟨j - 1, by omega⟩
          have c1 := HOW2.out.cell (i := k + 1) (by omega)
          have c2 := HOW2.out.cell (i := k) (by omega)
          have i1 : (0 : Int) ≤ (k : Int) := by omega
          have i2 : (k : Int) + 1 < (n : Int) := by omega
          have i3 : (k : Int) < (n : Int) := by omega
          have i4 : (a : Int) < (k : Int) + 1 := by omega
          have hin : 0 ≤ dd (k + 1) ∧ dd (k + 1) < N ∧ 0 ≤ dd k ∧ dd k < N := by
            have h := HI2.out.1.all (P := fun v => 0 ≤ v ∧ v < N) (fun x x1 x2 => HIN.out x x1 (by omega))
            exact ⟨(h (k + 1) (by omega) (by omega)).1, (h (k + 1) (by omega) (by omega)).2, (h k (by omega) (by omega)).1, (h k (by omega) (by omega)).2⟩
          have hcall := fun W (hW : SO b n dd w W) => HCM.out W (HF.out.trans hW.1) (dd (k + 1)) (dd k) hin.1 hin.2.1 hin.2.2.1 hin.2.2.2
          have htest : cv (K (dd k)) (K (dd (k + 1))) < 0 ↔ Bf K (dd (k + 1)) (dd k) := by
            rw [cv_neg]
            refine Bf.test ?_
            rw [HI2.out.2.2.2.1]
            exact HI2.out.2.2.2.2.2.2.2.2 k (by omega) (by omega) (by omega)
          have hsc := fun wx (h : SO b n dd w wx) => (show SO b n dd w wx ∧ wx.cell? ⟨b, k + 1, none⟩ = some (.int .i64 (dd (k + 1))) ∧ wx.cell? ⟨b, k, none⟩ = some (.int .i64 (dd k)) from ⟨h, h.2.cell (by omega), h.2.cell (by omega)⟩)
          have hins1 : Bf K (dd (k + 1)) (dd k) → Ins K d' (sw dd (k + 1) k) a i k := fun h => HI2.out.step (by omega) h
          have hlt2 : dd k < dd (k + 1) := by
            rw [HI2.out.2.2.2.1]
            exact HI2.out.2.2.2.2.2.2.2.2 k (by omega) (by omega) (by omega)
          have hins2 : ¬ Bf K (dd (k + 1)) (dd k) → Sd K dd a (i + 1) := fun h => HI2.out.done (fun _ => Bf.total h (Int.ne_of_gt hlt2))
          have hsd2 : Sws a (i + 1) d' dd := HI2.out.1
          have hset := fun W (h : SO b n dd w W) => (show SO b n (sw dd (k + 1) k) w ((W.setCell ⟨b, k + 1, none⟩ (.int .i64 (dd k))).setCell ⟨b, k, none⟩ (.int .i64 (dd (k + 1)))) from ⟨(h.1.set _ _).set _ _, (h.2.set (k + 1) (dd k)).set k (dd (k + 1))⟩)
          generalize cv (K (dd k)) (K (dd (k + 1))) = s at *
          have HI1 := Lib.hid hins1
          have HI3 := Lib.hid hins2
          have HSET := Lib.hid hset
          have HTEST := Lib.hid htest
          have HSC := Lib.hid hsc
          have HCALL := Lib.hid hcall
          have HSD2 := Lib.hid hsd2
          have HSO := Lib.hid (show SO b n dd w wr from ⟨HFR2.out, HOW2.out⟩)
          generalize dd (k + 1) = u at *
          generalize dd k = v at *
          clear hins1 hins2 hset htest hsc hcall hsd2 hin hlt2
          have i7 : (0 : Int) ≤ (k : Int) + 1 := by omega
          have e8 : IntKind.i64.wrap (k : Int) = (k : Int) := IntWalk.i64_in _ ⟨by omega, by omega⟩
          go_upto_region 4 with (fail)
          go_cut [34] (fun z wx => z = .bool (decide (s < 0)) ∧ SO b n dd w wx)
          case first =>
            go_region_held3 (fun wx => SO b n dd w wx ∧ wx.cell? ⟨b, k + 1, none⟩ = some (.int .i64 u) ∧ wx.cell? ⟨b, k, none⟩ = some (.int .i64 v))
              (first | exact HSC.out _ (SO.call (And.left (by assumption)) (by assumption)) | exact HSC.out _ (SO.call HSO.out (ext_drew _)))
              ((go_at_call 102; refine (HCALL.out _ ?_).mono ?_; exact And.left (by assumption); rintro e w5 ⟨rfl, hx5⟩; have S5 := SO.call (And.left (by assumption)) hx5))
            all_goals
              go_wp2
              go_meet
              exact ⟨rfl, S5⟩
          case rest =>
            obtain ⟨rfl, hso⟩ := hcut
            have HSO2 := Lib.hid hso
            clear HSO HFR2 HOW2
            by_cases hs : s < 0
            · have hbf := HTEST.out.1 hs
              have HI4 := Lib.hid (HI1.out hbf)
              have c1 := (HSC.out _ hso).2.1
              have c2 := (HSC.out _ hso).2.2
              have f1 := hso.2.frozen (k + 1)
              have f2 := hso.2.frozen k
              have d1 : decide (s < 0) = true := decide_eq_true hs
              clear hbf hso
              go_wp2
              go_region
              all_goals
                go_wp2
                go_roundg k
                case measure => have := HG2.out; omega
                case rel => exact ⟨k, sw dd (k + 1) k, by go_num, rfl, HI4.out, ((HSET.out _ HSO2.out).call (ext_drew _)).1, ((HSET.out _ HSO2.out).call (ext_drew _)).2⟩
            · have d1 : decide (s < 0) = false := decide_eq_false hs
              have HS3 := Lib.hid (HI3.out (fun h => hs (HTEST.out.2 h)))
              clear hso
              go_wp2
              have hout := ins_outer hic (by omega) HSW.out HREST.out HLOW.out HL.out HSD2.out HS3.out
              go_roundg (c + 1 - (i + 1))
              case measure => have := HG.out; omega
              case rel => exact ⟨i + 1, dd, by go_num, rfl, by omega, by omega, HSO2.out.1, HSO2.out.2, hout.1, hout.2.1, hout.2.2.1, hout.2.2.2⟩
        · obtain rfl : j = a := by omega
          have HSO := Lib.hid (show SO b n dd w wr from ⟨HFR2.out, HOW2.out⟩)
          have HS3 := Lib.hid (HI2.out.done (fun h => by omega))
          have i4 : ¬ (j : Int) < (j : Int) := by omega
          go_upto_region 4 with (fail)
          refine wp_region_held_drew (S := (fun wx => SO b n dd w wx)) (by kernel_rfl) (SO.call ⟨HFR2.out, HOW2.out⟩ (ext_drew _)) (fun hHeld => ?_)
          refine wpAnyH_take (i := 0) (v := ?v1) rfl (by kernel_rfl) (by kernel_rfl) (by kernel_rfl) (fun _ _ _ h => h) (Or.inl ⟨by rfl, ?hy1⟩) hHeld ?rst1
          case hy1 => (intro wx hSw; (try dsimp only at hSw); go_simp; try (with_reducible rfl))
          try simp only [List.getElem_toArray, List.getElem_cons_zero, Act.put, List.setIfInBounds_toArray, List.set_cons_zero, List.set_cons_succ]
          refine wpAnyH_take (i := 1) (v := ?v2) rfl (by kernel_rfl) (by kernel_rfl) (by kernel_rfl) (fun _ _ _ h => h) (Or.inl ⟨by rfl, ?hy2⟩) hHeld ?rst2
          case hy2 => (intro wx hSw; (try dsimp only at hSw); go_simp; try (with_reducible rfl))
          try simp only [List.getElem_toArray, List.getElem_cons_zero, List.getElem_cons_succ, Act.put, List.setIfInBounds_toArray, List.set_cons_zero, List.set_cons_succ]
          refine wpAnyH_take (i := 2) (v := ?v3) rfl (by kernel_rfl) (by kernel_rfl) (by kernel_rfl) (fun _ _ _ h => h) (Or.inl ⟨by rfl, ?hy3⟩) hHeld ?rst3
          case hy3 => (intro wx hSw; (try dsimp only at hSw); go_simp; try (with_reducible rfl))
          try simp only [List.getElem_toArray, List.getElem_cons_zero, List.getElem_cons_succ, Act.put, List.setIfInBounds_toArray, List.set_cons_zero, List.set_cons_succ]
          refine wpAnyH_take (i := 3) (v := ?v4) rfl (by kernel_rfl) (by kernel_rfl) (by kernel_rfl) (fun _ _ _ h => h) (Or.inl ⟨by rfl, ?hy4⟩) hHeld ?rst4
          case hy4 => (intro wx hSw; (try dsimp only at hSw); go_simp; try (with_reducible rfl))
          try simp only [List.getElem_toArray, List.getElem_cons_zero, List.getElem_cons_succ, Act.put, List.setIfInBounds_toArray, List.set_cons_zero, List.set_cons_succ]
          refine wpAnyH_take (i := 4) (v := undef) rfl (by kernel_rfl) (by kernel_rfl) (by kernel_rfl) (fun _ _ _ h => h) (Or.inr ⟨by rfl, rfl⟩) hHeld ?_
          try simp only [List.getElem_toArray, List.getElem_cons_zero, List.getElem_cons_succ, Act.put, List.setIfInBounds_toArray, List.set_cons_zero, List.set_cons_succ]
          refine wpAnyH_take (i := 5) (v := undef) rfl (by kernel_rfl) (by kernel_rfl) (by kernel_rfl) (fun _ _ _ h => h) (Or.inr ⟨by rfl, rfl⟩) hHeld ?_
          try simp only [List.getElem_toArray, List.getElem_cons_zero, List.getElem_cons_succ, Act.put, List.setIfInBounds_toArray, List.set_cons_zero, List.set_cons_succ]
          refine wpAnyH_take (i := 6) (v := undef) rfl (by kernel_rfl) (by kernel_rfl) (by kernel_rfl) (fun _ _ _ h => h) (Or.inr ⟨by rfl, rfl⟩) hHeld ?_
          try simp only [List.getElem_toArray, List.getElem_cons_zero, List.getElem_cons_succ, Act.put, List.setIfInBounds_toArray, List.set_cons_zero, List.set_cons_succ]
          refine wpAnyH_take (i := 7) (v := undef) rfl (by kernel_rfl) (by kernel_rfl) (by kernel_rfl) (fun _ _ _ h => h) (Or.inr ⟨by rfl, rfl⟩) hHeld ?_
          try simp only [List.getElem_toArray, List.getElem_cons_zero, List.getElem_cons_succ, Act.put, List.setIfInBounds_toArray, List.set_cons_zero, List.set_cons_succ]
          refine wpAnyH_take (i := 8) (v := undef) rfl (by kernel_rfl) (by kernel_rfl) (by kernel_rfl) (fun _ _ _ h => h) (Or.inr ⟨by rfl, rfl⟩) hHeld ?_
          try simp only [List.getElem_toArray, List.getElem_cons_zero, List.getElem_cons_succ, Act.put, List.setIfInBounds_toArray, List.set_cons_zero, List.set_cons_succ]
          refine wpAnyH_take (i := 9) (v := undef) rfl (by kernel_rfl) (by kernel_rfl) (by kernel_rfl) (fun _ _ _ h => h) (Or.inr ⟨by rfl, rfl⟩) hHeld ?_
          try simp only [List.getElem_toArray, List.getElem_cons_zero, List.getElem_cons_succ, Act.put, List.setIfInBounds_toArray, List.set_cons_zero, List.set_cons_succ]
          refine wpAnyH_take (i := 10) (v := undef) rfl (by kernel_rfl) (by kernel_rfl) (by kernel_rfl) (fun _ _ _ h => h) (Or.inr ⟨by rfl, rfl⟩) hHeld ?_
          try simp only [List.getElem_toArray, List.getElem_cons_zero, List.getElem_cons_succ, Act.put, List.setIfInBounds_toArray, List.set_cons_zero, List.set_cons_succ]
          refine wpAnyH_take (i := 11) (v := undef) rfl (by kernel_rfl) (by kernel_rfl) (by kernel_rfl) (fun _ _ _ h => h) (Or.inr ⟨by rfl, rfl⟩) hHeld ?_
          try simp only [List.getElem_toArray, List.getElem_cons_zero, List.getElem_cons_succ, Act.put, List.setIfInBounds_toArray, List.set_cons_zero, List.set_cons_succ]
          refine wpAnyH_take (i := 12) (v := undef) rfl (by kernel_rfl) (by kernel_rfl) (by kernel_rfl) (fun _ _ _ h => h) (Or.inr ⟨by rfl, rfl⟩) hHeld ?_
          try simp only [List.getElem_toArray, List.getElem_cons_zero, List.getElem_cons_succ, Act.put, List.setIfInBounds_toArray, List.set_cons_zero, List.set_cons_succ]
          refine wpAnyH_take (i := 13) (v := undef) rfl (by kernel_rfl) (by kernel_rfl) (by kernel_rfl) (fun _ _ _ h => h) (Or.inr ⟨by rfl, rfl⟩) hHeld ?_
          try simp only [List.getElem_toArray, List.getElem_cons_zero, List.getElem_cons_succ, Act.put, List.setIfInBounds_toArray, List.set_cons_zero, List.set_cons_succ]
          refine wpAnyH_take (i := 14) (v := undef) rfl (by kernel_rfl) (by kernel_rfl) (by kernel_rfl) (fun _ _ _ h => h) (Or.inr ⟨by rfl, rfl⟩) hHeld ?_
          try simp only [List.getElem_toArray, List.getElem_cons_zero, List.getElem_cons_succ, Act.put, List.setIfInBounds_toArray, List.set_cons_zero, List.set_cons_succ]
          refine wpAnyH_take (i := 15) (v := undef) rfl (by kernel_rfl) (by kernel_rfl) (by kernel_rfl) (fun _ _ _ h => h) (Or.inr ⟨by rfl, rfl⟩) hHeld ?_
          try simp only [List.getElem_toArray, List.getElem_cons_zero, List.getElem_cons_succ, Act.put, List.setIfInBounds_toArray, List.set_cons_zero, List.set_cons_succ]
          refine wpAnyH_take (i := 16) (v := ?v5) rfl (by kernel_rfl) (by kernel_rfl) (by kernel_rfl) (fun _ _ _ h => h) (Or.inl ⟨by rfl, ?hy5⟩) hHeld ?rst5
          case hy5 => (intro wx hSw; (try dsimp only at hSw); go_simp; try (with_reducible rfl))
          try simp only [List.getElem_toArray, List.getElem_cons_zero, List.getElem_cons_succ, Act.put, List.setIfInBounds_toArray, List.set_cons_zero, List.set_cons_succ]
          refine wpAnyH_done (by kernel_rfl) ?_ _
          go_wp2
          have HSD2 := Lib.hid HI2.out.1
          have HSO2 := Lib.hid (hHeld : SO b n dd w _)
          have hout := ins_outer hic (by omega) HSW.out HREST.out HLOW.out HL.out HSD2.out HS3.out
          go_roundg (c + 1 - (i + 1))
          case measure => have := HG.out; omega
          case rel => exact ⟨i + 1, dd, by go_num, rfl, by omega, by omega, HSO2.out.1, HSO2.out.2, hout.1, hout.2.1, hout.2.2.1, hout.2.2.2⟩
    · go_wp2
      go_end0
      exact ⟨rfl, HFR.out, d', HOW.out, HSW.out, HSD.out c (by omega) (Nat.le_refl _)⟩
end Go.Proofs.Ythkoblnfeebafaa
