/- slices.symMergeCmpFunc walked: one element before the rest. Conditions: both parts are in order. -/
import Derived.Test.YthkoblnfeebafaaMd
import Derived.Test.YthkoblnfeebafaaMe
namespace Go.Proofs.Ythkoblnfeebafaa
open Go.RowKit

theorem rotA_step {d : Nat → Int} {a k : Nat} (h : a ≤ k) : upd (upd (rot d a (a + 1) (k + 1)) k (rot d a (a + 1) (k + 1) (k + 1))) (k + 1) (rot d a (a + 1) (k + 1) k) = rot d a (a + 1) (k + 1 + 1) := by
  funext x
  unfold upd rot
  repeat' split
  all_goals first | omega | (congr 1; omega) | rfl
/-- what holds of the halving search: below i the test says yes, from j on no -/
def Hs (P : Nat → Prop) (lo hi i j : Nat) : Prop := lo ≤ i ∧ i ≤ j ∧ j ≤ hi ∧ (∀ h, lo ≤ h → h < i → P h) ∧ (∀ h, j ≤ h → h < hi → ¬ P h)
theorem Hs.start (P : Nat → Prop) {lo hi : Nat} (h : lo ≤ hi) : Hs P lo hi lo hi := ⟨Nat.le_refl _, h, Nat.le_refl _, fun h h1 h2 => by omega, fun h h1 h2 => by omega⟩
theorem Hs.yes {P : Nat → Prop} {lo hi i j : Nat} (hs : Hs P lo hi i j) (hm : ∀ x y, lo ≤ x → x ≤ y → y < hi → P y → P x) {h : Nat} (h1 : i ≤ h) (h2 : h < j) (hp : P h) : Hs P lo hi (h + 1) j := by
  obtain ⟨a1, a2, a3, a4, a5⟩ := hs
  exact ⟨by omega, by omega, a3, fun x x1 x2 => hm x h x1 (by omega) (by omega) hp, a5⟩
theorem Hs.no {P : Nat → Prop} {lo hi i j : Nat} (hs : Hs P lo hi i j) (hm : ∀ x y, lo ≤ x → x ≤ y → y < hi → P y → P x) {h : Nat} (h1 : i ≤ h) (h2 : h < j) (hp : ¬ P h) : Hs P lo hi i h := by
  obtain ⟨a1, a2, a3, a4, a5⟩ := hs
  exact ⟨a1, h1, by omega, a4, fun x x1 x2 hx => hp (hm h x (by omega) x1 x2 hx)⟩

set_option maxRecDepth 100000 in
set_option maxHeartbeats 4000000 in
theorem symA (b n : Nat) (d : Nat → Int) (a c : Nat) (x y z : Int) (q1 q2 q3 : Value) (K : Int → Int) (N : Int) (w0 w : World) (hw : Ow b n d w) (hf : Fr b w0 w) (hcm : Cm b w0 N q1 q2 q3 K) (hn : n ≤ 1000000) (h1 : a + 1 < c) (h2 : c ≤ n)
    (hN : ∀ i, a ≤ i → i < c → 0 ≤ d i ∧ d i < N) (hs2 : Sd K d (a + 1) c) (hl : ∀ j, a + 1 ≤ j → j < c → d a < d j) (hx : x = a) (hy : y = (a + 1 : Nat)) (hz : z = c) :
    Calls Try.prog 113 #[.slice (some ⟨b, 0, none⟩) n n, .int .i64 x, .int .i64 y, .int .i64 z, .func (.func 102) #[] #[q1, q2, q3]] w fun e w' => e = .returned (.tuple #[]) ∧ Fr b w w' ∧ ∃ d', Ow b n d' w' ∧ Sws a c d d' ∧ Sd K d' a c := by
  subst hx hy hz
  have HF := Lib.hid hf
  have HCM := Lib.hid hcm
  have HN := Lib.hid hN
  have HS2 := Lib.hid hs2
  have HL := Lib.hid hl
  have HSO := Lib.hid (show SO b n d w w from ⟨Fr.refl _ _, hw⟩)
  have HMON := Lib.hid (show ∀ x y, a + 1 ≤ x → x ≤ y → y < c → Bf K (d y) (d a) → Bf K (d x) (d a) from fun x y x1 x2 x3 hb => by
    by_cases h : x = y
    · rw [h]; exact hb
    · exact (hs2 x y x1 (by omega) x3).trans hb)
  clear hw hf hcm hN hs2 hl
  have e0 : (a : Int) + 1 - (a : Int) = 1 := by omega
  go_enter Try.func113, Try.ntmps113
  go_wp2
  go_loopg [10, 11] (c - (a + 1)) (fun g z1 z2 wr => ∃ i j : Nat, z1 = .int .i64 i ∧ z2 = .int .i64 j ∧ g = j - i ∧ Hs (fun h => Bf K (d h) (d a)) (a + 1) c i j ∧ SO b n d w wr)
  case atStart => exact ⟨a + 1, c, by go_num, rfl, by omega, Hs.start _ (by omega), HSO.out⟩
  case round =>
    obtain ⟨i, j, rfl, rfl, hg, hhs, hso⟩ := hrel
    have HG := Lib.hid hg
    have HHS := Lib.hid hhs
    have HSO2 := Lib.hid hso
    obtain ⟨u1, u2, u3, -, -⟩ := hhs
    clear hg hso
    by_cases hij : i < j
    · go_upto_region 5 with (fail)
      obtain ⟨h, hh⟩ : ∃ h : Nat, ((i : Int) + (j : Int)) / 2 = (h : Int) := ⟨(i + j) / 2, by omega⟩
      have hh1 : i ≤ h := by omega
      have hh2 : h < j := by omega
      simp only [hh]
      clear hh
      have hin := And.intro (HN.out h (by omega) (by omega)) (HN.out a (Nat.le_refl _) (by omega))
      have hcall := fun W (hW : SO b n d w W) => HCM.out W (HF.out.trans hW.1) (d h) (d a) hin.1.1 hin.1.2 hin.2.1 hin.2.2
      have htest : cv (K (d a)) (K (d h)) < 0 ↔ Bf K (d h) (d a) := by
        rw [cv_neg]
        exact Bf.test (HL.out h (by omega) (by omega))
      have hsc := fun wx (hS : SO b n d w wx) => (show SO b n d w wx ∧ wx.cell? ⟨b, h, none⟩ = some (.int .i64 (d h)) ∧ wx.cell? ⟨b, a, none⟩ = some (.int .i64 (d a)) from ⟨hS, hS.2.cell (by omega), hS.2.cell (by omega)⟩)
      have hyes : Bf K (d h) (d a) → Hs (fun h => Bf K (d h) (d a)) (a + 1) c (h + 1) j := fun hb => HHS.out.yes HMON.out hh1 hh2 hb
      have hno : ¬ Bf K (d h) (d a) → Hs (fun h => Bf K (d h) (d a)) (a + 1) c i h := fun hb => HHS.out.no HMON.out hh1 hh2 hb
      generalize cv (K (d a)) (K (d h)) = s at *
      have HYES := Lib.hid hyes
      have HNO := Lib.hid hno
      have HTEST := Lib.hid htest
      have HSC := Lib.hid hsc
      have HCALL := Lib.hid hcall
      generalize d h = u at *
      generalize d a = v at *
      have i1 : (0 : Int) ≤ (h : Int) := by omega
      have i2 : (h : Int) < (n : Int) := by omega
      have i3 : (0 : Int) ≤ (a : Int) := by omega
      have i4 : (a : Int) < (n : Int) := by omega
      clear hin hcall htest hsc hyes hno
      go_cut [50] (fun z wx => z = .bool (decide (s < 0)) ∧ SO b n d w wx)
      case first =>
        go_region_held3 (fun wx => SO b n d w wx ∧ wx.cell? ⟨b, h, none⟩ = some (.int .i64 u) ∧ wx.cell? ⟨b, a, none⟩ = some (.int .i64 v))
          (first | exact HSC.out _ (SO.call (And.left (by assumption)) (by assumption)) | exact HSC.out _ (SO.call HSO2.out (ext_drew _)))
          ((go_at_call 102; refine (HCALL.out _ ?_).mono ?_; exact And.left (by assumption); rintro e w5 ⟨rfl, hx5⟩; have S5 := SO.call (And.left (by assumption)) hx5))
        all_goals
          go_wp2
          go_meet
          exact ⟨rfl, S5⟩
      case rest =>
        obtain ⟨rfl, hso⟩ := hcut
        by_cases hs : s < 0
        · have HB := Lib.hid (HYES.out (HTEST.out.1 hs))
          have d1 : decide (s < 0) = true := decide_eq_true hs
          go_wp2
          go_roundg (j - (h + 1))
          case measure => have := HG.out; omega
          case rel => exact ⟨h + 1, j, by go_num, rfl, rfl, HB.out, hso⟩
        · have HB := Lib.hid (HNO.out (fun hb => hs (HTEST.out.2 hb)))
          have d1 : decide (s < 0) = false := decide_eq_false hs
          go_wp2
          go_roundg (h - i)
          case measure => have := HG.out; omega
          case rel => exact ⟨i, h, rfl, rfl, rfl, HB.out, hso⟩
    · obtain rfl : i = j := by omega
      have HFIN := Lib.hid (show Sd K (rot d a (a + 1) i) a c from put_first HS2.out u1 u3 HHS.out.2.2.2.1 (fun h x1 x2 => Bf.total (HHS.out.2.2.2.2 h x1 x2) (Int.ne_of_gt (HL.out h (by omega) x2))))
      have HSWS := Lib.hid (show Sws a c d (rot d a (a + 1) i) from (Sws_rot'' d (by omega) u1).mono (Nat.le_refl _) u3)
      clear HMON HCM HHS HG HS2 HL HN
      go_wp2
      go_loopg [13] (i - 1 - a) (fun g z wr => ∃ k : Nat, z = .int .i64 k ∧ a ≤ k ∧ k + 1 ≤ i ∧ g = i - 1 - k ∧ SO b n (rot d a (a + 1) (k + 1)) w wr)
      case atStart => exact ⟨a, rfl, Nat.le_refl _, u1, rfl, by rw [rot_triv (.inr rfl) (by omega) (Nat.le_refl _)]; exact HSO2.out⟩
      case round =>
        obtain ⟨k, rfl, k1, k2, hg, hso⟩ := hrel
        have HG := Lib.hid hg
        have HSO3 := Lib.hid hso
        clear hg
        by_cases hk : k + 1 < i
        · have c1 := hso.2.cell (i := k) (by omega)
          have c2 := hso.2.cell (i := k + 1) (by omega)
          have f1 := hso.2.frozen k
          have f2 := hso.2.frozen (k + 1)
          have hset : SO b n (rot d a (a + 1) (k + 1 + 1)) w ((wr.setCell ⟨b, k, none⟩ (.int .i64 (rot d a (a + 1) (k + 1) (k + 1)))).setCell ⟨b, k + 1, none⟩ (.int .i64 (rot d a (a + 1) (k + 1) k))) := by
            rw [← rotA_step k1]
            exact ⟨(hso.1.set _ _).set _ _, (hso.2.set k _).set (k + 1) _⟩
          have HSET := Lib.hid hset
          generalize rot d a (a + 1) (k + 1) (k + 1) = u at *
          generalize rot d a (a + 1) (k + 1) k = v at *
          have i1 : (0 : Int) ≤ (k : Int) := by omega
          have i2 : (k : Int) < (n : Int) := by omega
          have i3 : (0 : Int) ≤ (k : Int) + 1 := by omega
          have i4 : (k : Int) + 1 < (n : Int) := by omega
          have i5 : (k : Int) < (i : Int) - 1 := by omega
          clear hset hso
          go_wp2
          go_region
          all_goals
            go_wp2
            go_roundg (i - 1 - (k + 1))
            case measure => have := HG.out; omega
            case rel => exact ⟨k + 1, by go_num, by omega, by omega, rfl, HSET.out.call (ext_drew _)⟩
        · have i5 : ¬ (k : Int) < (i : Int) - 1 := by omega
          obtain rfl : i = k + 1 := by omega
          go_wp2
          refine bodyPost_ret (v := .tuple #[]) (by simp [results, Try.results113, go_sem]) rfl ?_
          exact ⟨rfl, HSO3.out.1, _, HSO3.out.2, HSWS.out, HFIN.out⟩
end Go.Proofs.Ythkoblnfeebafaa
