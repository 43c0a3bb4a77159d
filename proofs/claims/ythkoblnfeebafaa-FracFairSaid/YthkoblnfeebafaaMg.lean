/- slices.symMergeCmpFunc walked: one element behind the rest. Conditions: both parts are in order. -/
import Derived.Test.YthkoblnfeebafaaMf
namespace Go.Proofs.Ythkoblnfeebafaa
open Go.RowKit

theorem rotB_step {d : Nat → Int} {m k : Nat} (h : k + 1 ≤ m) : upd (upd (rot d (k + 1) m (m + 1)) (k + 1) (rot d (k + 1) m (m + 1) k)) k (rot d (k + 1) m (m + 1) (k + 1)) = rot d k m (m + 1) := by
  funext x
  unfold upd rot
  repeat' split
  all_goals first | omega | (congr 1; omega) | rfl

set_option maxRecDepth 100000 in
set_option maxHeartbeats 4000000 in
theorem symB (b n : Nat) (d : Nat → Int) (a m : Nat) (x y z : Int) (q1 q2 q3 : Value) (K : Int → Int) (N : Int) (w0 w : World) (hw : Ow b n d w) (hf : Fr b w0 w) (hcm : Cm b w0 N q1 q2 q3 K) (hn : n ≤ 1000000) (h1 : a + 1 < m) (h2 : m + 1 ≤ n)
    (hN : ∀ i, a ≤ i → i < m + 1 → 0 ≤ d i ∧ d i < N) (hs1 : Sd K d a m) (hl : ∀ i, a ≤ i → i < m → d i < d m) (hx : x = a) (hy : y = m) (hz : z = (m + 1 : Nat)) :
    Calls Try.prog 113 #[.slice (some ⟨b, 0, none⟩) n n, .int .i64 x, .int .i64 y, .int .i64 z, .func (.func 102) #[] #[q1, q2, q3]] w fun e w' => e = .returned (.tuple #[]) ∧ Fr b w w' ∧ ∃ d', Ow b n d' w' ∧ Sws a (m + 1) d d' ∧ Sd K d' a (m + 1) := by
  subst hx hy hz
  have HF := Lib.hid hf
  have HCM := Lib.hid hcm
  have HN := Lib.hid hN
  have HS1 := Lib.hid hs1
  have HL := Lib.hid hl
  have HSO := Lib.hid (show SO b n d w w from ⟨Fr.refl _ _, hw⟩)
  have HMON := Lib.hid (show ∀ x y, a ≤ x → x ≤ y → y < m → ¬ Bf K (d m) (d y) → ¬ Bf K (d m) (d x) from fun x y x1 x2 x3 hb hc => by
    by_cases h : x = y
    · rw [h] at hc; exact hb hc
    · exact hb (hc.trans (hs1 x y x1 (by omega) x3)))
  clear hw hf hcm hN hs1 hl
  have e0 : ((m : Int) - (a : Int) == 1) = false := by simp; omega
  have e1 : (m : Int) + 1 - (m : Int) = 1 := by omega
  go_enter Try.func113, Try.ntmps113
  go_wp2
  go_loopg [14, 15] (m - a) (fun g z1 z2 wr => ∃ i j : Nat, z1 = .int .i64 i ∧ z2 = .int .i64 j ∧ g = j - i ∧ Hs (fun h => ¬ Bf K (d m) (d h)) a m i j ∧ SO b n d w wr)
  case atStart => exact ⟨a, m, rfl, rfl, by omega, Hs.start _ (by omega), HSO.out⟩
  case round =>
    obtain ⟨i, j, rfl, rfl, hg, hhs, hso⟩ := hrel
    have HG := Lib.hid hg
    have HHS := Lib.hid hhs
    have HSO2 := Lib.hid hso
    obtain ⟨u1, u2, u3, -, -⟩ := hhs
    clear hg hso
    by_cases hij : i < j
    · go_upto_region 17 with (fail)
      obtain ⟨h, hh⟩ : ∃ h : Nat, ((i : Int) + (j : Int)) / 2 = (h : Int) := ⟨(i + j) / 2, by omega⟩
      have hh1 : i ≤ h := by omega
      have hh2 : h < j := by omega
      simp only [hh]
      clear hh
      have hin := And.intro (HN.out h (by omega) (by omega)) (HN.out m (by omega) (by omega))
      have hcall := fun W (hW : SO b n d w W) => HCM.out W (HF.out.trans hW.1) (d m) (d h) hin.2.1 hin.2.2 hin.1.1 hin.1.2
      have htest : cv (K (d h)) (K (d m)) < 0 ↔ Bf K (d m) (d h) := by
        rw [cv_neg]
        exact Bf.test (HL.out h (by omega) (by omega))
      have hsc := fun wx (hS : SO b n d w wx) => (show SO b n d w wx ∧ wx.cell? ⟨b, m, none⟩ = some (.int .i64 (d m)) ∧ wx.cell? ⟨b, h, none⟩ = some (.int .i64 (d h)) from ⟨hS, hS.2.cell (by omega), hS.2.cell (by omega)⟩)
      have hyes : ¬ Bf K (d m) (d h) → Hs (fun h => ¬ Bf K (d m) (d h)) a m (h + 1) j := fun hb => HHS.out.yes HMON.out hh1 hh2 hb
      have hno : Bf K (d m) (d h) → Hs (fun h => ¬ Bf K (d m) (d h)) a m i h := fun hb => HHS.out.no HMON.out hh1 hh2 (fun hc => hc hb)
      generalize cv (K (d h)) (K (d m)) = s at *
      have HYES := Lib.hid hyes
      have HNO := Lib.hid hno
      have HTEST := Lib.hid htest
      have HSC := Lib.hid hsc
      have HCALL := Lib.hid hcall
      generalize d h = u at *
      generalize d m = v at *
      have i1 : (0 : Int) ≤ (h : Int) := by omega
      have i2 : (h : Int) < (n : Int) := by omega
      have i3 : (0 : Int) ≤ (m : Int) := by omega
      have i4 : (m : Int) < (n : Int) := by omega
      clear hin hcall htest hsc hyes hno
      go_cut [103] (fun z wx => ∃ t : Bool, z = .bool t ∧ (t = true ↔ ¬ s < 0) ∧ SO b n d w wx)
      case first =>
        go_region_held3 (fun wx => SO b n d w wx ∧ wx.cell? ⟨b, m, none⟩ = some (.int .i64 v) ∧ wx.cell? ⟨b, h, none⟩ = some (.int .i64 u))
          (first | exact HSC.out _ (SO.call (And.left (by assumption)) (by assumption)) | exact HSC.out _ (SO.call HSO2.out (ext_drew _)))
          ((go_at_call 102; refine (HCALL.out _ ?_).mono ?_; exact And.left (by assumption); rintro e w5 ⟨rfl, hx5⟩; have S5 := SO.call (And.left (by assumption)) hx5))
        all_goals
          go_wp2
          go_meet
          exact ⟨_, rfl, by simp, S5⟩
      case rest =>
        obtain ⟨t, rfl, ht, hso⟩ := hcut
        by_cases hs : s < 0
        · have htf : t = false := by cases t with | false => rfl | true => exact absurd hs (ht.1 rfl)
          subst htf
          clear ht
          have HB := Lib.hid (HNO.out (HTEST.out.1 hs))
          go_wp2
          go_roundg (h - i)
          case measure => have := HG.out; omega
          case rel => exact ⟨i, h, rfl, rfl, rfl, HB.out, hso⟩
        · have htf : t = true := ht.2 hs
          subst htf
          clear ht
          have HB := Lib.hid (HYES.out (fun hb => hs (HTEST.out.2 hb)))
          go_wp2
          go_roundg (j - (h + 1))
          case measure => have := HG.out; omega
          case rel => exact ⟨h + 1, j, by go_num, rfl, rfl, HB.out, hso⟩
    · obtain rfl : i = j := by omega
      have HFIN := Lib.hid (show Sd K (rot d i m (m + 1)) a (m + 1) from put_last HS1.out u1 u3 (fun h x1 x2 => Bf.total (HHS.out.2.2.2.1 h x1 x2) (Int.ne_of_gt (HL.out h x1 (by omega)))) (fun h x1 x2 => Classical.not_not.1 (HHS.out.2.2.2.2 h x1 x2)))
      have HSWS := Lib.hid (show Sws a (m + 1) d (rot d i m (m + 1)) from (Sws_rot'' d u3 (by omega)).mono u1 (Nat.le_refl _))
      clear HMON HCM HHS HG HS1 HL HN
      go_wp2
      go_loopg [17] (m - i) (fun g z wr => ∃ k : Nat, z = .int .i64 k ∧ i ≤ k ∧ k ≤ m ∧ g = k - i ∧ SO b n (rot d k m (m + 1)) w wr)
      case atStart => exact ⟨m, rfl, u3, Nat.le_refl _, rfl, by rw [rot_triv (.inl rfl) (Nat.le_refl _) (by omega)]; exact HSO2.out⟩
      case round =>
        obtain ⟨k', rfl, k1, k2, hg, hso⟩ := hrel
        have HG := Lib.hid hg
        have HSO3 := Lib.hid hso
        clear hg
        by_cases hk : i < k'
        · obtain ⟨k, rfl⟩ : ∃ k, k' = k + 1 := ⟨k' - 1, by omega⟩
          have c1 := hso.2.cell (i := k) (by omega)
          have c2 := hso.2.cell (i := k + 1) (by omega)
          have f1 := hso.2.frozen k
          have f2 := hso.2.frozen (k + 1)
          have hset : SO b n (rot d k m (m + 1)) w ((wr.setCell ⟨b, k + 1, none⟩ (.int .i64 (rot d (k + 1) m (m + 1) k))).setCell ⟨b, k, none⟩ (.int .i64 (rot d (k + 1) m (m + 1) (k + 1)))) := by
            rw [← rotB_step k2]
            exact ⟨(hso.1.set _ _).set _ _, (hso.2.set (k + 1) _).set k _⟩
          have HSET := Lib.hid hset
          generalize rot d (k + 1) m (m + 1) (k + 1) = u at *
          generalize rot d (k + 1) m (m + 1) k = v at *
          have i1 : (0 : Int) ≤ (k : Int) := by omega
          have i2 : (k : Int) < (n : Int) := by omega
          have i3 : (0 : Int) ≤ (k : Int) + 1 := by omega
          have i4 : (k : Int) + 1 < (n : Int) := by omega
          have i5 : (i : Int) < (k : Int) + 1 := by omega
          have e8 : IntKind.i64.wrap (k : Int) = (k : Int) := IntWalk.i64_in _ ⟨by omega, by omega⟩
          clear hset hso
          go_wp2
          go_region
          all_goals
            go_wp2
            go_roundg (k - i)
            case measure => have := HG.out; omega
            case rel => exact ⟨k, by go_num, by omega, by omega, rfl, HSET.out.call (ext_drew _)⟩
        · obtain rfl : i = k' := by omega
          go_wp2
          refine bodyPost_ret (v := .tuple #[]) (by simp [results, Try.results113, go_sem]) rfl ?_
          exact ⟨rfl, HSO3.out.1, _, HSO3.out.2, HSWS.out, HFIN.out⟩
end Go.Proofs.Ythkoblnfeebafaa
