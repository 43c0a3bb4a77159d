/- slices.stableCmpFunc and SortStableFunc walked at frac.Share's comparison. Conditions: the row holds 0, 1, .. in order; at most 64. -/
import Derived.Test.YthkoblnfeebafaaMi
import Derived.Test.YthkoblnfeebafaaMk
namespace Go.Proofs.Ythkoblnfeebafaa
open Go.RowKit

set_option maxRecDepth 100000 in
set_option maxHeartbeats 4000000 in
theorem stable_any (b n : Nat) (d0 : Nat → Int) (q1 q2 q3 : Value) (K : Int → Int) (w0 w : World) (hw : Ow b n d0 w) (hf : Fr b w0 w) (hcm : Cm b w0 n q1 q2 q3 K) (hn : n ≤ 64) (hd : ∀ k, k < n → d0 k = k) :
    Calls Try.prog 110 #[.slice (some ⟨b, 0, none⟩) n n, .int .i64 n, .func (.func 102) #[] #[q1, q2, q3]] w (SymP b n K w d0 0 n) := by
  have HF := Lib.hid hf
  have HINS := Lib.hid (fun d a c x y W (hW : SO b n d w W) h1 h2 h3 h4 hx hy => ins_any b n d a c x y q1 q2 q3 K n w0 W hW.2 (hf.trans hW.1) hcm (by omega) h1 h2 h3 h4 hx hy)
  have HSYM := Lib.hid (fun d a m c x y z W (hW : SO b n d w W) h1 h2 h3 h4 h5 h6 h7 hx hy hz => sym_any b n q1 q2 q3 K n w0 hcm (by omega) (c - a) d a m c x y z W (Nat.le_refl _) hW.2 (hf.trans hW.1) h1 h2 h3 h4 h5 h6 h7 hx hy hz)
  have HSO := Lib.hid (show SO b n d0 w w from ⟨Fr.refl _ _, hw⟩)
  have HP0 := Lib.hid (Pm.id 20 n K hd)
  clear hw hf hcm hd
  go_enter Try.func110, Try.ntmps110
  go_wp2
  go_loopg [7, 8] n (fun g z1 z2 wr => ∃ (a : Nat) (d : Nat → Int), z1 = .int .i64 a ∧ z2 = .int .i64 ((a : Int) + 20) ∧ a % 20 = 0 ∧ a ≤ n ∧ g = n - a ∧ Pm 1 20 a n K d ∧ Sws 0 n d0 d ∧ SO b n d w wr)
  case atStart => exact ⟨0, d0, rfl, by go_num, rfl, Nat.zero_le _, rfl, HP0.out, .refl _, HSO.out⟩
  case round =>
    obtain ⟨a, d, rfl, rfl, ha, han, hg, hpm, hsw, hso⟩ := hrel
    have HG := Lib.hid hg
    have HPM := Lib.hid hpm
    have HSW := Lib.hid hsw
    have HSO2 := Lib.hid hso
    clear hg hpm hsw hso
    by_cases hle : a + 20 ≤ n
    · have i1 : (a : Int) + 20 ≤ (n : Int) := by omega
      go_wp2_with (go_at_call 112; refine (HINS.out d a (a + 20) _ _ _ HSO2.out (by omega) hle (HPM.out.rise hle).1 (HPM.out.rise hle).2 (by omega) (by omega)).mono ?_; rintro e w5 ⟨rfl, f5, d5, o5, s5, t5⟩)
      have HP5 := Lib.hid (HPM.out.step (.inl ⟨rfl, rfl⟩) ha (by omega) (.inl ⟨rfl, hle⟩) s5 t5)
      go_roundg (n - (a + 20))
      case measure => have := HG.out; omega
      case rel => exact ⟨a + 20, d5, by go_num, by go_num, by omega, hle, rfl, HP5.out, HSW.out.trans (s5.mono (Nat.zero_le _) hle), HSO2.out.1.trans f5, o5⟩
    · have i1 : ¬ (a : Int) + 20 ≤ (n : Int) := by omega
      go_wp2_with (go_at_call 112; refine (HINS.out d a n _ _ _ HSO2.out han (Nat.le_refl _) (HPM.out.rise (Nat.le_refl _)).1 (HPM.out.rise (Nat.le_refl _)).2 (by omega) (by omega)).mono ?_; rintro e w5 ⟨rfl, f5, d5, o5, s5, t5⟩)
      have HP5 := Lib.hid (Pm.next (u := 40) (HPM.out.step (.inl ⟨rfl, rfl⟩) ha han (.inr ⟨rfl, by omega⟩) s5 t5))
      have HSW5 := Lib.hid (HSW.out.trans (s5.mono (Nat.zero_le _) (Nat.le_refl _)))
      have HSO5 := Lib.hid (show SO b n d5 w w5 from ⟨HSO2.out.1.trans f5, o5⟩)
      clear HPM HSW HSO2 HG f5 o5 s5 t5 i1 hle ha han HP0 HSO HINS
      go_loopg [6] 100 (fun g z wr => ∃ (s : Nat) (S : Int) (d : Nat → Int), z = .int .i64 S ∧ g = 120 - s ∧ ((s = 20 ∧ S = 20 ∧ Pm 20 40 0 n K d) ∨ (s = 40 ∧ S = 40 ∧ Pm 40 80 0 n K d) ∨ (s = 80 ∧ S = 80 ∧ Pm 80 160 0 n K d)) ∧ Sws 0 n d0 d ∧ SO b n d w wr)
      case atStart => exact ⟨20, 20, d5, rfl, rfl, .inl ⟨rfl, rfl, HP5.out⟩, HSW5.out, HSO5.out⟩
      case round =>
        obtain ⟨s, S, d, rfl, hg, hcs, hsw, hso⟩ := hrel
        have HG := Lib.hid hg
        have HSW := Lib.hid hsw
        have HSO2 := Lib.hid hso
        have HCS := Lib.hid hcs
        clear hg hsw hso HP5 HSW5 HSO5
        by_cases hsn : s < n
        · rcases hcs with ⟨rfl, rfl, hpm⟩ | ⟨rfl, rfl, hpm⟩ | ⟨rfl, rfl, hpm⟩
          · have HPM0 := Lib.hid hpm
            have i0 : (20 : Int) < (n : Int) := by omega
            clear hpm HCS
            go_wp2
            go_loopg [7, 8] n (fun g z1 z2 wr => ∃ (a : Nat) (d : Nat → Int), z1 = .int .i64 a ∧ z2 = .int .i64 ((a : Int) + 40) ∧ a % 40 = 0 ∧ a ≤ n ∧ g = n - a ∧ Pm 20 40 a n K d ∧ Sws 0 n d0 d ∧ SO b n d w wr)
            case atStart => exact ⟨0, d, rfl, by go_num, rfl, Nat.zero_le _, rfl, HPM0.out, HSW.out, HSO2.out⟩
            case round =>
              obtain ⟨a, d, rfl, rfl, ha, han, hg, hpm, hsw, hso⟩ := hrel
              have HG2 := Lib.hid hg
              have HPM := Lib.hid hpm
              have HSW3 := Lib.hid hsw
              have HSO3 := Lib.hid hso
              clear hg hpm hsw hso
              by_cases hle : a + 40 ≤ n
              · have i1 : (a : Int) + 40 ≤ (n : Int) := by omega
                have HM := Lib.hid (HPM.out.merge (m := a + 20) (c := a + 40) (.inl ⟨rfl, rfl⟩) ha rfl (by omega) (Nat.le_refl _) hle)
                go_wp2_with (go_at_call 113; refine (HSYM.out d a (a + 20) (a + 40) _ _ _ _ HSO3.out (by omega) (by omega) hle HM.out.1 HM.out.2.1 HM.out.2.2.1 HM.out.2.2.2 (by omega) (by omega) (by omega)).mono ?_; rintro e w6 ⟨rfl, f6, d6, o6, s6, t6⟩)
                have HP6 := Lib.hid (HPM.out.step (.inr (.inl ⟨rfl, rfl⟩)) ha (by omega) (.inl ⟨rfl, hle⟩) s6 t6)
                go_roundg (n - (a + 40))
                case measure => have := HG2.out; omega
                case rel => exact ⟨a + 40, d6, by go_num, by go_num, by omega, hle, rfl, HP6.out, HSW3.out.trans (s6.mono (Nat.zero_le _) hle), HSO3.out.1.trans f6, o6⟩
              · have i1 : ¬ (a : Int) + 40 ≤ (n : Int) := by omega
                by_cases hm : a + 20 < n
                · have i2 : (a : Int) + 20 < (n : Int) := by omega
                  have HM := Lib.hid (HPM.out.merge (m := a + 20) (c := n) (.inl ⟨rfl, rfl⟩) ha rfl hm (by omega) (Nat.le_refl _))
                  go_wp2_with (go_at_call 113; refine (HSYM.out d a (a + 20) n _ _ _ _ HSO3.out (by omega) hm (Nat.le_refl _) HM.out.1 HM.out.2.1 HM.out.2.2.1 HM.out.2.2.2 (by omega) (by omega) (by omega)).mono ?_; rintro e w6 ⟨rfl, f6, d6, o6, s6, t6⟩)
                  have HP7 := Lib.hid (Pm.next (u := 80) (HPM.out.step (.inr (.inl ⟨rfl, rfl⟩)) ha han (.inr ⟨rfl, by omega⟩) s6 t6))
                  go_roundg (120 - 40)
                  case measure => have := HG.out; omega
                  case rel => exact ⟨40, 40, _, by go_num, rfl, .inr (.inl ⟨rfl, rfl, HP7.out⟩), HSW3.out.trans (s6.mono (Nat.zero_le _) (Nat.le_refl _)), ⟨HSO3.out.1.trans f6, o6⟩⟩
                · have i2 : ¬ (a : Int) + 20 < (n : Int) := by omega
                  have HP7 := Lib.hid (Pm.next (u := 80) (HPM.out.step (.inr (.inl ⟨rfl, rfl⟩)) ha han (.inr ⟨rfl, by omega⟩) (.refl _) (fun i j x1 x2 x3 => (HPM.out.2 i j x2 x3).2 x1 (by omega))))
                  go_wp2
                  go_roundg (120 - 40)
                  case measure => have := HG.out; omega
                  case rel => exact ⟨40, 40, _, by go_num, rfl, .inr (.inl ⟨rfl, rfl, HP7.out⟩), HSW3.out, HSO3.out⟩
          · have HPM0 := Lib.hid hpm
            have i0 : (40 : Int) < (n : Int) := by omega
            clear hpm HCS
            go_wp2
            go_loopg [7, 8] n (fun g z1 z2 wr => ∃ (a : Nat) (d : Nat → Int), z1 = .int .i64 a ∧ z2 = .int .i64 ((a : Int) + 80) ∧ a % 80 = 0 ∧ a ≤ n ∧ g = n - a ∧ Pm 40 80 a n K d ∧ Sws 0 n d0 d ∧ SO b n d w wr)
            case atStart => exact ⟨0, d, rfl, by go_num, rfl, Nat.zero_le _, rfl, HPM0.out, HSW.out, HSO2.out⟩
            case round =>
              obtain ⟨a, d, rfl, rfl, ha, han, hg, hpm, hsw, hso⟩ := hrel
              have HG2 := Lib.hid hg
              have HPM := Lib.hid hpm
              have HSW3 := Lib.hid hsw
              have HSO3 := Lib.hid hso
              clear hg hpm hsw hso
              by_cases hle : a + 80 ≤ n
              · have i1 : (a : Int) + 80 ≤ (n : Int) := by omega
                have HM := Lib.hid (HPM.out.merge (m := a + 40) (c := a + 80) (.inr ⟨rfl, rfl⟩) ha rfl (by omega) (Nat.le_refl _) hle)
                go_wp2_with (go_at_call 113; refine (HSYM.out d a (a + 40) (a + 80) _ _ _ _ HSO3.out (by omega) (by omega) hle HM.out.1 HM.out.2.1 HM.out.2.2.1 HM.out.2.2.2 (by omega) (by omega) (by omega)).mono ?_; rintro e w6 ⟨rfl, f6, d6, o6, s6, t6⟩)
                have HP6 := Lib.hid (HPM.out.step (.inr (.inr ⟨rfl, rfl⟩)) ha (by omega) (.inl ⟨rfl, hle⟩) s6 t6)
                go_roundg (n - (a + 80))
                case measure => have := HG2.out; omega
                case rel => exact ⟨a + 80, d6, by go_num, by go_num, by omega, hle, rfl, HP6.out, HSW3.out.trans (s6.mono (Nat.zero_le _) hle), HSO3.out.1.trans f6, o6⟩
              · have i1 : ¬ (a : Int) + 80 ≤ (n : Int) := by omega
                by_cases hm : a + 40 < n
                · have i2 : (a : Int) + 40 < (n : Int) := by omega
                  have HM := Lib.hid (HPM.out.merge (m := a + 40) (c := n) (.inr ⟨rfl, rfl⟩) ha rfl hm (by omega) (Nat.le_refl _))
                  go_wp2_with (go_at_call 113; refine (HSYM.out d a (a + 40) n _ _ _ _ HSO3.out (by omega) hm (Nat.le_refl _) HM.out.1 HM.out.2.1 HM.out.2.2.1 HM.out.2.2.2 (by omega) (by omega) (by omega)).mono ?_; rintro e w6 ⟨rfl, f6, d6, o6, s6, t6⟩)
                  have HP7 := Lib.hid (Pm.next (u := 160) (HPM.out.step (.inr (.inr ⟨rfl, rfl⟩)) ha han (.inr ⟨rfl, by omega⟩) s6 t6))
                  go_roundg (120 - 80)
                  case measure => have := HG.out; omega
                  case rel => exact ⟨80, 80, _, by go_num, rfl, .inr (.inr ⟨rfl, rfl, HP7.out⟩), HSW3.out.trans (s6.mono (Nat.zero_le _) (Nat.le_refl _)), ⟨HSO3.out.1.trans f6, o6⟩⟩
                · have i2 : ¬ (a : Int) + 40 < (n : Int) := by omega
                  have HP7 := Lib.hid (Pm.next (u := 160) (HPM.out.step (.inr (.inr ⟨rfl, rfl⟩)) ha han (.inr ⟨rfl, by omega⟩) (.refl _) (fun i j x1 x2 x3 => (HPM.out.2 i j x2 x3).2 x1 (by omega))))
                  go_wp2
                  go_roundg (120 - 80)
                  case measure => have := HG.out; omega
                  case rel => exact ⟨80, 80, _, by go_num, rfl, .inr (.inr ⟨rfl, rfl, HP7.out⟩), HSW3.out, HSO3.out⟩
          · omega
        · have hfin : Sd K d 0 n := by
            rcases HCS.out with ⟨h, _, hp⟩ | ⟨h, _, hp⟩ | ⟨h, _, hp⟩
            · exact hp.done (by omega)
            · exact hp.done (by omega)
            · exact hp.done (by omega)
          have HFIN := Lib.hid hfin
          have i0 : ¬ S < (n : Int) := by
            have h := HCS.out
            clear HCS
            rcases h with ⟨h, h', _⟩ | ⟨h, h', _⟩ | ⟨h, h', _⟩ <;> omega
          clear hfin hcs HCS
          go_wp2
          go_end0
          exact ⟨rfl, HSO2.out.1, d, HSO2.out.2, HSW.out, HFIN.out⟩

set_option maxHeartbeats 1000000 in
theorem sort_any (b n : Nat) (d0 : Nat → Int) (q1 q2 q3 : Value) (K : Int → Int) (w0 w : World) (hw : Ow b n d0 w) (hf : Fr b w0 w) (hcm : Cm b w0 n q1 q2 q3 K) (hn : n ≤ 64) (hd : ∀ k, k < n → d0 k = k) :
    Calls Try.prog 101 #[.slice (some ⟨b, 0, none⟩) n n, .func (.func 102) #[] #[q1, q2, q3]] w (SymP b n K w d0 0 n) := by
  have HS := Lib.hid (stable_any b n d0 q1 q2 q3 K w0 w hw hf hcm hn hd)
  clear hw hf hcm hd
  go_enter Try.func101, Try.ntmps101
  go_wp2_with (go_at_call 110; refine HS.out.mono ?_; rintro e w5 ⟨rfl, f5, d5, o5, s5, t5⟩)
  go_end0
  exact ⟨rfl, f5, d5, o5, s5, t5⟩
end Go.Proofs.Ythkoblnfeebafaa
