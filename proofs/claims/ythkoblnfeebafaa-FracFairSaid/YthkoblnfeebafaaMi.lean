/- slices.symMergeCmpFunc walked whole at frac.Share's comparison. Conditions: the range lies within the row, its two parts are sorted. -/
import Derived.Test.YthkoblnfeebafaaMg
namespace Go.Proofs.Ythkoblnfeebafaa
open Go.RowKit

/-- where the search goes -/
def lo0 (a m c : Nat) : Nat := if (a + c) / 2 < m then (a + c) / 2 + m - c else a
def hi0 (a m c : Nat) : Nat := if (a + c) / 2 < m then (a + c) / 2 else m
theorem lohi {a m c : Nat} (h1 : a < m) (h2 : m < c) : a ≤ lo0 a m c ∧ lo0 a m c ≤ hi0 a m c ∧ hi0 a m c ≤ m ∧ hi0 a m c ≤ (a + c) / 2 ∧ (a + c) / 2 + m ≤ lo0 a m c + c ∧ (lo0 a m c = a ∨ (a + c) / 2 + m = lo0 a m c + c) ∧ (hi0 a m c = m ∨ hi0 a m c = (a + c) / 2) := by
  unfold lo0 hi0
  split <;> omega
/-- the search's end parts the halves -/
theorem search_end {K : Int → Int} {d : Nat → Int} {a m c s : Nat} (h1 : a < m) (h2 : m < c) (hlt : ∀ i j, a ≤ i → i < m → m ≤ j → j < c → d i < d j)
    (hs : Hs (fun h => ¬ Bf K (d ((a + c) / 2 + m - 1 - h)) (d h)) (lo0 a m c) (hi0 a m c) s s) :
    a ≤ s ∧ s ≤ m ∧ s ≤ (a + c) / 2 ∧ m ≤ (a + c) / 2 + m - s ∧ (a + c) / 2 + m - s ≤ c ∧ (s < m → m < (a + c) / 2 + m - s → Bf K (d ((a + c) / 2 + m - s - 1)) (d s)) ∧
      (a < s → (a + c) / 2 + m - s < c → Bf K (d (s - 1)) (d ((a + c) / 2 + m - s))) := by
  obtain ⟨l1, l2, l3, l4, l5, l6, l7⟩ := lohi h1 h2
  obtain ⟨u1, u2, u3, u4, u5⟩ := hs
  refine ⟨by omega, by omega, by omega, by omega, by omega, fun x1 x2 => ?_, fun x1 x2 => ?_⟩
  · have h := Classical.not_not.1 (u5 s (Nat.le_refl _) (by omega))
    rwa [show (a + c) / 2 + m - 1 - s = (a + c) / 2 + m - s - 1 by omega] at h
  · have h : ¬ Bf K (d ((a + c) / 2 + m - 1 - (s - 1))) (d (s - 1)) := u4 (s - 1) (by omega) (by omega)
    rw [show (a + c) / 2 + m - 1 - (s - 1) = (a + c) / 2 + m - s by omega] at h
    exact Bf.total h (Int.ne_of_gt (hlt _ _ (by omega) (by omega) (by omega) (by omega)))
theorem search_mono {K : Int → Int} {d : Nat → Int} {a m c : Nat} (h1 : a < m) (h2 : m < c) (s1 : Sd K d a m) (s2 : Sd K d m c) :
    ∀ x y, lo0 a m c ≤ x → x ≤ y → y < hi0 a m c → ¬ Bf K (d ((a + c) / 2 + m - 1 - y)) (d y) → ¬ Bf K (d ((a + c) / 2 + m - 1 - x)) (d x) := by
  obtain ⟨l1, l2, l3, l4, l5, l6, l7⟩ := lohi h1 h2
  intro x y x1 x2 x3 hb hc
  by_cases h : x = y
  · subst h; exact hb hc
  · exact hb ((s2 _ _ (by omega) (by omega) (by omega)).trans (hc.trans (s1 x y (by omega) (by omega) (by omega))))

def SymP (b n : Nat) (K : Int → Int) (w : World) (d : Nat → Int) (a c : Nat) (e : Ending) (w' : World) : Prop := e = .returned (.tuple #[]) ∧ Fr b w w' ∧ ∃ d', Ow b n d' w' ∧ Sws a c d d' ∧ Sd K d' a c

set_option maxRecDepth 100000 in
set_option maxHeartbeats 4000000 in
theorem symC (b n : Nat) (d : Nat → Int) (a m c : Nat) (x y z : Int) (q1 q2 q3 : Value) (K : Int → Int) (N : Int) (w0 w : World) (hw : Ow b n d w) (hf : Fr b w0 w) (hcm : Cm b w0 N q1 q2 q3 K) (hn : n ≤ 1000000) (h1 : a + 1 < m) (h2 : m + 1 < c) (h3 : c ≤ n)
    (hN : ∀ i, a ≤ i → i < c → 0 ≤ d i ∧ d i < N) (hs1 : Sd K d a m) (hs2 : Sd K d m c) (hl : ∀ i j, a ≤ i → i < m → m ≤ j → j < c → d i < d j) (hx : x = a) (hy : y = m) (hz : z = c)
    (IH : ∀ (d : Nat → Int) (a' m' c' : Nat) (x y z : Int) (w : World), c' - a' < c - a → a ≤ a' → c' ≤ c → Ow b n d w → Fr b w0 w → a' < m' → m' < c' → (∀ i, a' ≤ i → i < c' → 0 ≤ d i ∧ d i < N) → Sd K d a' m' → Sd K d m' c' → (∀ i j, a' ≤ i → i < m' → m' ≤ j → j < c' → d i < d j) → x = a' → y = m' → z = c' →
      Calls Try.prog 113 #[.slice (some ⟨b, 0, none⟩) n n, .int .i64 x, .int .i64 y, .int .i64 z, .func (.func 102) #[] #[q1, q2, q3]] w (SymP b n K w d a' c')) :
    Calls Try.prog 113 #[.slice (some ⟨b, 0, none⟩) n n, .int .i64 x, .int .i64 y, .int .i64 z, .func (.func 102) #[] #[q1, q2, q3]] w (SymP b n K w d a c) := by
  subst hx hy hz
  have HF := Lib.hid hf
  have HCM := Lib.hid hcm
  have HN := Lib.hid hN
  have HS1 := Lib.hid hs1
  have HS2 := Lib.hid hs2
  have HL := Lib.hid hl
  have HIH := Lib.hid IH
  have HSO := Lib.hid (show SO b n d w w from ⟨Fr.refl _ _, hw⟩)
  have HMON := Lib.hid (search_mono (K := K) (d := d) (by omega) (by omega) hs1 hs2)
  have hLH := lohi (a := a) (m := m) (c := c) (by omega) (by omega)
  have hlo : ((lo0 a m c : Nat) : Int) = if (a + c) / 2 < m then ((a + c) / 2 : Nat) + (m : Int) - c else (a : Int) := by
    unfold lo0
    by_cases h : (a + c) / 2 < m
    · rw [if_pos h, if_pos h]; omega
    · rw [if_neg h, if_neg h]
  have hhi : ((hi0 a m c : Nat) : Int) = if (a + c) / 2 < m then (((a + c) / 2 : Nat) : Int) else (m : Int) := by
    unfold hi0
    by_cases h : (a + c) / 2 < m
    · rw [if_pos h, if_pos h]
    · rw [if_neg h, if_neg h]
  have HEND := Lib.hid (fun s (h : Hs (fun h => ¬ Bf K (d ((a + c) / 2 + m - 1 - h)) (d h)) (lo0 a m c) (hi0 a m c) s s) => search_end (by omega) (by omega) hl h)
  obtain ⟨p, hp⟩ : ∃ p, p = (a + c) / 2 := ⟨_, rfl⟩
  rw [← hp] at hLH hlo hhi HEND HMON
  have hp2 : ((a : Int) + (c : Int)) / 2 = (p : Int) := by omega
  have hp3 : a < p := by omega
  have hp4 : p < c := by omega
  have HP := Lib.hid hp
  generalize lo0 a m c = lo at *
  generalize hi0 a m c = hi at *
  clear hw hf hcm hN hs1 hs2 hl IH hp
  have e0 : ((m : Int) - (a : Int) == 1) = false := by simp; omega
  have e1 : ((c : Int) - (m : Int) == 1) = false := by simp; omega
  have hcs : (p < m ∧ (lo : Int) = (p : Int) + (m : Int) - (c : Int) ∧ hi = p) ∨ (¬ p < m ∧ lo = a ∧ hi = m) := by
    by_cases h : p < m
    · rw [if_pos h] at hlo hhi; exact .inl ⟨h, hlo, by omega⟩
    · rw [if_neg h] at hlo hhi; exact .inr ⟨h, by omega, by omega⟩
  clear hlo hhi
  have HCS := Lib.hid hcs
  have HLH := Lib.hid hLH
  clear hLH
  have hcs2 : ((p : Int) < (m : Int) ∧ (p : Int) + (m : Int) - (c : Int) = (lo : Int)) ∨ (¬ (p : Int) < (m : Int) ∧ lo = lo) := by
    rcases hcs with ⟨h1, h2, h3⟩ | ⟨h1, h2, h3⟩
    · exact .inl ⟨by omega, h2.symm⟩
    · exact .inr ⟨by omega, rfl⟩
  clear hcs
  rcases hcs2 with ⟨i0, hc4⟩ | ⟨i0, hc4⟩
  all_goals
    go_enter Try.func113, Try.ntmps113
    go_wp2
    clear hc4
    obtain ⟨pp, hpp⟩ : ∃ pp : Nat, pp = p + m - 1 := ⟨_, rfl⟩
    have hpp2 : (p : Int) + (m : Int) - 1 = (pp : Int) := by omega
    rw [← hpp] at HMON HEND
    have HPP := Lib.hid hpp
    simp only [hpp2]
    clear hpp hpp2 hp2
    go_loopg [20, 21] (hi - lo) (fun g z1 z2 wr => ∃ i j : Nat, z1 = .int .i64 i ∧ z2 = .int .i64 j ∧ g = j - i ∧ Hs (fun h => ¬ Bf K (d (pp - h)) (d h)) lo hi i j ∧ SO b n d w wr)
    case atStart =>
      have h0 := Hs.start (fun h => ¬ Bf K (d (pp - h)) (d h)) HLH.out.2.1
      first
        | (have h1 : hi = p := by have := HCS.out; omega
           rw [h1] at h0
           exact ⟨lo, p, rfl, rfl, by omega, by rw [h1]; exact h0, HSO.out⟩)
        | (have h1 : lo = a ∧ hi = m := by have := HCS.out; omega
           rw [h1.1, h1.2] at h0
           exact ⟨a, m, rfl, rfl, by omega, by rw [h1.1, h1.2]; exact h0, HSO.out⟩)
    case round =>
      obtain ⟨i, j, rfl, rfl, hg, hhs, hso⟩ := hrel
      have HG := Lib.hid hg
      have HHS := Lib.hid hhs
      have HSO2 := Lib.hid hso
      obtain ⟨u1, u2, u3, -, -⟩ := hhs
      clear hg hso
      by_cases hij : i < j
      · have hjn : j ≤ n := by have := HLH.out; omega
        go_upto_region 35 with (fail)
        obtain ⟨h, hh⟩ : ∃ h : Nat, ((i : Int) + (j : Int)) / 2 = (h : Int) := ⟨(i + j) / 2, by omega⟩
        have hh1 : i ≤ h := by omega
        have hh2 : h < j := by omega
        simp only [hh]
        clear hh
        have hlh := HLH.out
        have hpp := HPP.out
        have hb1 : a ≤ h ∧ h < m ∧ m ≤ pp - h ∧ pp - h < c := by omega
        have hin := And.intro (HN.out (pp - h) (by omega) (by omega)) (HN.out h (by omega) (by omega))
        have hcall := fun W (hW : SO b n d w W) => HCM.out W (HF.out.trans hW.1) (d (pp - h)) (d h) hin.1.1 hin.1.2 hin.2.1 hin.2.2
        have htest : cv (K (d h)) (K (d (pp - h))) < 0 ↔ Bf K (d (pp - h)) (d h) := by
          rw [cv_neg]
          exact Bf.test (HL.out h (pp - h) hb1.1 hb1.2.1 hb1.2.2.1 hb1.2.2.2)
        have hsc := fun wx (hS : SO b n d w wx) => (show SO b n d w wx ∧ wx.cell? ⟨b, pp - h, none⟩ = some (.int .i64 (d (pp - h))) ∧ wx.cell? ⟨b, h, none⟩ = some (.int .i64 (d h)) from ⟨hS, hS.2.cell (by omega), hS.2.cell (by omega)⟩)
        have hyes : ¬ Bf K (d (pp - h)) (d h) → Hs (fun h => ¬ Bf K (d (pp - h)) (d h)) lo hi (h + 1) j := fun hb => HHS.out.yes HMON.out hh1 hh2 hb
        have hno : Bf K (d (pp - h)) (d h) → Hs (fun h => ¬ Bf K (d (pp - h)) (d h)) lo hi i h := fun hb => HHS.out.no HMON.out hh1 hh2 (fun hc => hc hb)
        generalize cv (K (d h)) (K (d (pp - h))) = s at *
        have HYES := Lib.hid hyes
        have HNO := Lib.hid hno
        have HTEST := Lib.hid htest
        obtain ⟨q, hq⟩ : ∃ q, q = pp - h := ⟨_, rfl⟩
        rw [← hq] at hsc hcall
        have HSC := Lib.hid hsc
        have HCALL := Lib.hid hcall
        generalize d h = u at *
        generalize d q = v at *
        have i1 : (0 : Int) ≤ (h : Int) := by omega
        have i2 : (h : Int) < (n : Int) := by omega
        have i3 : (0 : Int) ≤ (q : Int) := by omega
        have i4 : (q : Int) < (n : Int) := by omega
        have i5 : (pp : Int) - (h : Int) = (q : Int) := by omega
        have i6 : IntKind.i64.wrap (q : Int) = (q : Int) := IntWalk.i64_in _ ⟨by omega, by omega⟩
        clear hin hcall htest hsc hyes hno hlh hpp hb1 hq
        go_cut [171] (fun z wx => ∃ t : Bool, z = .bool t ∧ (t = true ↔ ¬ s < 0) ∧ SO b n d w wx)
        case first =>
          go_region_held3 (fun wx => SO b n d w wx ∧ wx.cell? ⟨b, q, none⟩ = some (.int .i64 v) ∧ wx.cell? ⟨b, h, none⟩ = some (.int .i64 u))
            (first | exact HSC.out _ (SO.call (And.left (by assumption)) (by assumption)) | exact HSC.out _ (SO.call HSO2.out (ext_drew _)))
            ((go_at_call 102; refine (HCALL.out _ ?_).mono ?_; exact And.left (by assumption); rintro e w5 ⟨rfl, hx5⟩; have S5 := SO.call (And.left (by assumption)) hx5))
          all_goals
            go_wp2
            go_meet
            exact ⟨_, rfl, by simp, S5⟩
        case rest =>
          obtain ⟨t, rfl, ht, hso⟩ := hcut
          by_cases hs : s < 0
          · have htf : t = false := by cases t with | false => rfl | true => exact absurd hs (ht.1 rfl)
            subst htf
            clear ht
            have HB := Lib.hid (HNO.out (HTEST.out.1 hs))
            go_wp2
            go_roundg (h - i)
            case measure => have := HG.out; omega
            case rel => exact ⟨i, h, rfl, rfl, rfl, HB.out, hso⟩
          · have htf : t = true := ht.2 hs
            subst htf
            clear ht
            have HB := Lib.hid (HYES.out (fun hb => hs (HTEST.out.2 hb)))
            go_wp2
            go_roundg (j - (h + 1))
            case measure => have := HG.out; omega
            case rel => exact ⟨h + 1, j, by go_num, rfl, rfl, HB.out, hso⟩
      · obtain rfl : i = j := by omega
        obtain ⟨t1, t2, t3, t4, t5, t6, t7⟩ := HEND.out i HHS.out
        obtain ⟨E, hE⟩ : ∃ E, E = p + m - i := ⟨_, rfl⟩
        rw [← hE] at t4 t5 t6 t7
        have hE2 : (p : Int) + (m : Int) - (i : Int) = (E : Int) := by omega
        obtain ⟨⟨v1, v2, v3, v4⟩, v5, v6, v7⟩ := halves HS1.out HS2.out HL.out t1 t2 t4 t5 (p := p) (by omega) t6 t7
        have hD := Sws_rot'' d t2 t4
        have hDm := hD.mono t1 t5
        have hDN : ∀ k, a ≤ k → k < c → 0 ≤ rot d i m E k ∧ rot d i m E k < N := hDm.all (P := fun v => 0 ≤ v ∧ v < N) HN.out
        have HROT := Lib.hid (fun (h1 : i < m) (h2 : m < E) => rot_any b n d i m E _ _ _ (.func (.func 102) #[] #[q1, q2, q3]) wr HSO2.out.2 hn h1 h2 (by omega) rfl rfl rfl)
        have HNOROT := Lib.hid (fun (h : ¬ (i < m ∧ m < E)) => (show SO b n (rot d i m E) w wr from by rw [rot_triv (by omega) t2 t4]; exact HSO2.out))
        have HLEFT := Lib.hid (fun W (hW : SO b n (rot d i m E) w W) (l1 : a < i) (l2 : i < p) => (show Calls Try.prog 113 #[.slice (some ⟨b, 0, none⟩) n n, .int .i64 a, .int .i64 i, .int .i64 p, .func (.func 102) #[] #[q1, q2, q3]] W (fun e w' => e = .returned (.tuple #[]) ∧ ∃ d1, SO b n d1 w w' ∧ Sws a p (rot d i m E) d1 ∧ Sd K d1 a p) from
          (HIH.out (rot d i m E) a i p _ _ _ W (by omega) (Nat.le_refl _) (by omega) hW.2 (HF.out.trans hW.1) l1 l2 (fun k k1 k2 => hDN k k1 (by omega)) v1 v2 v5 rfl rfl rfl).mono fun e w' ⟨he, hf, d1, ho, hs, hd⟩ => ⟨he, d1, ⟨hW.1.trans hf, ho⟩, hs, hd⟩))
        have HRIGHT := Lib.hid (fun d1 W (hW : SO b n d1 w W) (hs1 : Sws a p (rot d i m E) d1) (l1 : p < E) (l2 : E < c) => (show Calls Try.prog 113 #[.slice (some ⟨b, 0, none⟩) n n, .int .i64 p, .int .i64 E, .int .i64 c, .func (.func 102) #[] #[q1, q2, q3]] W (fun e w' => e = .returned (.tuple #[]) ∧ ∃ d2, SO b n d2 w w' ∧ Sws p c d1 d2 ∧ Sd K d2 p c) from
          (HIH.out d1 p E c _ _ _ W (by omega) (by omega) (Nat.le_refl _) hW.2 (HF.out.trans hW.1) l1 l2 (fun k k1 k2 => by rw [hs1.outside (by omega)]; exact hDN k (by omega) k2)
            (v3.eq fun k k1 k2 => hs1.outside (by omega)) (v4.eq fun k k1 k2 => hs1.outside (by omega)) (fun x y x1 x2 y1 y2 => by rw [hs1.outside (k := x) (by omega), hs1.outside (k := y) (by omega)]; exact v6 x y x1 x2 y1 y2) rfl rfl rfl).mono fun e w' ⟨he, hf, d2, ho, hs, hd⟩ => ⟨he, d2, ⟨hW.1.trans hf, ho⟩, hs, hd⟩))
        have HNL := Lib.hid (show ¬ (a < i ∧ i < p) → Sd K (rot d i m E) a p from fun h => by
          rcases (show i = a ∨ i = p by omega) with h | h
          · rw [h] at v2 ⊢; exact v2
          · rw [← h]; exact v1)
        have HNR := Lib.hid (show ∀ d1, Sws a p (rot d i m E) d1 → ¬ (p < E ∧ E < c) → Sd K d1 p c from fun d1 hs1 h => by
          rcases (show E = p ∨ E = c by omega) with h | h
          · exact (v4.eq fun k k1 k2 => hs1.outside (by omega)).mono (by omega) (Nat.le_refl _)
          · exact (v3.eq fun k k1 k2 => hs1.outside (by omega)).mono (Nat.le_refl _) (by omega))
        have HJOIN := Lib.hid (show ∀ d1 d2, Sws a p (rot d i m E) d1 → Sd K d1 a p → Sws p c d1 d2 → Sd K d2 p c → Sws a c d d2 ∧ Sd K d2 a c from fun d1 d2 w1 s1 w2 s2 =>
          ⟨(hDm.trans (w1.mono (Nat.le_refl _) (by omega))).trans (w2.mono (by omega) (Nat.le_refl _)), join_sd (by omega) (by omega) v7 w1 s1 w2 s2⟩)
        have hr : (i < m ∧ m < E) ∨ (i < m ∧ ¬ m < E) ∨ ¬ i < m := by omega
        have hl : (a < i ∧ i < p) ∨ (a < i ∧ ¬ i < p) ∨ ¬ a < i := by omega
        have hh : (p < E ∧ E < c) ∨ (p < E ∧ ¬ E < c) ∨ ¬ p < E := by omega
        clear HMON HHS HG v1 v2 v3 v4 v5 v6 v7 hD hDm hDN t1 t2 t3 t4 t5 t6 t7 hE HEND HS1 HS2 HL HIH HCM HN
        rcases hr with ⟨r1, r2⟩ | ⟨r1, r2⟩ | r1 <;> rcases hl with ⟨l1, l2⟩ | ⟨l1, l2⟩ | l1 <;> rcases hh with ⟨g1, g2⟩ | ⟨g1, g2⟩ | g1
        all_goals
          (first | have S7 := HNOROT.out (by omega) | skip)
          go_wp2_with (first
            | (go_at_call 114; refine (HROT.out r1 r2).mono ?_; rintro e w7 ⟨rfl, f7, o7⟩; have S7 : SO b n (rot d i m E) w w7 := ⟨HSO2.out.1.trans f7, o7⟩)
            | (go_at_call_of 113 (Value.int .i64 (a : Int)); refine (HLEFT.out _ S7 l1 l2).mono ?_; rintro e w8 ⟨rfl, d1, S8, hw8, hs8⟩)
            | (go_at_call_of 113 (Value.int .i64 (c : Int)); (first | refine (HRIGHT.out _ _ S8 hw8 g1 g2).mono ?_ | refine (HRIGHT.out _ _ S7 (Sws.refl _) g1 g2).mono ?_); rintro e w9 ⟨rfl, d2, S9, hw9, hs9⟩))
          go_end0
          first
            | exact ⟨rfl, S9.1, _, S9.2, HJOIN.out _ _ hw8 hs8 hw9 hs9⟩
            | exact ⟨rfl, S9.1, _, S9.2, HJOIN.out _ _ (Sws.refl _) (HNL.out (by omega)) hw9 hs9⟩
            | exact ⟨rfl, S8.1, _, S8.2, HJOIN.out _ _ hw8 hs8 (Sws.refl _) (HNR.out _ hw8 (by omega))⟩
            | exact ⟨rfl, S7.1, _, S7.2, HJOIN.out _ _ (Sws.refl _) (HNL.out (by omega)) (Sws.refl _) (HNR.out _ (Sws.refl _) (by omega))⟩

theorem sym_any (b n : Nat) (q1 q2 q3 : Value) (K : Int → Int) (N : Int) (w0 : World) (hcm : Cm b w0 N q1 q2 q3 K) (hn : n ≤ 1000000) : ∀ (g : Nat) (d : Nat → Int) (a m c : Nat) (x y z : Int) (w : World), c - a ≤ g → Ow b n d w → Fr b w0 w → a < m → m < c → c ≤ n →
    (∀ i, a ≤ i → i < c → 0 ≤ d i ∧ d i < N) → Sd K d a m → Sd K d m c → (∀ i j, a ≤ i → i < m → m ≤ j → j < c → d i < d j) → x = a → y = m → z = c →
    Calls Try.prog 113 #[.slice (some ⟨b, 0, none⟩) n n, .int .i64 x, .int .i64 y, .int .i64 z, .func (.func 102) #[] #[q1, q2, q3]] w (SymP b n K w d a c) := by
  intro g
  induction g with
  | zero => intro d a m c x y z w hg; omega
  | succ g ih =>
    intro d a m c x y z w hg hw hf h1 h2 h3 hN hs1 hs2 hl hx hy hz
    by_cases hA : m = a + 1
    · subst hA
      by_cases hB : c = a + 1 + 1
      · exact symA b n d a c x y z q1 q2 q3 K N w0 w hw hf hcm hn (by omega) h3 hN hs2 (fun j j1 j2 => hl a j (Nat.le_refl _) (by omega) j1 j2) hx hy hz
      · exact symA b n d a c x y z q1 q2 q3 K N w0 w hw hf hcm hn (by omega) h3 hN hs2 (fun j j1 j2 => hl a j (Nat.le_refl _) (by omega) j1 j2) hx hy hz
    · by_cases hB : c = m + 1
      · subst hB
        exact symB b n d a m x y z q1 q2 q3 K N w0 w hw hf hcm hn (by omega) h3 hN hs1 (fun i i1 i2 => hl i m i1 i2 (Nat.le_refl _) (by omega)) hx hy hz
      · exact symC b n d a m c x y z q1 q2 q3 K N w0 w hw hf hcm hn (by omega) (by omega) h3 hN hs1 hs2 hl hx hy hz
          (fun d' a' m' c' x y z w hg' ha' hc' hw hf h1 h2 hN hs1 hs2 hl hx hy hz => ih d' a' m' c' x y z w (by omega) hw hf h1 h2 (by omega) hN hs1 hs2 hl hx hy hz)
end Go.Proofs.Ythkoblnfeebafaa
