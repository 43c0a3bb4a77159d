/- The reference's Blend walked. Conditions: the slices read as lists of fractions and of ints, within int. -/
import Derived.Test.YthkoblnfeebafaaKa
import Derived.Deep.DeepCutAuto
namespace Go.Proofs.Ythkoblnfeebafaa
open Go.RowKit

set_option maxRecDepth 100000 in
set_option maxHeartbeats 4000000 in
theorem rblend_any (A B : Option Addr) (cap cap2 : Nat) (l : List (Int × Int)) (v : List Int) (w : World) (hl : l.length ≤ 9223372036854775807) (hl2 : v.length ≤ 9223372036854775807) (h : FSl w A l) (h2 : ISl w B v) (hi : ∀ x ∈ l, IsI x.1 ∧ IsI x.2) (hi2 : ∀ x ∈ v, IsI x) :
    Calls Try.prog 56 #[.slice A l.length cap, .slice B v.length cap2] w (RetA w (blA l v)) := by
  have HI := Lib.hid hi
  have HI2 := Lib.hid hi2
  have H := Lib.hid h
  have H2 := Lib.hid h2
  have H0 := Lib.hid (h.ext ((Below.refl _ _).alloc (Nat.le_refl _) (.cells #[.int .i64 0, .int .i64 0] 23)))
  clear h h2 hi2
  by_cases h64 : 64 < l.length
  · rw [blA_size (.inl h64)]
    clear hi
    go_enter Try.func56, Try.ntmps56
    go_wp2
    refine bodyPost_ret (v := .tuple #[.agg #[.int .i64 0, .int .i64 0], .int .i64 3]) (by simp [results, Try.results56, go_sem]) rfl ?_
    exact ⟨rfl, (Below.refl _ _).alloc (Nat.le_refl _) _⟩
  by_cases h64' : 64 < v.length
  · rw [blA_size (.inr h64')]
    clear hi
    go_enter Try.func56, Try.ntmps56
    go_wp2
    refine bodyPost_ret (v := .tuple #[.agg #[.int .i64 0, .int .i64 0], .int .i64 3]) (by simp [results, Try.results56, go_sem]) rfl ?_
    exact ⟨rfl, (Below.refl _ _).alloc (Nat.le_refl _) _⟩
  by_cases hln : l.length = v.length
  case neg =>
    rw [blA_arg (by omega) (.inl hln)]
    clear hi
    have hne : ((l.length : Int) == (v.length : Int)) = false := by simp; omega
    go_enter Try.func56, Try.ntmps56
    go_wp2
    refine bodyPost_ret (v := .tuple #[.agg #[.int .i64 0, .int .i64 0], .int .i64 2]) (by simp [results, Try.results56, go_sem]) rfl ?_
    exact ⟨rfl, (Below.refl _ _).alloc (Nat.le_refl _) _⟩
  have hv := fun W (h : FSl W A l) => rall_any A cap l W (by omega) h hi
  clear hl hl2 hi
  have hsz : ¬ (64 < l.length ∨ 64 < v.length) := by omega
  cases hall : AllV l
  · rw [blA_arg hsz (.inr hall)]
    rw [hall] at hv
    have HV := Lib.hid hv
    clear hv hall hsz h64'
    rw [← hln]
    clear hln
    go_enter Try.func56, Try.ntmps56
    go_wp2_with (go_at_call 81; refine (HV.out _ H0.out).mono ?_; rintro e w1 ⟨rfl, hx1⟩; obtain ⟨k1, k2, k3⟩ := new_cell hx1)
    refine bodyPost_ret (v := .tuple #[.agg #[.int .i64 0, .int .i64 0], .int .i64 2]) (by simp [results, Try.results56, go_sem, k1]) rfl ?_
    exact ⟨rfl, below2 (ext_trans ((Below.refl _ _).alloc (Nat.le_refl _) _) hx1) (by omega) _ _⟩
  · rw [hall] at hv
    have HV := Lib.hid hv
    obtain ⟨m1, m2, m3, m4⟩ := blA_main hsz (by rw [hall]; simpa using hln)
    have M1 := Lib.hid m1
    have M2 := Lib.hid m2
    have M3 := Lib.hid m3
    have M4 := Lib.hid m4
    generalize blA l v = res at *
    rw [← hln]
    have HLN := Lib.hid hln
    clear hv hall m1 m2 m3 m4 hsz h64' hln
    go_enter Try.func56, Try.ntmps56
    go_wp2_with (go_at_call 81; refine (HV.out _ H0.out).mono ?_; rintro e w1 ⟨rfl, hx1⟩; have R0 := (Ce.new (T := 23) w (.int .i64 0) (.int .i64 0)).ext hx1; have B0 := ext_trans ((Below.refl _ _).alloc (Nat.le_refl _) _) hx1)
    have HB0 := Lib.hid B0
    have HR0 := Lib.hid R0
    clear hx1 B0 R0
    go_loopg [6, 36] l.length (fun g z6 i wr => ∃ k : Nat, ∃ s : Int, i = .int .i64 k ∧ z6 = .int .i64 s ∧ k ≤ l.length ∧ g = l.length - k ∧ s = (v.take k).sum ∧ 0 ≤ s ∧ s ≤ k * 1000000 ∧ (∀ j (hj : j < v.length), j < k → 0 ≤ v[j] ∧ v[j] ≤ 1000000) ∧ wr = w1)
    case atStart => exact ⟨0, 0, rfl, rfl, by omega, by omega, by simp, by omega, by omega, fun j hj h => absurd h (by omega), rfl⟩
    case round =>
      obtain ⟨k, s, rfl, rfl, hk, hg, hs, s0, s1, hall, rfl⟩ := hrel
      have HG := Lib.hid hg
      have HALL := Lib.hid hall
      have HS := Lib.hid hs
      clear hg hall hs
      by_cases hlt : k < l.length
      · have hltv : k < v.length := by have := HLN.out; omega
        have hf := H2.out.ext HB0.out
        rcases hf with hf | ⟨b, off, rfl, hblt, hc⟩
        · rw [hf] at hltv; simp at hltv
        · have c1 := hc k hltv
          obtain ⟨x, hx⟩ : ∃ x, x = v[k] := ⟨_, rfl⟩
          rw [← hx] at c1
          have HX := Lib.hid hx
          obtain ⟨r1, r2, r3⟩ := HR0.out.facts
          clear hx hc
          have i1 : (k : Int) < (l.length : Int) := by omega
          by_cases hx0 : x < 0
          · have d1 : decide (x < 0) = true := decide_eq_true hx0
            go_wp2
            refine bodyPost_ret (v := .tuple #[.agg #[.int .i64 0, .int .i64 0], .int .i64 2]) (by simp [results, Try.results56, go_sem, r1]) rfl ?_
            rw [M1.out ⟨k, hltv, .inl (by rw [← HX.out]; exact hx0)⟩]
            exact ⟨rfl, below2 HB0.out (Nat.le_refl _) _ _⟩
          · have d1 : decide (x < 0) = false := decide_eq_false hx0
            by_cases hx1 : 1000000 < x
            · have d2 : decide (1000000 < x) = true := decide_eq_true hx1
              go_wp2
              refine bodyPost_ret (v := .tuple #[.agg #[.int .i64 0, .int .i64 0], .int .i64 2]) (by simp [results, Try.results56, go_sem, r1]) rfl ?_
              rw [M1.out ⟨k, hltv, .inr (by rw [← HX.out]; exact hx1)⟩]
              exact ⟨rfl, below2 HB0.out (Nat.le_refl _) _ _⟩
            · have d2 : decide (1000000 < x) = false := decide_eq_false hx1
              have k64 : k ≤ 64 := by omega
              go_wp2
              go_roundg (l.length - (k + 1))
              case measure => have := HG.out; omega
              case rel =>
                refine ⟨k + 1, s + x, by go_num, rfl, by omega, rfl, by rw [sum_take hltv, ← HX.out, ← HS.out], by omega, by omega, fun j hj hjk => ?_, rfl⟩
                by_cases hjk2 : j = k
                · subst hjk2
                  rw [← HX.out]; omega
                · exact HALL.out j hj (by omega)
      · have hkl : k = l.length := by omega
        have hwb : ¬ WBad v := by
          rintro ⟨j, hj, hb⟩
          have := HALL.out j hj (by have := HLN.out; omega)
          omega
        have hsum : s = v.sum := by rw [HS.out, List.take_of_length_le (by have := HLN.out; omega)]
        have N2 := Lib.hid (M2.out hwb)
        have N3 := Lib.hid (M3.out hwb)
        have N4 := Lib.hid (M4.out hwb)
        clear M1 M2 M3 M4 hwb HALL HS HG
        rw [← hsum] at N2 N3 N4
        have HSU := Lib.hid hsum
        clear hsum
        obtain ⟨r1, r2, r3⟩ := HR0.out.facts
        by_cases hs0 : s = 0
        · subst hs0
          go_wp2
          refine bodyPost_ret (v := .tuple #[.agg #[.int .i64 0, .int .i64 0], .int .i64 4]) (by simp [results, Try.results56, go_sem, r1]) rfl ?_
          rw [N2.out (by first | exact HSU.out.symm | trivial | rfl)]
          exact ⟨rfl, below2 HB0.out (Nat.le_refl _) _ _⟩
        · have hs0' : (s == 0) = false := by simpa using hs0
          have P3 := Lib.hid (N3.out hs0)
          have P4 := Lib.hid (N4.out hs0)
          have HSS := Lib.hid (show s ≤ 64000000 by omega)
          clear N2 N3 N4 HSU hkl
          go_wp2
          have R1 := HR0.out.alloc (.cells #[.int .i64 0, .int .i64 1] 23)
          have T1 := Ce.new (T := 23) wr (.int .i64 0) (.int .i64 1)
          have B1 := HB0.out.alloc HB0.out.size (.cells #[.int .i64 0, .int .i64 1] 23)
          have hz1 : w.heap.size < wr.heap.size := r3
          generalize wr.alloc (.cells #[.int .i64 0, .int .i64 1] 23) = wl at *
          generalize wr.heap.size = gs at *
          have HB1 := Lib.hid B1
          have HR1 := Lib.hid R1
          have HT1 := Lib.hid T1
          clear r1 r2 r3 B1 R1 T1 HB0 HR0 HV H0
          go_loopg [57] l.length (fun g i wr => ∃ k : Nat, ∃ x y : Int, i = .int .i64 k ∧ k ≤ l.length ∧ g = l.length - k ∧ blL x y (l.drop k) (v.drop k) = blL 0 1 l v ∧ IsI x ∧ IsI y ∧ Below w.heap.size w wr ∧ Ce 23 wr w.heap.size (.int .i64 0) (.int .i64 0) ∧ Ce 23 wr gs (.int .i64 x) (.int .i64 y))
          case atStart => exact ⟨0, 0, 1, rfl, by omega, by omega, rfl, ⟨by decide, by decide⟩, ⟨by decide, by decide⟩, HB1.out, HR1.out, HT1.out⟩
          case round =>
            obtain ⟨k, x, y, rfl, hk, hg, hsum, hx, hy, hb, hr, hs⟩ := hrel
            have HG := Lib.hid hg
            have HSUM := Lib.hid hsum
            have HX := Lib.hid hx
            have HY := Lib.hid hy
            clear hg hsum hx hy
            obtain ⟨r1, r2, r3⟩ := hr.facts
            obtain ⟨s1, s2, s3⟩ := hs.facts
            by_cases hlt : k < l.length
            · have hltv : k < v.length := by have := HLN.out; omega
              have hf := H.out.ext hb
              have hf' := H2.out.ext hb
              rcases hf with hf | ⟨b, off, rfl, hblt, hc⟩
              · rw [hf] at hlt; simp at hlt
              · rcases hf' with hf' | ⟨b', off', rfl, hblt', hc'⟩
                · rw [hf'] at hltv; simp at hltv
                · obtain ⟨c1, c2⟩ := hc k hlt
                  have c3 := hc' k hltv
                  obtain ⟨i1, i2⟩ := HI.out l[k] (List.getElem_mem hlt)
                  have i3 := HI2.out v[k] (List.getElem_mem hltv)
                  obtain ⟨⟨m1, m2, m3⟩, hm⟩ : ∃ m, two l[k].1 l[k].2 v[k] 1 (rat l[k].1 l[k].2 * rat v[k] 1) = m := ⟨_, rfl⟩
                  have hmul := fun W => rmul_any l[k].1 l[k].2 v[k] 1 W i1 i2 i3 ⟨by decide, by decide⟩
                  have hmi := two_isI l[k].1 l[k].2 v[k] 1 (rat l[k].1 l[k].2 * rat v[k] 1)
                  obtain ⟨⟨t1, t2, t3⟩, ht⟩ : ∃ t, two x y m1 m2 (rat x y + rat m1 m2) = t := ⟨_, rfl⟩
                  have hst := blL_step hlt hltv hm ht
                  rw [hm] at hmul hmi
                  have hadd := fun W => radd_any x y m1 m2 W HX.out HY.out hmi.1 hmi.2
                  have hti := two_isI x y m1 m2 (rat x y + rat m1 m2)
                  rw [ht] at hadd hti
                  unfold RetA frv at hmul hadd
                  have HST := Lib.hid hst
                  have HTI := Lib.hid hti
                  generalize l[k].1 = u at *
                  generalize l[k].2 = u' at *
                  generalize v[k] = z at *
                  have HM := Lib.hid hmul
                  have HA := Lib.hid hadd
                  have j1 : (k : Int) < (l.length : Int) := by omega
                  clear ht hst hti hmi hm i1 i2 i3 hc hc' hmul hadd
                  go_upto_region 19 with (fail)
                  have F4 := Ce.new (T := 23) wr (.int .i64 u) (.int .i64 u')
                  have R4 := hr.alloc (.cells #[.int .i64 u, .int .i64 u'] 23)
                  have S4 := hs.alloc (.cells #[.int .i64 u, .int .i64 u'] 23)
                  have B4 := hb.alloc hb.size (.cells #[.int .i64 u, .int .i64 u'] 23)
                  have c4 : (wr.alloc (.cells #[.int .i64 u, .int .i64 u'] 23)).cell? ⟨b', off' + k, none⟩ = some (.int .i64 z) := by
                    rw [World.cell?_alloc_lt _ _ _ hblt']; exact c3
                  have hb4' : b' < (wr.alloc (.cells #[.int .i64 u, .int .i64 u'] 23)).heap.size := by simp; omega
                  clear r1 r2 r3 s1 s2 s3 c1 c2 c3 hr hs hb hblt hblt'
                  generalize wr.alloc (.cells #[.int .i64 u, .int .i64 u'] 23) = w4 at *
                  generalize wr.heap.size = g4 at *
                  have HF4 := Lib.hid F4
                  have HC4 := Lib.hid (And.intro c4 hb4')
                  have HRSB := Lib.hid (And.intro R4 (And.intro S4 B4))
                  clear F4 R4 S4 B4 c4 hb4'
                  go_cut [12, 13] (fun z12 z13 wx => ∃ g : Nat, z12 = .pointer (some ⟨g, 0, none⟩) ∧ z13 = .int .i64 m3 ∧ w4.heap.size ≤ g ∧ Below w4.heap.size w4 wx ∧ Ce 23 wx g (.int .i64 m1) (.int .i64 m2))
                  case first =>
                    have hSS : ∀ wx, Below w4.heap.size w4 wx → (Below w4.heap.size w4 wx ∧ (wx.cell? ⟨g4, 0, none⟩ = some (.int .i64 u) ∧ wx.cell? ⟨g4, 1, none⟩ = some (.int .i64 u')) ∧ wx.cell? ⟨b', off' + k, none⟩ = some (.int .i64 z)) :=
                      fun wx h => ⟨h, ⟨(HF4.out.ext h).facts.1 0, (HF4.out.ext h).facts.1 1⟩, (h.cell (p := ⟨b', off' + k, none⟩) HC4.out.2).trans HC4.out.1⟩
                    have HSS := Lib.hid hSS
                    clear hSS HG HSUM HX HY HST HTI HA P3 P4 HRSB HB1 HR1 HT1 HI HI2 H H2
                    go_region_held3 (fun wx => Below w4.heap.size w4 wx ∧ (wx.cell? ⟨g4, 0, none⟩ = some (.int .i64 u) ∧ wx.cell? ⟨g4, 1, none⟩ = some (.int .i64 u')) ∧ wx.cell? ⟨b', off' + k, none⟩ = some (.int .i64 z))
                      (first | assumption | exact HSS.out _ (ext_trans (And.left (by assumption)) (by assumption)) | exact HSS.out _ (ext_drew _) | exact HSS.out _ (((Below.refl _ _).alloc (Nat.le_refl _) _).drew) | exact HSS.out _ ((And.left (by assumption) : Below w4.heap.size w4 _).alloc (Below.size (And.left (by assumption) : Below w4.heap.size w4 _)) _) | exact HSS.out _ (Below.alloc (by assumption) (Below.size (by assumption)) _) | exact HSS.out _ (below2 (by assumption) (Below.size (by assumption)) _ _) | exact HSS.out _ (below2 (by assumption) (Nat.le_refl _) _ _))
                      ((go_at_call 60; refine (HM.out _).mono ?_; rintro e w5 ⟨rfl, hx5⟩; have hb5 := ext_trans (And.left (by assumption) : Below w4.heap.size w4 _) hx5; (first | (have NB := (Ce.new (T := 23) _ (.int .i64 0) (.int .i64 0)).ext hx5; obtain ⟨n1, n2, n3⟩ := NB.facts) | (have NB := Ce.ext (w := World.drew _) (Ce.new (T := 23) _ (.int .i64 0) (.int .i64 0)) hx5; obtain ⟨n1, n2, n3⟩ := NB.facts) | skip)))
                    all_goals
                      have j3 := hb5.size
                      go_wp2
                      go_meet
                      first
                        | exact ⟨_, rfl, rfl, by omega, below2 hb5 (by omega) _ _, NB.set2 _ _⟩
                        | exact ⟨_, rfl, rfl, by omega, hb5.alloc (by omega) _, Ce.new _ _ _⟩
                  case rest =>
                    obtain ⟨g, rfl, rfl, hg, hb6, M6⟩ := hcut
                    have R6 := HRSB.out.1.ext hb6
                    have S6 := HRSB.out.2.1.ext hb6
                    have B6 := bext HRSB.out.2.2 hb6 HRSB.out.2.2.size
                    obtain ⟨r1, r2, r3⟩ := R6.facts
                    obtain ⟨s1, s2, s3⟩ := S6.facts
                    obtain ⟨n1, n2, n3⟩ := M6.facts
                    have hz4 := HRSB.out.1.facts.2.2
                    clear HRSB HC4 HF4 HM
                    by_cases h0 : m3 = 0
                    · subst h0
                      by_cases h1 : t3 = 0
                      · subst h1
                        go_wp2_with (go_at_call 58; refine (HA.out _).mono ?_; rintro e w7 ⟨rfl, hx7⟩; have R7 := R6.ext hx7; have S7 := S6.ext hx7; have B7 := bext B6 hx7 B6.size; obtain ⟨r1, r2, r3⟩ := R7.facts; obtain ⟨s1, s2, s3⟩ := S7.facts)
                        go_roundg (l.length - (k + 1))
                        case measure => have := HG.out; omega
                        case rel =>
                          refine ⟨k + 1, t1, t2, by go_num, by omega, rfl, ?_, HTI.out.1, HTI.out.2, bset2 B7 (by omega) _ _, R7.set_ne' (by omega) _ _, S7.set2 _ _⟩
                          rw [← HSUM.out, HST.out]
                          simp
                      · have h1' : (t3 == 0) = false := by simpa using h1
                        have hres : res = (0, 0, t3) := by
                          have e : blL 0 1 l v = (0, 0, t3) := by rw [← HSUM.out, HST.out, if_pos rfl, if_neg h1]
                          have h := P4.out (by rw [e]; exact h1)
                          rw [h, e]
                        have HRES := Lib.hid hres
                        clear hres HSUM HST P3 P4
                        go_wp2_with (go_at_call 58; refine (HA.out _).mono ?_; rintro e w7 ⟨rfl, hx7⟩; have R7 := R6.ext hx7; have S7 := S6.ext hx7; have B7 := bext B6 hx7 B6.size; obtain ⟨r1, r2, r3⟩ := R7.facts; obtain ⟨s1, s2, s3⟩ := S7.facts)
                        refine bodyPost_ret (v := .tuple #[.agg #[.int .i64 0, .int .i64 0], .int .i64 t3]) (by simp [results, Try.results56, go_sem, r1]) rfl ?_
                        rw [HRES.out]
                        exact ⟨rfl, by repeat (first | exact B7 | refine Below.alloc ?_ (by simp; omega) _ | refine Below.setCell ?_ (by simp; try omega) _)⟩
                    · have h0' : (m3 == 0) = false := by simpa using h0
                      have hres : res = (0, 0, m3) := by
                        have e : blL 0 1 l v = (0, 0, m3) := by rw [← HSUM.out, HST.out, if_neg h0]
                        have h := P4.out (by rw [e]; exact h0)
                        rw [h, e]
                      have HRES := Lib.hid hres
                      clear hres HSUM HST P3 P4
                      go_wp2
                      refine bodyPost_ret (v := .tuple #[.agg #[.int .i64 0, .int .i64 0], .int .i64 m3]) (by simp [results, Try.results56, go_sem, r1]) rfl ?_
                      rw [HRES.out]
                      exact ⟨rfl, by repeat (first | exact B6 | refine Below.alloc ?_ (by simp; omega) _ | refine Below.setCell ?_ (by simp; try omega) _)⟩
            · have hfin : blL 0 1 l v = (x, y, 0) := by rw [← HSUM.out]; exact blL_end (by omega)
              have h := P3.out (by rw [hfin])
              rw [hfin] at h
              have HRES := Lib.hid h
              have hdiv := fun W => rdiv_any x y s 1 W HX.out HY.out ⟨by omega, by have := HSS.out; omega⟩ ⟨by decide, by decide⟩
              generalize divA x y s 1 = dd at *
              unfold RetA frv at hdiv
              have HD := Lib.hid hdiv
              clear hfin h hdiv HSUM P3 P4 HSS
              go_wp2_with (go_at_call 61; refine (HD.out _).mono ?_; rintro e w7 ⟨rfl, hx7⟩; have R7 := hr.ext hx7; have B7 := bext hb hx7 hb.size; obtain ⟨r1, r2, r3⟩ := R7.facts)
              refine bodyPost_ret (v := .tuple #[.agg #[.int .i64 dd.1, .int .i64 dd.2.1], .int .i64 dd.2.2]) (by simp [results, Try.results56, go_sem, r1]) rfl ?_
              rw [HRES.out]
              exact ⟨rfl, below2 B7 (Nat.le_refl _) _ _⟩
end Go.Proofs.Ythkoblnfeebafaa
