/- frac.Sum and the reference's All and Sum walked. Conditions: the slice reads as a list of fractions, whose parts are within int. -/
import Derived.Test.YthkoblnfeebafaaFo
namespace Go.Proofs.Ythkoblnfeebafaa
open Go.RowKit

noncomputable def sumL : Int → Int → List (Int × Int) → Int × Int × Int
  | x, y, [] => (x, y, 0)
  | x, y, f :: l => if (two x y f.1 f.2 (rat x y + rat f.1 f.2)).2.2 = 0 then sumL (two x y f.1 f.2 (rat x y + rat f.1 f.2)).1 (two x y f.1 f.2 (rat x y + rat f.1 f.2)).2.1 l else (0, 0, (two x y f.1 f.2 (rat x y + rat f.1 f.2)).2.2)
noncomputable def sumA (l : List (Int × Int)) : Int × Int × Int := if 64 < l.length then (0, 0, 3) else if AllV l = true then sumL 0 1 l else (0, 0, 2)
theorem ans_isI (q : Rat) : IsI (ans q).1 ∧ IsI (ans q).2.1 := by
  by_cases hq : InQ q
  · rw [ans_yes hq]
    obtain ⟨h1, h2⟩ := hq
    exact ⟨⟨by show _ ≤ q.num; omega, by show q.num ≤ _; omega⟩, ⟨by show _ ≤ (q.den : Int); omega, by show (q.den : Int) ≤ _; omega⟩⟩
  · rw [ans_no hq]
    exact ⟨⟨by decide, by decide⟩, ⟨by decide, by decide⟩⟩
theorem two_isI (an ad bn bd : Int) (q : Rat) : IsI (two an ad bn bd q).1 ∧ IsI (two an ad bn bd q).2.1 := by
  unfold two
  split
  · exact ans_isI q
  · exact ⟨⟨by decide, by decide⟩, ⟨by decide, by decide⟩⟩
theorem sumL_step {x y : Int} {l : List (Int × Int)} {k : Nat} (hk : k < l.length) {r : Int × Int × Int} (hr : two x y l[k].1 l[k].2 (rat x y + rat l[k].1 l[k].2) = r) :
    sumL x y (l.drop k) = if r.2.2 = 0 then sumL r.1 r.2.1 (l.drop (k + 1)) else (0, 0, r.2.2) := by
  rw [List.drop_eq_getElem_cons hk, ← hr]
  rfl

set_option maxRecDepth 100000 in
set_option maxHeartbeats 2000000 in
theorem rall_any (A : Option Addr) (cap : Nat) (l : List (Int × Int)) (w : World) (hl : l.length ≤ 4611686018427387904) (h : FSl w A l) (hi : ∀ x ∈ l, IsI x.1 ∧ IsI x.2) :
    Calls Try.prog 81 #[.slice A l.length cap] w fun e w' => e = .returned (.bool (AllV l)) ∧ Below w.heap.size w w' := by
  have HI := Lib.hid hi
  have H := Lib.hid h
  clear hi h
  go_enter Try.func81, Try.ntmps81
  go_wp2
  go_loopg [7] l.length (fun g i wr => ∃ k : Nat, i = .int .i64 k ∧ k ≤ l.length ∧ g = l.length - k ∧ (∀ j (hj : j < l.length), j < k → vldB l[j].1 l[j].2 = true) ∧ Below w.heap.size w wr)
  case atStart => exact ⟨0, rfl, by omega, by omega, fun j hj h => absurd h (by omega), Below.refl _ _⟩
  case round =>
    obtain ⟨k, rfl, hk, hg, hall, hb⟩ := hrel
    have HG := Lib.hid hg
    have HALL := Lib.hid hall
    clear hg hall
    by_cases hlt : k < l.length
    · have hf := H.out.ext hb
      rcases hf with hf | ⟨b, off, rfl, hblt, hc⟩
      · rw [hf] at hlt; simp at hlt
      · obtain ⟨c1, c2⟩ := hc k hlt
        obtain ⟨i1, i2⟩ := HI.out l[k] (List.getElem_mem hlt)
        have HI1 := Lib.hid i1
        have HI2 := Lib.hid i2
        obtain ⟨x, hx⟩ : ∃ x, x = l[k].1 := ⟨_, rfl⟩
        obtain ⟨y, hy⟩ : ∃ y, y = l[k].2 := ⟨_, rfl⟩
        rw [← hx] at c1 HI1
        rw [← hy] at c2 HI2
        have HX := Lib.hid hx
        have HY := Lib.hid hy
        clear hx hy i1 i2 hc
        cases hv : vldB x y
        · have HV := Lib.hid hv
          clear hv
          go_wp2_with (go_at_call 21; refine (rvalid_any x y _ HI1.out HI2.out).mono ?_; rintro e w1 ⟨he, hb1⟩; rw [HV.out] at he; subst he)
          go_ret
          exact ⟨ret_bool (AllV.take_no hlt (by rw [← HX.out, ← HY.out]; exact HV.out)).symm, ext_trans hb (ext_trans ((Below.refl _ _).alloc (Nat.le_refl _) _) hb1)⟩
        · have HV := Lib.hid hv
          clear hv
          go_wp2_with (go_at_call 21; refine (rvalid_any x y _ HI1.out HI2.out).mono ?_; rintro e w1 ⟨he, hb1⟩; rw [HV.out] at he; subst he)
          go_roundg (l.length - (k + 1))
          case measure => have := HG.out; omega
          case rel =>
            refine ⟨k + 1, by go_num, by omega, rfl, fun j hj hjk => ?_, ext_trans hb (ext_trans ((Below.refl _ _).alloc (Nat.le_refl _) _) hb1)⟩
            by_cases hjk2 : j = k
            · subst hjk2
              rw [← HX.out, ← HY.out]; exact HV.out
            · exact HALL.out j hj (by omega)
    · go_wp2
      go_ret
      exact ⟨ret_bool (AllV.take_yes (fun j hj => HALL.out j hj (by omega))).symm, hb⟩

set_option maxRecDepth 100000 in
set_option maxHeartbeats 2000000 in
theorem sum_any (A : Option Addr) (cap : Nat) (l : List (Int × Int)) (w : World) (hl : l.length ≤ 9223372036854775807) (h : FSl w A l) (hi : ∀ x ∈ l, IsI x.1 ∧ IsI x.2) :
    Calls Try.prog 28 #[.slice A l.length cap] w (RetA w (sumA l)) := by
  have HI := Lib.hid hi
  have H := Lib.hid h
  have H0 := Lib.hid (h.ext ((Below.refl _ _).alloc (Nat.le_refl _) (.cells #[.int .i64 0, .int .i64 0] 23)))
  clear h
  unfold sumA
  by_cases h64 : 64 < l.length
  · rw [if_pos h64]
    clear hi
    go_enter Try.func28, Try.ntmps28
    go_wp2
    refine bodyPost_ret (v := .tuple #[.agg #[.int .i64 0, .int .i64 0], .int .i64 3]) (by simp [results, Try.results28, go_sem]) rfl ?_
    exact ⟨rfl, (Below.refl _ _).alloc (Nat.le_refl _) _⟩
  rw [if_neg h64]
  have hv := fun W (h : FSl W A l) => validl_any A cap l W (by omega) h hi
  clear hl hi
  cases hall : AllV l
  · rw [if_neg (by simp)]
    rw [hall] at hv
    have HV := Lib.hid hv
    clear hv hall
    go_enter Try.func28, Try.ntmps28
    go_wp2_with (go_at_call 76; refine (HV.out _ H0.out).mono ?_; rintro e w1 ⟨rfl, hx1⟩; obtain ⟨k1, k2, k3⟩ := new_cell hx1)
    refine bodyPost_ret (v := .tuple #[.agg #[.int .i64 0, .int .i64 0], .int .i64 2]) (by simp [results, Try.results28, go_sem, k1]) rfl ?_
    exact ⟨rfl, below2 (ext_trans ((Below.refl _ _).alloc (Nat.le_refl _) _) hx1) (by omega) _ _⟩
  · rw [if_pos rfl]
    rw [hall] at hv
    have HV := Lib.hid hv
    clear hv hall
    go_enter Try.func28, Try.ntmps28
    go_upto_region 6 with (go_at_call 76; refine (HV.out _ H0.out).mono ?_; rintro e w1 ⟨rfl, hx1⟩; obtain ⟨k1, k2, k3⟩ := new_cell hx1)
    have R0 := ((Ce.new (T := 23) w (.int .i64 0) (.int .i64 0)).ext hx1).alloc (.cells #[.int .i64 0, .int .i64 1] 23)
    have S0 := Ce.new (T := 23) w1 (.int .i64 0) (.int .i64 1)
    have B0 : Below w.heap.size w (w1.alloc (.cells #[.int .i64 0, .int .i64 1] 23)) := ext_trans (ext_trans ((Below.refl _ _).alloc (Nat.le_refl _) _) hx1) ((Below.refl _ _).alloc (Nat.le_refl _) _)
    generalize w1.alloc (.cells #[.int .i64 0, .int .i64 1] 23) = wl at *
    generalize w1.heap.size = gs at *
    have HB0 := Lib.hid B0
    have HR0 := Lib.hid R0
    have HS0 := Lib.hid S0
    clear k1 k2 hx1 B0 R0 S0
    go_wp2
    go_loopg [21] l.length (fun g i wr => ∃ k : Nat, ∃ x y : Int, i = .int .i64 k ∧ k ≤ l.length ∧ g = l.length - k ∧ sumL x y (l.drop k) = sumL 0 1 l ∧ IsI x ∧ IsI y ∧ Below w.heap.size w wr ∧ Ce 23 wr w.heap.size (.int .i64 0) (.int .i64 0) ∧ Ce 23 wr gs (.int .i64 x) (.int .i64 y))
    case atStart => exact ⟨0, 0, 1, rfl, by omega, by omega, rfl, ⟨by decide, by decide⟩, ⟨by decide, by decide⟩, HB0.out, HR0.out, HS0.out⟩
    case round =>
      obtain ⟨k, x, y, rfl, hk, hg, hsum, hx, hy, hb, hr, hs⟩ := hrel
      have HG := Lib.hid hg
      have HSUM := Lib.hid hsum
      have HX := Lib.hid hx
      have HY := Lib.hid hy
      clear hg hsum hx hy
      obtain ⟨r1, r2, r3⟩ := hr.facts
      obtain ⟨s1, s2, s3⟩ := hs.facts
      by_cases hlt : k < l.length
      · have hf := H.out.ext hb
        rcases hf with hf | ⟨b, off, rfl, hblt, hc⟩
        · rw [hf] at hlt; simp at hlt
        · obtain ⟨c1, c2⟩ := hc k hlt
          obtain ⟨i1, i2⟩ := HI.out l[k] (List.getElem_mem hlt)
          obtain ⟨⟨t1, t2, t3⟩, ht⟩ : ∃ t, two x y l[k].1 l[k].2 (rat x y + rat l[k].1 l[k].2) = t := ⟨_, rfl⟩
          have ha := fun W => add_any x y l[k].1 l[k].2 W HX.out HY.out i1 i2
          have hst := sumL_step hlt ht
          have hti := two_isI x y l[k].1 l[k].2 (rat x y + rat l[k].1 l[k].2)
          rw [ht] at ha hti
          unfold RetA frv at ha
          have HST := Lib.hid hst
          have HTI := Lib.hid hti
          generalize l[k].1 = u at *
          generalize l[k].2 = v at *
          have HA := Lib.hid ha
          clear ht hst hti i1 i2 hc ha
          by_cases h0 : t3 = 0
          · subst h0
            go_wp2_with (go_at_call 44; refine (HA.out _).mono ?_; rintro e w2 ⟨rfl, hx2⟩; have R2 := (hr.alloc _).ext hx2; have S2 := (hs.alloc _).ext hx2; have B2 := bext (hb.alloc (Nat.le_of_lt r3) _) hx2 (by simp; omega); obtain ⟨r1, r2, r3⟩ := R2.facts; obtain ⟨s1, s2, s3⟩ := S2.facts)
            go_roundg (l.length - (k + 1))
            case measure => have := HG.out; omega
            case rel =>
              refine ⟨k + 1, t1, t2, by go_num, by omega, rfl, ?_, HTI.out.1, HTI.out.2, bset2 B2 (by omega) _ _, R2.set_ne' (by omega) _ _, S2.set2 _ _⟩
              rw [← HSUM.out, HST.out]
              rfl
          · have h0' : (t3 == 0) = false := by simpa using h0
            go_wp2_with (go_at_call 44; refine (HA.out _).mono ?_; rintro e w2 ⟨rfl, hx2⟩; have R2 := (hr.alloc _).ext hx2; have S2 := (hs.alloc _).ext hx2; have B2 := bext (hb.alloc (Nat.le_of_lt r3) _) hx2 (by simp; omega); obtain ⟨r1, r2, r3⟩ := R2.facts; obtain ⟨s1, s2, s3⟩ := S2.facts)
            refine bodyPost_ret (v := .tuple #[.agg #[.int .i64 0, .int .i64 0], .int .i64 t3]) (by simp [results, Try.results28, go_sem, r1]) rfl ?_
            refine ⟨?_, below2 (bset2 B2 (by omega) _ _) (by omega) _ _⟩
            rw [← HSUM.out, HST.out, if_neg h0]
            rfl
      · go_wp2
        refine bodyPost_ret (v := .tuple #[.agg #[.int .i64 x, .int .i64 y], .int .i64 0]) (by simp [results, Try.results28, go_sem, r1]) rfl ?_
        refine ⟨?_, below2 hb (by omega) _ _⟩
        rw [← HSUM.out, List.drop_eq_nil_of_le (by omega)]
        rfl
end Go.Proofs.Ythkoblnfeebafaa
