/- The reference's Sum walked. Conditions: the slice reads as a list of fractions, whose parts are within int. -/
import Derived.Test.YthkoblnfeebafaaSa
namespace Go.Proofs.Ythkoblnfeebafaa
open Go.RowKit

set_option maxRecDepth 100000 in
set_option maxHeartbeats 2000000 in
theorem rsum_any (A : Option Addr) (cap : Nat) (l : List (Int × Int)) (w : World) (hl : l.length ≤ 9223372036854775807) (h : FSl w A l) (hi : ∀ x ∈ l, IsI x.1 ∧ IsI x.2) :
    Calls Try.prog 29 #[.slice A l.length cap] w (RetA w (sumA l)) := by
  have HI := Lib.hid hi
  have H := Lib.hid h
  have H0 := Lib.hid (h.ext ((Below.refl _ _).alloc (Nat.le_refl _) (.cells #[.int .i64 0, .int .i64 0] 23)))
  clear h
  unfold sumA
  by_cases h64 : 64 < l.length
  · rw [if_pos h64]
    clear hi
    go_enter Try.func29, Try.ntmps29
    go_wp2
    refine bodyPost_ret (v := .tuple #[.agg #[.int .i64 0, .int .i64 0], .int .i64 3]) (by simp [results, Try.results29, go_sem]) rfl ?_
    exact ⟨rfl, (Below.refl _ _).alloc (Nat.le_refl _) _⟩
  rw [if_neg h64]
  have hv := fun W (h : FSl W A l) => rall_any A cap l W (by omega) h hi
  clear hl hi
  cases hall : AllV l
  · rw [if_neg (by simp)]
    rw [hall] at hv
    have HV := Lib.hid hv
    clear hv hall
    go_enter Try.func29, Try.ntmps29
    go_wp2_with (go_at_call 81; refine (HV.out _ H0.out).mono ?_; rintro e w1 ⟨rfl, hx1⟩; obtain ⟨k1, k2, k3⟩ := new_cell hx1)
    refine bodyPost_ret (v := .tuple #[.agg #[.int .i64 0, .int .i64 0], .int .i64 2]) (by simp [results, Try.results29, go_sem, k1]) rfl ?_
    exact ⟨rfl, below2 (ext_trans ((Below.refl _ _).alloc (Nat.le_refl _) _) hx1) (by omega) _ _⟩
  · rw [if_pos rfl]
    rw [hall] at hv
    have HV := Lib.hid hv
    clear hv hall
    go_enter Try.func29, Try.ntmps29
    go_upto_region 6 with (go_at_call 81; refine (HV.out _ H0.out).mono ?_; rintro e w1 ⟨rfl, hx1⟩; obtain ⟨k1, k2, k3⟩ := new_cell hx1)
    have R0 := ((Ce.new (T := 23) w (.int .i64 0) (.int .i64 0)).ext hx1).alloc (.cells #[.int .i64 0, .int .i64 1] 23)
    have S0 := Ce.new (T := 23) w1 (.int .i64 0) (.int .i64 1)
    have B0 : Below w.heap.size w (w1.alloc (.cells #[.int .i64 0, .int .i64 1] 23)) := ext_trans (ext_trans ((Below.refl _ _).alloc (Nat.le_refl _) _) hx1) ((Below.refl _ _).alloc (Nat.le_refl _) _)
    generalize w1.alloc (.cells #[.int .i64 0, .int .i64 1] 23) = wl at *
    generalize w1.heap.size = gs at *
    have HB0 := Lib.hid B0
    have HR0 := Lib.hid R0
    have HS0 := Lib.hid S0
    clear k1 k2 hx1 B0 R0 S0
    go_wp2
    go_loopg [20] l.length (fun g i wr => ∃ k : Nat, ∃ x y : Int, i = .int .i64 k ∧ k ≤ l.length ∧ g = l.length - k ∧ sumL x y (l.drop k) = sumL 0 1 l ∧ IsI x ∧ IsI y ∧ Below w.heap.size w wr ∧ Ce 23 wr w.heap.size (.int .i64 0) (.int .i64 0) ∧ Ce 23 wr gs (.int .i64 x) (.int .i64 y))
    case atStart => exact ⟨0, 0, 1, rfl, by omega, by omega, rfl, ⟨by decide, by decide⟩, ⟨by decide, by decide⟩, HB0.out, HR0.out, HS0.out⟩
    case round =>
      obtain ⟨k, x, y, rfl, hk, hg, hsum, hx, hy, hb, hr, hs⟩ := hrel
      have HG := Lib.hid hg
      have HSUM := Lib.hid hsum
      have HX := Lib.hid hx
      have HY := Lib.hid hy
      clear hg hsum hx hy
      obtain ⟨r1, r2, r3⟩ := hr.facts
      obtain ⟨s1, s2, s3⟩ := hs.facts
      by_cases hlt : k < l.length
      · have hf := H.out.ext hb
        rcases hf with hf | ⟨b, off, rfl, hblt, hc⟩
        · rw [hf] at hlt; simp at hlt
        · obtain ⟨c1, c2⟩ := hc k hlt
          obtain ⟨i1, i2⟩ := HI.out l[k] (List.getElem_mem hlt)
          obtain ⟨⟨t1, t2, t3⟩, ht⟩ : ∃ t, two x y l[k].1 l[k].2 (rat x y + rat l[k].1 l[k].2) = t := ⟨_, rfl⟩
          have ha := fun W => radd_any x y l[k].1 l[k].2 W HX.out HY.out i1 i2
          have hst := sumL_step hlt ht
          have hti := two_isI x y l[k].1 l[k].2 (rat x y + rat l[k].1 l[k].2)
          rw [ht] at ha hti
          unfold RetA frv at ha
          have HST := Lib.hid hst
          have HTI := Lib.hid hti
          generalize l[k].1 = u at *
          generalize l[k].2 = v at *
          have HA := Lib.hid ha
          clear ht hst hti i1 i2 hc ha
          by_cases h0 : t3 = 0
          · subst h0
            go_wp2_with (go_at_call 58; refine (HA.out _).mono ?_; rintro e w2 ⟨rfl, hx2⟩; have R2 := (hr.alloc _).ext hx2; have S2 := (hs.alloc _).ext hx2; have B2 := bext (hb.alloc (Nat.le_of_lt r3) _) hx2 (by simp; omega); obtain ⟨r1, r2, r3⟩ := R2.facts; obtain ⟨s1, s2, s3⟩ := S2.facts)
            go_roundg (l.length - (k + 1))
            case measure => have := HG.out; omega
            case rel =>
              refine ⟨k + 1, t1, t2, by go_num, by omega, rfl, ?_, HTI.out.1, HTI.out.2, (bset2 B2 (by omega) _ _).alloc (by simp; omega) _, (R2.set_ne' (by omega) _ _).alloc _, (S2.set2 _ _).alloc _⟩
              rw [← HSUM.out, HST.out]
              rfl
          · have h0' : (t3 == 0) = false := by simpa using h0
            go_wp2_with (go_at_call 58; refine (HA.out _).mono ?_; rintro e w2 ⟨rfl, hx2⟩; have R2 := (hr.alloc _).ext hx2; have S2 := (hs.alloc _).ext hx2; have B2 := bext (hb.alloc (Nat.le_of_lt r3) _) hx2 (by simp; omega); obtain ⟨r1, r2, r3⟩ := R2.facts; obtain ⟨s1, s2, s3⟩ := S2.facts)
            refine bodyPost_ret (v := .tuple #[.agg #[.int .i64 0, .int .i64 0], .int .i64 t3]) (by simp [results, Try.results29, go_sem, r1, r3, Nat.ne_of_lt r3]) rfl ?_
            refine ⟨?_, (below2 B2 (by omega) _ _).alloc (by simp; omega) _⟩
            rw [← HSUM.out, HST.out, if_neg h0]
            rfl
      · go_wp2
        refine bodyPost_ret (v := .tuple #[.agg #[.int .i64 x, .int .i64 y], .int .i64 0]) (by simp [results, Try.results29, go_sem, r1]) rfl ?_
        refine ⟨?_, below2 hb (by omega) _ _⟩
        rw [← HSUM.out, List.drop_eq_nil_of_le (by omega)]
        rfl
end Go.Proofs.Ythkoblnfeebafaa
