/- frac.simplest walked. Conditions: an interval of fractions within the limits. -/
import Derived.Test.YthkoblnfeebafaaGa
import Derived.Test.YthkoblnfeebafaaSp
import Derived.Test.YthkoblnfeebafaaFo
namespace Go.Proofs.Ythkoblnfeebafaa
open Go.RowKit

def RetS (w : World) (an ad bn bd : Int) (e : Ending) (w' : World) : Prop :=
  ∃ s t : Int, e = .returned (.agg #[.int .i64 s, .int .i64 t]) ∧ Sp.Weak an ad bn bd s t ∧ (1 ≤ an → Sp.Strong an ad bn bd s t) ∧ Below w.heap.size w w'

theorem simp_floor {an ad bn bd : Int} (ha : 1 ≤ ad) (hb : 1 ≤ bd) (h : an * bd ≤ bn * ad) : an / ad ≤ bn / bd := by
  refine (Int.le_ediv_iff_mul_le (by omega)).2 ?_
  refine Int.le_of_mul_le_mul_right (a := ad) ?_ (by omega)
  have h1 : an / ad * ad ≤ an := Int.ediv_mul_le _ (by omega)
  have h2 : an / ad * ad * bd ≤ an * bd := Int.mul_le_mul_of_nonneg_right h1 (by omega)
  have e1 : an / ad * bd * ad = an / ad * ad * bd := by grind
  omega

set_option maxRecDepth 100000 in
set_option maxHeartbeats 2000000 in
theorem simplest_any (k : Nat) : ∀ (an ad bn bd : Int) (w : World), (ad + bd).toNat ≤ k → 1 ≤ ad → ad ≤ 1000000000 → 1 ≤ bd → bd ≤ 1000000000 → -1000000000 ≤ an → an ≤ 1000000000 → -1000000000 ≤ bn → bn ≤ 1000000000 → an * bd ≤ bn * ad →
    Calls Try.prog 94 #[.agg #[.int .i64 an, .int .i64 ad], .agg #[.int .i64 bn, .int .i64 bd]] w (RetS w an ad bn bd) := by
  induction k with
  | zero => intro an ad bn bd w hk h1 h2 h3 h4; omega
  | succ k ih =>
    intro an ad bn bd w hk a1 a2 b1 b2 a3 a4 b3 b4 hle
    have hx0 : ∀ x y z, Below w.heap.size w (((w.alloc x).alloc y).alloc z) := fun x y z => (((Below.refl _ _).alloc (Nat.le_refl _) _).alloc (by simp) _).alloc (by simp; omega) _
    have HX0 := Lib.hid hx0
    have hfa := fun W => floor_any an ad W (by omega) (by omega) a1 (by omega)
    have hfb := fun W => floor_any bn bd W (by omega) (by omega) b1 (by omega)
    have hAB := simp_floor a1 b1 hle
    have ea := Int.mul_ediv_add_emod an ad
    have eb := Int.mul_ediv_add_emod bn bd
    have ra := Int.emod_nonneg an (show ad ≠ 0 by omega)
    have ra' := Int.emod_lt_of_pos an (show 0 < ad by omega)
    have rb := Int.emod_nonneg bn (show bd ≠ 0 by omega)
    have rb' := Int.emod_lt_of_pos bn (show 0 < bd by omega)
    obtain ⟨bA1, bA2⟩ := div_bd (n := an) (d := ad) (B := 1000000000) a1 a3 a4 (by omega)
    obtain ⟨bB1, bB2⟩ := div_bd (n := bn) (d := bd) (B := 1000000000) b1 b3 b4 (by omega)
    generalize an / ad = A at *
    generalize bn / bd = B at *
    generalize an % ad = R at *
    generalize bn % bd = O at *
    have HFA := Lib.hid hfa
    have HFB := Lib.hid hfb
    clear hx0 hfa hfb
    have ea2 : A * ad = ad * A := Int.mul_comm _ _
    have eb2 : B * bd = bd * B := Int.mul_comm _ _
    have HE := Lib.hid (show an = R + A * ad ∧ bn = O + B * bd from ⟨by omega, by omega⟩)
    -- whole numbers
    have hpos : ∀ m : Int, (m - 1) * ad < an → an ≤ m * ad → 1 ≤ m → m ≤ B → Sp.Weak an ad bn bd m 1 ∧ (1 ≤ an → Sp.Strong an ad bn bd m 1) := fun m h1 h2 h3 h4 => by
      refine Sp.whole_pos a1 h3 h2 ?_ h1
      have := Int.mul_le_mul_of_nonneg_right h4 (show 0 ≤ bd by omega)
      omega
    have hneg : an ≤ B * ad → B ≤ -1 → Sp.Weak an ad bn bd B 1 := fun h1 h2 => Sp.whole_neg b1 h2 h1 (by omega) (by
      have e1 : (B + 1) * bd = B * bd + bd := by grind
      omega)
    have HPOS := Lib.hid hpos
    have HNEG := Lib.hid hneg
    clear hpos hneg
    by_cases hR : 0 < R
    · have e1 : (A + 1) * ad = A * ad + ad := by grind
      have e2 : (A + 1 - 1) * ad = A * ad := by rw [Int.add_sub_cancel]
      by_cases hl : A + 1 ≤ B
      · by_cases hp : 0 < A + 1
        · have hw := HPOS.out (A + 1) (by omega) (by omega) (by omega) hl
          have HW := Lib.hid hw
          clear hw e1 e2 ea ea2 eb eb2 hle
          go_enter Try.func94, Try.ntmps94
          go_wp2_with (first
            | (go_at_call_of 96 (Value.int .i64 an); refine (HFA.out _).mono ?_; rintro e w1 ⟨rfl, hx1⟩; obtain ⟨k1, k2, k3, k4, k5⟩ := three_cells hx1)
            | (go_at_call_of 96 (Value.int .i64 bn); refine (HFB.out _).mono ?_; rintro e w2 ⟨rfl, hx2⟩; have E2 := ext_trans hx1 hx2; obtain ⟨k1, k2, k3, k4, k5⟩ := three_cells E2))
          refine bodyPost_ret (v := .agg #[.int .i64 (A + 1), .int .i64 1]) (by simp [results, Try.results94, go_sem, k3]) rfl ?_
          exact ⟨_, _, rfl, HW.out.1, HW.out.2, below2 (ext_trans (HX0.out _ _ _) E2) (by omega) _ _⟩
        · by_cases hn : B < 0
          · have hw := HNEG.out (by have := Int.mul_le_mul_of_nonneg_right hl (show 0 ≤ ad by omega); omega) (by omega)
            have hs : ¬ 1 ≤ an := fun h => by
              have := Int.mul_nonneg (show 0 ≤ -(A + 1) by omega) (show 0 ≤ ad by omega)
              rw [Int.neg_mul] at this
              omega
            have HW := Lib.hid hw
            have HS := Lib.hid hs
            clear hw hs e1 e2 ea ea2 eb eb2 hle
            go_enter Try.func94, Try.ntmps94
            go_wp2_with (first
              | (go_at_call_of 96 (Value.int .i64 an); refine (HFA.out _).mono ?_; rintro e w1 ⟨rfl, hx1⟩; obtain ⟨k1, k2, k3, k4, k5⟩ := three_cells hx1)
              | (go_at_call_of 96 (Value.int .i64 bn); refine (HFB.out _).mono ?_; rintro e w2 ⟨rfl, hx2⟩; have E2 := ext_trans hx1 hx2; obtain ⟨k1, k2, k3, k4, k5⟩ := three_cells E2))
            refine bodyPost_ret (v := .agg #[.int .i64 B, .int .i64 1]) (by simp [results, Try.results94, go_sem, k3]) rfl ?_
            exact ⟨_, _, rfl, HW.out, fun h => by have := HS.out; omega, below2 (ext_trans (HX0.out _ _ _) E2) (by omega) _ _⟩
          · have hs : an ≤ 0 := by
              have := Int.mul_nonneg (show 0 ≤ -(A + 1) by omega) (show 0 ≤ ad by omega)
              rw [Int.neg_mul] at this
              omega
            have hb0 : 0 ≤ bn := by
              have := Int.mul_nonneg (show 0 ≤ B by omega) (show 0 ≤ bd by omega)
              omega
            have HW := Lib.hid (Sp.whole_zero (ad := ad) (bd := bd) hs hb0)
            have HS := Lib.hid hs
            clear hs hb0 e1 e2 ea ea2 eb eb2 hle
            go_enter Try.func94, Try.ntmps94
            go_wp2_with (first
              | (go_at_call_of 96 (Value.int .i64 an); refine (HFA.out _).mono ?_; rintro e w1 ⟨rfl, hx1⟩; obtain ⟨k1, k2, k3, k4, k5⟩ := three_cells hx1)
              | (go_at_call_of 96 (Value.int .i64 bn); refine (HFB.out _).mono ?_; rintro e w2 ⟨rfl, hx2⟩; have E2 := ext_trans hx1 hx2; obtain ⟨k1, k2, k3, k4, k5⟩ := three_cells E2))
            refine bodyPost_ret (v := .agg #[.int .i64 0, .int .i64 1]) (by simp [results, Try.results94, go_sem, k3]) rfl ?_
            exact ⟨_, _, rfl, HW.out, fun h => by have := HS.out; omega, below2 (ext_trans (HX0.out _ _ _) E2) (by omega) _ _⟩
      · have hBA : B = A := by omega
        subst hBA
        have e3 : an * bd = (R + B * ad) * bd := by rw [← HE.out.1]
        have e4 : bn * ad = (O + B * bd) * ad := by rw [← HE.out.2]
        have e5 : (R + B * ad) * bd = bd * R + B * ad * bd := by grind
        have e6 : (O + B * bd) * ad = ad * O + B * ad * bd := by grind
        have hio : bd * R ≤ ad * O := by omega
        have hO : 1 ≤ O := by
          refine Int.not_lt.1 fun h => ?_
          obtain rfl : O = 0 := by omega
          have h1 : 1 * 1 ≤ bd * R := Int.mul_le_mul b1 (by omega) (by omega) (by omega)
          rw [Int.mul_zero] at hio
          omega
        have hih := fun W => ih bd O ad R W (by omega) hO (by omega) (by omega) (by omega) (by omega) b2 (by omega) a2 hio
        have hmin : ∀ s t : Int, Sp.Strong bd O ad R s t → (1 ≤ s ∧ s ≤ ad ∧ 1 ≤ t ∧ t ≤ R) ∧ Sp.Weak an ad bn bd (B * s + t) s ∧ (1 ≤ an → Sp.Strong an ad bn bd (B * s + t) s) := fun s t h => by
          have h1 := h.min ad R (by omega) hio (Int.le_refl _)
          have h2 := h.num_pos hO b1
          have h3 := h.t1
          obtain ⟨h4, h5⟩ := Sp.step (h := B) a1 b1 (show 1 ≤ R by omega) hO (by omega) h
          rw [← HE.out.1, ← HE.out.2] at h4 h5
          refine ⟨⟨h2, h1.2, h3, h1.1⟩, h4, fun ha => h5 ?_⟩
          refine Int.not_lt.1 fun hB => ?_
          have := Int.mul_le_mul_of_nonneg_right (show B ≤ -1 by omega) (show 0 ≤ ad by omega)
          have := HE.out.1
          omega
        have HIH := Lib.hid hih
        have HMIN := Lib.hid hmin
        clear hih hmin e1 e2 e3 e4 e5 e6 ea ea2 eb eb2 hle hio HPOS HNEG ih
        go_enter Try.func94, Try.ntmps94
        go_upto_region 11 with (first
          | (go_at_call_of 96 (Value.int .i64 an); refine (HFA.out _).mono ?_; rintro e w1 ⟨rfl, hx1⟩; obtain ⟨k1, k2, k3, k4, k5⟩ := three_cells hx1)
          | (go_at_call_of 96 (Value.int .i64 bn); refine (HFB.out _).mono ?_; rintro e w2 ⟨rfl, hx2⟩; have E2 := ext_trans hx1 hx2; obtain ⟨k1, k2, k3, k4, k5⟩ := three_cells E2))
        go_upto_region 12 with (go_at_call 94; refine (HIH.out _).mono ?_; unfold RetS; rintro e w3 ⟨s, t, rfl, hws, hst, hx3⟩; have E3 := ext_trans E2 hx3)
        obtain ⟨⟨s1, s2, t1, t2⟩, hWeak, hStrong⟩ := HMIN.out s t (hst b1)
        have R3 := ((Ce.new (T := 76) ((w.alloc (.cells #[.int .i64 an, .int .i64 ad] 76)).alloc (.cells #[.int .i64 bn, .int .i64 bd] 76)) (.int .i64 0) (.int .i64 0)).ext E3).alloc (.cells #[.int .i64 s, .int .i64 t] 76)
        rw [show ((w.alloc (.cells #[.int .i64 an, .int .i64 ad] 76)).alloc (.cells #[.int .i64 bn, .int .i64 bd] 76)).heap.size = w.heap.size + 1 + 1 by simp] at R3
        have S3 := Ce.new (T := 76) w3 (.int .i64 s) (.int .i64 t)
        have B3 := ext_trans (ext_trans (HX0.out _ _ _) E3) ((Below.refl _ _).alloc (Nat.le_refl _) (.cells #[.int .i64 s, .int .i64 t] 76))
        obtain ⟨m1, m2⟩ := mul_bd2 (x := B) (y := s) bB1 bB2 (by omega) (by omega)
        have HW := Lib.hid hWeak
        have HS := Lib.hid hStrong
        generalize w3.alloc (.cells #[.int .i64 s, .int .i64 t] 76) = wl at *
        generalize w3.heap.size = g3 at *
        obtain ⟨r1, r2, r3⟩ := R3.facts
        obtain ⟨u1, u2, u3⟩ := S3.facts
        clear hWeak hStrong hws hst hx1 hx2 hx3 E2 E3 k1 k2 k3 k4 k5 R3 S3
        go_wp2
        refine bodyPost_ret (v := .agg #[.int .i64 (B * s + t), .int .i64 s]) (by simp [results, Try.results94, go_sem, r1]) rfl ?_
        exact ⟨_, _, rfl, HW.out, HS.out, below2 B3 (by omega) _ _⟩
    · obtain rfl : R = 0 := by omega
      have e2 : (A - 1) * ad = A * ad - ad := by grind
      by_cases hp : 0 < A
      · have hw := HPOS.out A (by omega) (by omega) (by omega) hAB
        have HW := Lib.hid hw
        clear hw e2 ea ea2 eb eb2 hle
        go_enter Try.func94, Try.ntmps94
        go_wp2_with (first
          | (go_at_call_of 96 (Value.int .i64 an); refine (HFA.out _).mono ?_; rintro e w1 ⟨rfl, hx1⟩; obtain ⟨k1, k2, k3, k4, k5⟩ := three_cells hx1)
          | (go_at_call_of 96 (Value.int .i64 bn); refine (HFB.out _).mono ?_; rintro e w2 ⟨rfl, hx2⟩; have E2 := ext_trans hx1 hx2; obtain ⟨k1, k2, k3, k4, k5⟩ := three_cells E2))
        refine bodyPost_ret (v := .agg #[.int .i64 A, .int .i64 1]) (by simp [results, Try.results94, go_sem, k3]) rfl ?_
        exact ⟨_, _, rfl, HW.out.1, HW.out.2, below2 (ext_trans (HX0.out _ _ _) E2) (by omega) _ _⟩
      · by_cases hn : B < 0
        · have hw := HNEG.out (by have := Int.mul_le_mul_of_nonneg_right hAB (show 0 ≤ ad by omega); omega) (by omega)
          have hs : ¬ 1 ≤ an := fun h => by
            have := Int.mul_nonneg (show 0 ≤ -A by omega) (show 0 ≤ ad by omega)
            rw [Int.neg_mul] at this
            omega
          have HW := Lib.hid hw
          have HS := Lib.hid hs
          clear hw hs e2 ea ea2 eb eb2 hle
          go_enter Try.func94, Try.ntmps94
          go_wp2_with (first
            | (go_at_call_of 96 (Value.int .i64 an); refine (HFA.out _).mono ?_; rintro e w1 ⟨rfl, hx1⟩; obtain ⟨k1, k2, k3, k4, k5⟩ := three_cells hx1)
            | (go_at_call_of 96 (Value.int .i64 bn); refine (HFB.out _).mono ?_; rintro e w2 ⟨rfl, hx2⟩; have E2 := ext_trans hx1 hx2; obtain ⟨k1, k2, k3, k4, k5⟩ := three_cells E2))
          refine bodyPost_ret (v := .agg #[.int .i64 B, .int .i64 1]) (by simp [results, Try.results94, go_sem, k3]) rfl ?_
          exact ⟨_, _, rfl, HW.out, fun h => by have := HS.out; omega, below2 (ext_trans (HX0.out _ _ _) E2) (by omega) _ _⟩
        · have hs : an ≤ 0 := by
            have := Int.mul_nonneg (show 0 ≤ -A by omega) (show 0 ≤ ad by omega)
            rw [Int.neg_mul] at this
            omega
          have hb0 : 0 ≤ bn := by
            have := Int.mul_nonneg (show 0 ≤ B by omega) (show 0 ≤ bd by omega)
            omega
          have HW := Lib.hid (Sp.whole_zero (ad := ad) (bd := bd) hs hb0)
          have HS := Lib.hid hs
          clear hs hb0 e2 ea ea2 eb eb2 hle
          go_enter Try.func94, Try.ntmps94
          go_wp2_with (first
            | (go_at_call_of 96 (Value.int .i64 an); refine (HFA.out _).mono ?_; rintro e w1 ⟨rfl, hx1⟩; obtain ⟨k1, k2, k3, k4, k5⟩ := three_cells hx1)
            | (go_at_call_of 96 (Value.int .i64 bn); refine (HFB.out _).mono ?_; rintro e w2 ⟨rfl, hx2⟩; have E2 := ext_trans hx1 hx2; obtain ⟨k1, k2, k3, k4, k5⟩ := three_cells E2))
          refine bodyPost_ret (v := .agg #[.int .i64 0, .int .i64 1]) (by simp [results, Try.results94, go_sem, k3]) rfl ?_
          exact ⟨_, _, rfl, HW.out, fun h => by have := HS.out; omega, below2 (ext_trans (HX0.out _ _ _) E2) (by omega) _ _⟩
end Go.Proofs.Ythkoblnfeebafaa
