/- FracLeast walked. No conditions but that the parts are within int. -/
import Derived.Test.YthkoblnfeebafaaHb
import Derived.Test.YthkoblnfeebafaaGk
namespace Go.Proofs.Ythkoblnfeebafaa
open Go.RowKit

theorem Sp.weak_self {u v : Int} (hv : 1 ≤ v) (hg : Int.gcd u v = 1) : Sp.Weak u v u v u v := by
  refine ⟨hv, Int.le_refl _, Int.le_refl _, fun p q hq h1 h2 => ?_⟩
  have h3 : u * q = p * v := by omega
  have h4 : v ∣ u * q := ⟨p, by rw [h3, Int.mul_comm]⟩
  have h5 : v ∣ q := by
    have hc : Nat.Coprime v.natAbs u.natAbs := by rw [Nat.coprime_comm]; exact hg
    have h6 := Int.natAbs_dvd_natAbs.2 h4
    rw [Int.natAbs_mul] at h6
    exact Int.natAbs_dvd_natAbs.1 (hc.dvd_of_dvd_mul_left h6)
  have h7 := Int.le_of_dvd (by omega) h5
  by_cases hqv : q = v
  · subst hqv
    exact .inr ⟨rfl, .inl (Int.eq_of_mul_eq_mul_right (by omega) h3).symm⟩
  · exact .inl (by omega)
/-- what the law knows of its own blocks -/
def RL (w : World) (g : Nat) (an ad bn bd u v x y : Int) (wx : World) : Prop :=
  Below w.heap.size w wx ∧ Ce 23 wx w.heap.size (.int .i64 an) (.int .i64 ad) ∧ Ce 23 wx (w.heap.size + 1) (.int .i64 bn) (.int .i64 bd) ∧ Ce 23 wx (w.heap.size + 1 + 1) (.int .i64 u) (.int .i64 v) ∧ Ce 23 wx g (.int .i64 x) (.int .i64 y)
theorem RL.call {w : World} {g : Nat} {an ad bn bd u v x y : Int} {wx wy : World} (h : RL w g an ad bn bd u v x y wx) (hb : Below wx.heap.size wx wy) : RL w g an ad bn bd u v x y wy := by
  obtain ⟨h1, h2, h3, h4, h5⟩ := h
  exact ⟨bext h1 hb (Nat.le_of_lt h2.facts.2.2), h2.ext hb, h3.ext hb, h4.ext hb, h5.ext hb⟩
theorem RL.cells {w : World} {g : Nat} {an ad bn bd u v x y : Int} {wx : World} (h : RL w g an ad bn bd u v x y wx) :
    (∀ i, wx.cell? ⟨w.heap.size, i, none⟩ = #[Value.int .i64 an, .int .i64 ad][i]?) ∧ (∀ i, wx.cell? ⟨w.heap.size + 1, i, none⟩ = #[Value.int .i64 bn, .int .i64 bd][i]?) ∧ (∀ i, wx.cell? ⟨w.heap.size + 1 + 1, i, none⟩ = #[Value.int .i64 u, .int .i64 v][i]?) ∧ (∀ i, wx.cell? ⟨g, i, none⟩ = #[Value.int .i64 x, .int .i64 y][i]?) :=
  ⟨h.2.1.facts.1, h.2.2.1.facts.1, h.2.2.2.1.facts.1, h.2.2.2.2.facts.1⟩
theorem RL.start {w wx : World} {an ad bn bd u v : Int} (x y : Int) (E : Below (((w.alloc (.cells #[.int .i64 an, .int .i64 ad] 23)).alloc (.cells #[.int .i64 bn, .int .i64 bd] 23)).alloc (.cells #[.int .i64 u, .int .i64 v] 23)).heap.size (((w.alloc (.cells #[.int .i64 an, .int .i64 ad] 23)).alloc (.cells #[.int .i64 bn, .int .i64 bd] 23)).alloc (.cells #[.int .i64 u, .int .i64 v] 23)) wx) :
    RL w wx.heap.size an ad bn bd u v x y (wx.alloc (.cells #[.int .i64 x, .int .i64 y] 23)) := by
  have p0 := (((Ce.new (T := 23) w (.int .i64 an) (.int .i64 ad)).alloc (.cells #[.int .i64 bn, .int .i64 bd] 23)).alloc (.cells #[.int .i64 u, .int .i64 v] 23)).ext E
  have p1 := ((Ce.new (T := 23) (w.alloc (.cells #[.int .i64 an, .int .i64 ad] 23)) (.int .i64 bn) (.int .i64 bd)).alloc (.cells #[.int .i64 u, .int .i64 v] 23)).ext E
  have p2 := (Ce.new (T := 23) ((w.alloc (.cells #[.int .i64 an, .int .i64 ad] 23)).alloc (.cells #[.int .i64 bn, .int .i64 bd] 23)) (.int .i64 u) (.int .i64 v)).ext E
  rw [show (w.alloc (.cells #[.int .i64 an, .int .i64 ad] 23)).heap.size = w.heap.size + 1 by simp] at p1
  rw [show ((w.alloc (.cells #[.int .i64 an, .int .i64 ad] 23)).alloc (.cells #[.int .i64 bn, .int .i64 bd] 23)).heap.size = w.heap.size + 1 + 1 by simp] at p2
  have B0 : Below w.heap.size w (((w.alloc (.cells #[.int .i64 an, .int .i64 ad] 23)).alloc (.cells #[.int .i64 bn, .int .i64 bd] 23)).alloc (.cells #[.int .i64 u, .int .i64 v] 23)) := (((Below.refl _ _).alloc (Nat.le_refl _) _).alloc (by simp) _).alloc (by simp; omega) _
  exact ⟨ext_trans (ext_trans B0 E) ((Below.refl _ _).alloc (Nat.le_refl _) _), p0.alloc _, p1.alloc _, p2.alloc _, Ce.new _ _ _⟩

set_option maxRecDepth 100000 in
set_option maxHeartbeats 4000000 in
theorem law_least (an ad bn bd u v : Int) (w : World) (ha1 : IsI an) (ha2 : IsI ad) (hb1 : IsI bn) (hb2 : IsI bd) (hu : IsI u) (hv : IsI v) :
    Calls Try.prog 13 #[frv an ad, frv bn bd, frv u v] w fun e w' => e = .returned (.bool true) ∧ Below w.heap.size w w' := by
  -- Simplest(c, c)
  have hsx : ∃ x y z : Int, (∀ W, Calls Try.prog 53 #[frv u v, frv u v] W (RetA W (x, y, z))) ∧ (vldB u v = true → x = u ∧ y = v ∧ z = 0) := by
    have hs := fun W => simplest_fn u v u v W hu hv hu hv
    cases hc : vldB u v
    · refine ⟨0, 0, 2, fun W => (hs W).mono fun e w' ⟨x, hx, h⟩ => ?_, fun h => by cases h⟩
      rcases hx with ⟨_, rfl⟩ | ⟨h0, _⟩
      · exact h
      · have := vldB_yes h0.1; rw [hc] at this; cases this
    · have hvv : Vld u v := of_decide_eq_true hc
      refine ⟨u, v, 0, fun W => (hs W).mono fun e w' ⟨x, hx, h⟩ => ?_, fun _ => ⟨rfl, rfl, rfl⟩⟩
      rcases hx with ⟨h0, _⟩ | ⟨_, s, t, hw, rfl⟩
      · exact absurd ⟨hvv, hvv, Int.le_refl _⟩ h0
      · obtain ⟨rfl, rfl⟩ := hw.same (Sp.weak_self hvv.1 hvv.2.2.2.2)
        exact h
  obtain ⟨x, y, z, hsx, hxv⟩ := hsx
  have hsf := fun W => simplest_fn an ad bn bd W ha1 ha2 hb1 hb2
  have hva := fun W => rvalid_any an ad W ha1 ha2
  have hvb := fun W => rvalid_any bn bd W hb1 hb2
  have hvc := fun W => rvalid_any u v W hu hv
  have hcu : vldB u v = true → 1 ≤ v ∧ v ≤ 1000000000 ∧ -1000000000 ≤ u ∧ u ≤ 1000000000 := fun h => by
    obtain ⟨c1, c2, c3, c4, _⟩ := of_decide_eq_true (p := Vld u v) h
    exact ⟨c1, c2, c3, c4⟩
  unfold RetA frv at hsx
  unfold frv at hva hvb hvc
  have HSX := Lib.hid hsx
  have HVC0 := Lib.hid hvc
  have hpre : vldB u v = false ∨ (vldB u v = true ∧ x = u ∧ y = v ∧ z = 0) := by
    cases h : vldB u v
    · exact .inl rfl
    · exact .inr ⟨rfl, hxv h⟩
  clear hsx hvc hxv
  by_cases hok : SOk an ad bn bd
  · have hok' := hok
    obtain ⟨va, vb, hle⟩ := hok'
    have hsf' : ∀ W, Calls Try.prog 53 #[frv an ad, frv bn bd] W (fun e w' => ∃ s t, Sp.Weak an ad bn bd s t ∧ e = .returned (.tuple #[frv s t, .int .i64 0]) ∧ Below W.heap.size W w') := fun W => (hsf W).mono fun e w' ⟨x, hx, h⟩ => by
      rcases hx with ⟨h0, _⟩ | ⟨_, s, t, hw, rfl⟩
      · exact absurd hok h0
      · exact ⟨s, t, hw, h.1, h.2⟩
    rw [vldB_yes va] at hva
    rw [vldB_yes vb] at hvb
    have hu0 := fun W => under_any an ad bn bd W va.2.2.1 va.2.2.2.1 va.1 va.2.1 vb.2.2.1 vb.2.2.2.1 vb.1 vb.2.1
    rw [decide_eq_true hle] at hu0
    unfold frv at hsf' hu0
    have HSF := Lib.hid hsf'
    have HU0 := Lib.hid hu0
    have HVA := Lib.hid hva
    have HVB := Lib.hid hvb
    have HVA0 := Lib.hid va
    have HVB0 := Lib.hid vb
    have HLE := Lib.hid hle
    have HCU := Lib.hid hcu
    have hui := hu.1
    have hui' := hu.2
    unfold frv
    clear hsf hsf' hok ha1 ha2 hb1 hb2 hva hvb hu0 va vb hle hcu hu hv
    rcases hpre with hp | ⟨hp, hx, hy, hz⟩
    · have hvc := HVC0.out
      rw [hp] at hvc
      have HVC := Lib.hid hvc
      clear hvc hp HVC0 HCU hui hui'
      go_enter Try.func13, Try.ntmps13
      go_upto_region 2 with (go_at_call_of 53 (Value.int .i64 u); refine (HSX.out _).mono ?_; rintro e w1 ⟨rfl, hx1⟩; have hrl := RL.start x y hx1)
      generalize w1.alloc (.cells #[.int .i64 x, .int .i64 y] 23) = wl1 at *
      generalize w1.heap.size = g1 at *
      obtain ⟨c1, c2, c3, c4⟩ := hrl.cells
      clear hx1
      go_upto_region 5 with (first
        | (go_at_call_of 21 (Value.int .i64 u); refine (HVC.out _).mono ?_; rintro e w2 ⟨rfl, hx2⟩; have hrl := hrl.call hx2; obtain ⟨c1, c2, c3, c4⟩ := hrl.cells)
        | (go_at_call_of 53 (Value.int .i64 an); refine (HSF.out _).mono ?_; rintro e w3 ⟨s, t, hwk, rfl, hx3⟩; have HWK := Lib.hid hwk; clear hwk; have hf3 := Ce.new (T := 23) w3 (.int .i64 s) (.int .i64 t); have hrl := (hrl.call hx3).call ((Below.refl _ _).alloc (Nat.le_refl _) (.cells #[.int .i64 s, .int .i64 t] 23))))
      generalize w3.alloc (.cells #[.int .i64 s, .int .i64 t] 23) = wl3 at *
      generalize w3.heap.size = g3 at *
      clear hx3 c1 c2 c3 c4
      obtain ⟨c1, c2, c3, c4⟩ := hrl.cells
      obtain ⟨f1, f2, f3⟩ := hf3.facts
      have t1 := HWK.out.t1
      have t2 := HWK.out.den (HVA0.out).1 HLE.out
      have s2 := HWK.out.num_le (M := 1000000000) (HVB0.out).1 HLE.out (HVB0.out).2.2.2.1 (by omega)
      have s1 := HWK.out.num_ge (M := 1000000000) (HVA0.out).1 HLE.out (HVA0.out).2.2.1 (by omega)
      have t3 : t ≤ 1000000000 := Int.le_trans t2 (HVA0.out).2.1
      have hvf := fun W => rvalid_any s t W ⟨by omega, by omega⟩ ⟨by omega, by omega⟩
      rw [vldB_yes ⟨t1, t3, s1, s2, HWK.out.gcd⟩] at hvf
      have hu1 := fun W => under_any an ad s t W (HVA0.out).2.2.1 (HVA0.out).2.2.2.1 (HVA0.out).1 (HVA0.out).2.1 s1 s2 t1 t3
      rw [decide_eq_true HWK.out.lo] at hu1
      have hu2 := fun W => under_any s t bn bd W s1 s2 t1 t3 (HVB0.out).2.2.1 (HVB0.out).2.2.2.1 (HVB0.out).1 (HVB0.out).2.1
      rw [decide_eq_true HWK.out.hi] at hu2
      unfold frv at hvf hu1 hu2
      have HVF := Lib.hid hvf
      have HU1 := Lib.hid hu1
      have HU2 := Lib.hid hu2
      clear hvf hu1 hu2 t2
      go_wp2_with (first
        | (go_at_call_of 21 (Value.int .i64 an); refine (HVA.out _).mono ?_; rintro e w4 ⟨rfl, hx4⟩; have hf3 := hf3.ext hx4; have hrl := hrl.call hx4; obtain ⟨c1, c2, c3, c4⟩ := hrl.cells; obtain ⟨f1, f2, f3⟩ := hf3.facts)
        | (go_at_call_of 21 (Value.int .i64 bn); refine (HVB.out _).mono ?_; rintro e w4 ⟨rfl, hx4⟩; have hf3 := hf3.ext hx4; have hrl := hrl.call hx4; obtain ⟨c1, c2, c3, c4⟩ := hrl.cells; obtain ⟨f1, f2, f3⟩ := hf3.facts)
        | (go_at_call_of 21 (Value.int .i64 u); refine (HVC.out _).mono ?_; rintro e w4 ⟨rfl, hx4⟩; have hf3 := hf3.ext hx4; have hrl := hrl.call hx4; obtain ⟨c1, c2, c3, c4⟩ := hrl.cells; obtain ⟨f1, f2, f3⟩ := hf3.facts)
        | (go_at_call_of 21 (Value.int .i64 s); refine (HVF.out _).mono ?_; rintro e w4 ⟨rfl, hx4⟩; have hf3 := hf3.ext hx4; have hrl := hrl.call hx4; obtain ⟨c1, c2, c3, c4⟩ := hrl.cells; obtain ⟨f1, f2, f3⟩ := hf3.facts)
        | (go_at_call 43; ((with_reducible refine (HU0.out _).mono ?_)); rintro e w4 ⟨rfl, hx4⟩; have hf3 := hf3.ext hx4; have hrl := hrl.call hx4; obtain ⟨c1, c2, c3, c4⟩ := hrl.cells; obtain ⟨f1, f2, f3⟩ := hf3.facts)
        | (go_at_call 43; ((with_reducible refine (HU1.out _).mono ?_)); rintro e w4 ⟨rfl, hx4⟩; have hf3 := hf3.ext hx4; have hrl := hrl.call hx4; obtain ⟨c1, c2, c3, c4⟩ := hrl.cells; obtain ⟨f1, f2, f3⟩ := hf3.facts)
        | (go_at_call 43; ((with_reducible refine (HU2.out _).mono ?_)); rintro e w4 ⟨rfl, hx4⟩; have hf3 := hf3.ext hx4; have hrl := hrl.call hx4; obtain ⟨c1, c2, c3, c4⟩ := hrl.cells; obtain ⟨f1, f2, f3⟩ := hf3.facts)
        | (go_at_call 22; refine (awake_any _).mono ?_; rintro e w5 ⟨rfl, hx5⟩; have hrl := hrl.call hx5))
      all_goals
        go_ret
        exact ⟨rfl, hrl.1⟩
    · obtain rfl : u = x := hx.symm
      obtain rfl : v = y := hy.symm
      obtain rfl : 0 = z := hz.symm
      clear hx hy hz hui hui'
      have hvc := HVC0.out
      rw [hp] at hvc
      have HVC := Lib.hid hvc
      obtain ⟨q1, q2, q3, q4⟩ := HCU.out hp
      clear hvc hp HVC0 HCU
      go_enter Try.func13, Try.ntmps13
      go_upto_region 2 with (go_at_call_of 53 (Value.int .i64 u); refine (HSX.out _).mono ?_; rintro e w1 ⟨rfl, hx1⟩; have hrl := RL.start u v hx1)
      generalize w1.alloc (.cells #[.int .i64 u, .int .i64 v] 23) = wl1 at *
      generalize w1.heap.size = g1 at *
      obtain ⟨c1, c2, c3, c4⟩ := hrl.cells
      clear hx1
      go_upto_region 5 with (first
        | (go_at_call_of 21 (Value.int .i64 u); refine (HVC.out _).mono ?_; rintro e w2 ⟨rfl, hx2⟩; have hrl := hrl.call hx2; obtain ⟨c1, c2, c3, c4⟩ := hrl.cells)
        | (go_at_call_of 53 (Value.int .i64 an); refine (HSF.out _).mono ?_; rintro e w3 ⟨s, t, hwk, rfl, hx3⟩; have HWK := Lib.hid hwk; clear hwk; have hf3 := Ce.new (T := 23) w3 (.int .i64 s) (.int .i64 t); have hrl := (hrl.call hx3).call ((Below.refl _ _).alloc (Nat.le_refl _) (.cells #[.int .i64 s, .int .i64 t] 23))))
      generalize w3.alloc (.cells #[.int .i64 s, .int .i64 t] 23) = wl3 at *
      generalize w3.heap.size = g3 at *
      clear hx3 c1 c2 c3 c4
      obtain ⟨c1, c2, c3, c4⟩ := hrl.cells
      obtain ⟨f1, f2, f3⟩ := hf3.facts
      have t1 := HWK.out.t1
      have t2 := HWK.out.den (HVA0.out).1 HLE.out
      have s2 := HWK.out.num_le (M := 1000000000) (HVB0.out).1 HLE.out (HVB0.out).2.2.2.1 (by omega)
      have s1 := HWK.out.num_ge (M := 1000000000) (HVA0.out).1 HLE.out (HVA0.out).2.2.1 (by omega)
      have t3 : t ≤ 1000000000 := Int.le_trans t2 (HVA0.out).2.1
      have hvf := fun W => rvalid_any s t W ⟨by omega, by omega⟩ ⟨by omega, by omega⟩
      rw [vldB_yes ⟨t1, t3, s1, s2, HWK.out.gcd⟩] at hvf
      have hu1 := fun W => under_any an ad s t W (HVA0.out).2.2.1 (HVA0.out).2.2.2.1 (HVA0.out).1 (HVA0.out).2.1 s1 s2 t1 t3
      rw [decide_eq_true HWK.out.lo] at hu1
      have hu2 := fun W => under_any s t bn bd W s1 s2 t1 t3 (HVB0.out).2.2.1 (HVB0.out).2.2.2.1 (HVB0.out).1 (HVB0.out).2.1
      rw [decide_eq_true HWK.out.hi] at hu2
      unfold frv at hvf hu1 hu2
      have HVF := Lib.hid hvf
      have HU1 := Lib.hid hu1
      have HU2 := Lib.hid hu2
      clear hvf hu1 hu2 t2
      have hu3 := fun W => under_any an ad u v W (HVA0.out).2.2.1 (HVA0.out).2.2.2.1 (HVA0.out).1 (HVA0.out).2.1 q3 q4 q1 q2
      have hu4 := fun W => under_any u v bn bd W q3 q4 q1 q2 (HVB0.out).2.2.1 (HVB0.out).2.2.2.1 (HVB0.out).1 (HVB0.out).2.1
      unfold frv at hu3 hu4
      by_cases k1 : an * v ≤ u * ad
      · rw [decide_eq_true k1] at hu3
        by_cases k2 : u * bd ≤ bn * v
        · rw [decide_eq_true k2] at hu4
          have hmin := HWK.out.min u v q1 k1 k2
          have HU3 := Lib.hid hu3
          have HU4 := Lib.hid hu4
          clear hu3 hu4 k1 k2
          rcases hmin with h | ⟨h, h' | h'⟩
          · have hne : ¬ v = t := by omega
            go_wp2_with (first
              | (go_at_call_of 21 (Value.int .i64 an); refine (HVA.out _).mono ?_; rintro e w4 ⟨rfl, hx4⟩; have hf3 := hf3.ext hx4; have hrl := hrl.call hx4; obtain ⟨c1, c2, c3, c4⟩ := hrl.cells; obtain ⟨f1, f2, f3⟩ := hf3.facts)
              | (go_at_call_of 21 (Value.int .i64 bn); refine (HVB.out _).mono ?_; rintro e w4 ⟨rfl, hx4⟩; have hf3 := hf3.ext hx4; have hrl := hrl.call hx4; obtain ⟨c1, c2, c3, c4⟩ := hrl.cells; obtain ⟨f1, f2, f3⟩ := hf3.facts)
              | (go_at_call_of 21 (Value.int .i64 u); refine (HVC.out _).mono ?_; rintro e w4 ⟨rfl, hx4⟩; have hf3 := hf3.ext hx4; have hrl := hrl.call hx4; obtain ⟨c1, c2, c3, c4⟩ := hrl.cells; obtain ⟨f1, f2, f3⟩ := hf3.facts)
              | (go_at_call_of 21 (Value.int .i64 s); refine (HVF.out _).mono ?_; rintro e w4 ⟨rfl, hx4⟩; have hf3 := hf3.ext hx4; have hrl := hrl.call hx4; obtain ⟨c1, c2, c3, c4⟩ := hrl.cells; obtain ⟨f1, f2, f3⟩ := hf3.facts)
              | (go_at_call 43; ((with_reducible refine (HU0.out _).mono ?_)); rintro e w4 ⟨rfl, hx4⟩; have hf3 := hf3.ext hx4; have hrl := hrl.call hx4; obtain ⟨c1, c2, c3, c4⟩ := hrl.cells; obtain ⟨f1, f2, f3⟩ := hf3.facts)
              | (go_at_call 43; ((with_reducible refine (HU1.out _).mono ?_)); rintro e w4 ⟨rfl, hx4⟩; have hf3 := hf3.ext hx4; have hrl := hrl.call hx4; obtain ⟨c1, c2, c3, c4⟩ := hrl.cells; obtain ⟨f1, f2, f3⟩ := hf3.facts)
              | (go_at_call 43; ((with_reducible refine (HU2.out _).mono ?_)); rintro e w4 ⟨rfl, hx4⟩; have hf3 := hf3.ext hx4; have hrl := hrl.call hx4; obtain ⟨c1, c2, c3, c4⟩ := hrl.cells; obtain ⟨f1, f2, f3⟩ := hf3.facts)
              | (go_at_call 43; ((with_reducible refine (HU3.out _).mono ?_)); rintro e w4 ⟨rfl, hx4⟩; have hf3 := hf3.ext hx4; have hrl := hrl.call hx4; obtain ⟨c1, c2, c3, c4⟩ := hrl.cells; obtain ⟨f1, f2, f3⟩ := hf3.facts)
              | (go_at_call 43; ((with_reducible refine (HU4.out _).mono ?_)); rintro e w4 ⟨rfl, hx4⟩; have hf3 := hf3.ext hx4; have hrl := hrl.call hx4; obtain ⟨c1, c2, c3, c4⟩ := hrl.cells; obtain ⟨f1, f2, f3⟩ := hf3.facts)
              | (go_at_call 22; refine (awake_any _).mono ?_; rintro e w5 ⟨rfl, hx5⟩; have hrl := hrl.call hx5))
            all_goals
              go_ret
              exact ⟨rfl, hrl.1⟩
          · obtain rfl : v = t := h
            obtain rfl : u = s := h'
            have hlt : ¬ v < v := by omega
            go_wp2_with (first
              | (go_at_call_of 21 (Value.int .i64 an); refine (HVA.out _).mono ?_; rintro e w4 ⟨rfl, hx4⟩; have hf3 := hf3.ext hx4; have hrl := hrl.call hx4; obtain ⟨c1, c2, c3, c4⟩ := hrl.cells; obtain ⟨f1, f2, f3⟩ := hf3.facts)
              | (go_at_call_of 21 (Value.int .i64 bn); refine (HVB.out _).mono ?_; rintro e w4 ⟨rfl, hx4⟩; have hf3 := hf3.ext hx4; have hrl := hrl.call hx4; obtain ⟨c1, c2, c3, c4⟩ := hrl.cells; obtain ⟨f1, f2, f3⟩ := hf3.facts)
              | (go_at_call_of 21 (Value.int .i64 u); refine (HVC.out _).mono ?_; rintro e w4 ⟨rfl, hx4⟩; have hf3 := hf3.ext hx4; have hrl := hrl.call hx4; obtain ⟨c1, c2, c3, c4⟩ := hrl.cells; obtain ⟨f1, f2, f3⟩ := hf3.facts)
              | (go_at_call_of 21 (Value.int .i64 s); refine (HVF.out _).mono ?_; rintro e w4 ⟨rfl, hx4⟩; have hf3 := hf3.ext hx4; have hrl := hrl.call hx4; obtain ⟨c1, c2, c3, c4⟩ := hrl.cells; obtain ⟨f1, f2, f3⟩ := hf3.facts)
              | (go_at_call 43; ((with_reducible refine (HU0.out _).mono ?_)); rintro e w4 ⟨rfl, hx4⟩; have hf3 := hf3.ext hx4; have hrl := hrl.call hx4; obtain ⟨c1, c2, c3, c4⟩ := hrl.cells; obtain ⟨f1, f2, f3⟩ := hf3.facts)
              | (go_at_call 43; ((with_reducible refine (HU1.out _).mono ?_)); rintro e w4 ⟨rfl, hx4⟩; have hf3 := hf3.ext hx4; have hrl := hrl.call hx4; obtain ⟨c1, c2, c3, c4⟩ := hrl.cells; obtain ⟨f1, f2, f3⟩ := hf3.facts)
              | (go_at_call 43; ((with_reducible refine (HU2.out _).mono ?_)); rintro e w4 ⟨rfl, hx4⟩; have hf3 := hf3.ext hx4; have hrl := hrl.call hx4; obtain ⟨c1, c2, c3, c4⟩ := hrl.cells; obtain ⟨f1, f2, f3⟩ := hf3.facts)
              | (go_at_call 43; ((with_reducible refine (HU3.out _).mono ?_)); rintro e w4 ⟨rfl, hx4⟩; have hf3 := hf3.ext hx4; have hrl := hrl.call hx4; obtain ⟨c1, c2, c3, c4⟩ := hrl.cells; obtain ⟨f1, f2, f3⟩ := hf3.facts)
              | (go_at_call 43; ((with_reducible refine (HU4.out _).mono ?_)); rintro e w4 ⟨rfl, hx4⟩; have hf3 := hf3.ext hx4; have hrl := hrl.call hx4; obtain ⟨c1, c2, c3, c4⟩ := hrl.cells; obtain ⟨f1, f2, f3⟩ := hf3.facts)
              | (go_at_call 22; refine (awake_any _).mono ?_; rintro e w5 ⟨rfl, hx5⟩; have hrl := hrl.call hx5))
            all_goals
              go_ret
              exact ⟨rfl, hrl.1⟩
          · obtain rfl : v = t := h
            have hlt : ¬ v < v := by omega
            have hus : ¬ u = s := by omega
            have hsg : (0 ≤ u ∧ 0 ≤ s ∧ s < u) ∨ (0 ≤ u ∧ s < 0 ∧ -s < u) ∨ (u < 0 ∧ 0 ≤ s ∧ s < -u) ∨ (u < 0 ∧ s < 0 ∧ -s < -u) := by omega
            clear h'
            rcases hsg with ⟨g1', g2', g3'⟩ | ⟨g1', g2', g3'⟩ | ⟨g1', g2', g3'⟩ | ⟨g1', g2', g3'⟩
            all_goals
              go_wp2_with (first
                | (go_at_call_of 21 (Value.int .i64 an); refine (HVA.out _).mono ?_; rintro e w4 ⟨rfl, hx4⟩; have hf3 := hf3.ext hx4; have hrl := hrl.call hx4; obtain ⟨c1, c2, c3, c4⟩ := hrl.cells; obtain ⟨f1, f2, f3⟩ := hf3.facts)
                | (go_at_call_of 21 (Value.int .i64 bn); refine (HVB.out _).mono ?_; rintro e w4 ⟨rfl, hx4⟩; have hf3 := hf3.ext hx4; have hrl := hrl.call hx4; obtain ⟨c1, c2, c3, c4⟩ := hrl.cells; obtain ⟨f1, f2, f3⟩ := hf3.facts)
                | (go_at_call_of 21 (Value.int .i64 u); refine (HVC.out _).mono ?_; rintro e w4 ⟨rfl, hx4⟩; have hf3 := hf3.ext hx4; have hrl := hrl.call hx4; obtain ⟨c1, c2, c3, c4⟩ := hrl.cells; obtain ⟨f1, f2, f3⟩ := hf3.facts)
                | (go_at_call_of 21 (Value.int .i64 s); refine (HVF.out _).mono ?_; rintro e w4 ⟨rfl, hx4⟩; have hf3 := hf3.ext hx4; have hrl := hrl.call hx4; obtain ⟨c1, c2, c3, c4⟩ := hrl.cells; obtain ⟨f1, f2, f3⟩ := hf3.facts)
                | (go_at_call 43; ((with_reducible refine (HU0.out _).mono ?_)); rintro e w4 ⟨rfl, hx4⟩; have hf3 := hf3.ext hx4; have hrl := hrl.call hx4; obtain ⟨c1, c2, c3, c4⟩ := hrl.cells; obtain ⟨f1, f2, f3⟩ := hf3.facts)
                | (go_at_call 43; ((with_reducible refine (HU1.out _).mono ?_)); rintro e w4 ⟨rfl, hx4⟩; have hf3 := hf3.ext hx4; have hrl := hrl.call hx4; obtain ⟨c1, c2, c3, c4⟩ := hrl.cells; obtain ⟨f1, f2, f3⟩ := hf3.facts)
                | (go_at_call 43; ((with_reducible refine (HU2.out _).mono ?_)); rintro e w4 ⟨rfl, hx4⟩; have hf3 := hf3.ext hx4; have hrl := hrl.call hx4; obtain ⟨c1, c2, c3, c4⟩ := hrl.cells; obtain ⟨f1, f2, f3⟩ := hf3.facts)
                | (go_at_call 43; ((with_reducible refine (HU3.out _).mono ?_)); rintro e w4 ⟨rfl, hx4⟩; have hf3 := hf3.ext hx4; have hrl := hrl.call hx4; obtain ⟨c1, c2, c3, c4⟩ := hrl.cells; obtain ⟨f1, f2, f3⟩ := hf3.facts)
                | (go_at_call 43; ((with_reducible refine (HU4.out _).mono ?_)); rintro e w4 ⟨rfl, hx4⟩; have hf3 := hf3.ext hx4; have hrl := hrl.call hx4; obtain ⟨c1, c2, c3, c4⟩ := hrl.cells; obtain ⟨f1, f2, f3⟩ := hf3.facts)
                | (go_at_call 22; refine (awake_any _).mono ?_; rintro e w5 ⟨rfl, hx5⟩; have hrl := hrl.call hx5))
              all_goals
                go_ret
                first | exact ⟨rfl, hrl.1⟩ | exact ⟨ret_bool (decide_eq_true (by omega)), hrl.1⟩
        · rw [decide_eq_false k2] at hu4
          have HU3 := Lib.hid hu3
          have HU4 := Lib.hid hu4
          clear hu3 hu4 k1 k2
          go_wp2_with (first
            | (go_at_call_of 21 (Value.int .i64 an); refine (HVA.out _).mono ?_; rintro e w4 ⟨rfl, hx4⟩; have hf3 := hf3.ext hx4; have hrl := hrl.call hx4; obtain ⟨c1, c2, c3, c4⟩ := hrl.cells; obtain ⟨f1, f2, f3⟩ := hf3.facts)
            | (go_at_call_of 21 (Value.int .i64 bn); refine (HVB.out _).mono ?_; rintro e w4 ⟨rfl, hx4⟩; have hf3 := hf3.ext hx4; have hrl := hrl.call hx4; obtain ⟨c1, c2, c3, c4⟩ := hrl.cells; obtain ⟨f1, f2, f3⟩ := hf3.facts)
            | (go_at_call_of 21 (Value.int .i64 u); refine (HVC.out _).mono ?_; rintro e w4 ⟨rfl, hx4⟩; have hf3 := hf3.ext hx4; have hrl := hrl.call hx4; obtain ⟨c1, c2, c3, c4⟩ := hrl.cells; obtain ⟨f1, f2, f3⟩ := hf3.facts)
            | (go_at_call_of 21 (Value.int .i64 s); refine (HVF.out _).mono ?_; rintro e w4 ⟨rfl, hx4⟩; have hf3 := hf3.ext hx4; have hrl := hrl.call hx4; obtain ⟨c1, c2, c3, c4⟩ := hrl.cells; obtain ⟨f1, f2, f3⟩ := hf3.facts)
            | (go_at_call 43; ((with_reducible refine (HU0.out _).mono ?_)); rintro e w4 ⟨rfl, hx4⟩; have hf3 := hf3.ext hx4; have hrl := hrl.call hx4; obtain ⟨c1, c2, c3, c4⟩ := hrl.cells; obtain ⟨f1, f2, f3⟩ := hf3.facts)
            | (go_at_call 43; ((with_reducible refine (HU1.out _).mono ?_)); rintro e w4 ⟨rfl, hx4⟩; have hf3 := hf3.ext hx4; have hrl := hrl.call hx4; obtain ⟨c1, c2, c3, c4⟩ := hrl.cells; obtain ⟨f1, f2, f3⟩ := hf3.facts)
            | (go_at_call 43; ((with_reducible refine (HU2.out _).mono ?_)); rintro e w4 ⟨rfl, hx4⟩; have hf3 := hf3.ext hx4; have hrl := hrl.call hx4; obtain ⟨c1, c2, c3, c4⟩ := hrl.cells; obtain ⟨f1, f2, f3⟩ := hf3.facts)
            | (go_at_call 43; ((with_reducible refine (HU3.out _).mono ?_)); rintro e w4 ⟨rfl, hx4⟩; have hf3 := hf3.ext hx4; have hrl := hrl.call hx4; obtain ⟨c1, c2, c3, c4⟩ := hrl.cells; obtain ⟨f1, f2, f3⟩ := hf3.facts)
            | (go_at_call 43; ((with_reducible refine (HU4.out _).mono ?_)); rintro e w4 ⟨rfl, hx4⟩; have hf3 := hf3.ext hx4; have hrl := hrl.call hx4; obtain ⟨c1, c2, c3, c4⟩ := hrl.cells; obtain ⟨f1, f2, f3⟩ := hf3.facts)
            | (go_at_call 22; refine (awake_any _).mono ?_; rintro e w5 ⟨rfl, hx5⟩; have hrl := hrl.call hx5))
          all_goals
            go_ret
            exact ⟨rfl, hrl.1⟩
      · rw [decide_eq_false k1] at hu3
        have HU3 := Lib.hid hu3
        clear hu3 hu4 k1
        go_wp2_with (first
          | (go_at_call_of 21 (Value.int .i64 an); refine (HVA.out _).mono ?_; rintro e w4 ⟨rfl, hx4⟩; have hf3 := hf3.ext hx4; have hrl := hrl.call hx4; obtain ⟨c1, c2, c3, c4⟩ := hrl.cells; obtain ⟨f1, f2, f3⟩ := hf3.facts)
          | (go_at_call_of 21 (Value.int .i64 bn); refine (HVB.out _).mono ?_; rintro e w4 ⟨rfl, hx4⟩; have hf3 := hf3.ext hx4; have hrl := hrl.call hx4; obtain ⟨c1, c2, c3, c4⟩ := hrl.cells; obtain ⟨f1, f2, f3⟩ := hf3.facts)
          | (go_at_call_of 21 (Value.int .i64 u); refine (HVC.out _).mono ?_; rintro e w4 ⟨rfl, hx4⟩; have hf3 := hf3.ext hx4; have hrl := hrl.call hx4; obtain ⟨c1, c2, c3, c4⟩ := hrl.cells; obtain ⟨f1, f2, f3⟩ := hf3.facts)
          | (go_at_call_of 21 (Value.int .i64 s); refine (HVF.out _).mono ?_; rintro e w4 ⟨rfl, hx4⟩; have hf3 := hf3.ext hx4; have hrl := hrl.call hx4; obtain ⟨c1, c2, c3, c4⟩ := hrl.cells; obtain ⟨f1, f2, f3⟩ := hf3.facts)
          | (go_at_call 43; ((with_reducible refine (HU0.out _).mono ?_)); rintro e w4 ⟨rfl, hx4⟩; have hf3 := hf3.ext hx4; have hrl := hrl.call hx4; obtain ⟨c1, c2, c3, c4⟩ := hrl.cells; obtain ⟨f1, f2, f3⟩ := hf3.facts)
          | (go_at_call 43; ((with_reducible refine (HU1.out _).mono ?_)); rintro e w4 ⟨rfl, hx4⟩; have hf3 := hf3.ext hx4; have hrl := hrl.call hx4; obtain ⟨c1, c2, c3, c4⟩ := hrl.cells; obtain ⟨f1, f2, f3⟩ := hf3.facts)
          | (go_at_call 43; ((with_reducible refine (HU2.out _).mono ?_)); rintro e w4 ⟨rfl, hx4⟩; have hf3 := hf3.ext hx4; have hrl := hrl.call hx4; obtain ⟨c1, c2, c3, c4⟩ := hrl.cells; obtain ⟨f1, f2, f3⟩ := hf3.facts)
          | (go_at_call 43; ((with_reducible refine (HU3.out _).mono ?_)); rintro e w4 ⟨rfl, hx4⟩; have hf3 := hf3.ext hx4; have hrl := hrl.call hx4; obtain ⟨c1, c2, c3, c4⟩ := hrl.cells; obtain ⟨f1, f2, f3⟩ := hf3.facts)
          | (go_at_call 22; refine (awake_any _).mono ?_; rintro e w5 ⟨rfl, hx5⟩; have hrl := hrl.call hx5))
        all_goals
          go_ret
          exact ⟨rfl, hrl.1⟩
  · have hsf' : ∀ W, Calls Try.prog 53 #[frv an ad, frv bn bd] W (RetA W (0, 0, 2)) := fun W => (hsf W).mono fun e w' ⟨x, hx, h⟩ => by
      rcases hx with ⟨_, rfl⟩ | ⟨h0, _⟩
      · exact h
      · exact absurd h0 hok
    have hcase : vldB an ad = false ∨ (vldB an ad = true ∧ vldB bn bd = false) ∨ (vldB an ad = true ∧ vldB bn bd = true ∧ ∀ W, Calls Try.prog 43 #[frv an ad, frv bn bd] W fun e w' => e = .returned (.bool false) ∧ Below W.heap.size W w') := by
      cases h : vldB an ad
      · exact .inl rfl
      · cases h' : vldB bn bd
        · exact .inr (.inl ⟨rfl, rfl⟩)
        · refine .inr (.inr ⟨rfl, rfl, fun W => ?_⟩)
          have va : Vld an ad := of_decide_eq_true h
          have vb : Vld bn bd := of_decide_eq_true h'
          have := under_any an ad bn bd W va.2.2.1 va.2.2.2.1 va.1 va.2.1 vb.2.2.1 vb.2.2.2.1 vb.1 vb.2.1
          rw [decide_eq_false (fun hle => hok ⟨va, vb, hle⟩)] at this
          exact this
    unfold RetA frv at hsf'
    unfold frv at hcase
    have HSF := Lib.hid hsf'
    unfold frv
    clear hsf hsf' hok ha1 ha2 hb1 hb2 hu hv
    have hrun : True := trivial
    clear hrun
    rcases hpre with hp | ⟨hp, hx, hy, hz⟩
    · have hvc := HVC0.out
      rw [hp] at hvc
      have HVC := Lib.hid hvc
      clear hvc hp HVC0
      rcases hcase with h | ⟨h, h'⟩ | ⟨h, h', hun⟩
      · rw [h] at hva
        have HVA := Lib.hid hva
        clear hva h hvb
        go_enter Try.func13, Try.ntmps13
        go_upto_region 2 with (go_at_call_of 53 (Value.int .i64 u); refine (HSX.out _).mono ?_; rintro e w1 ⟨rfl, hx1⟩; have hrl := RL.start x y hx1)
        generalize w1.alloc (.cells #[.int .i64 x, .int .i64 y] 23) = wl1 at *
        generalize w1.heap.size = g1 at *
        obtain ⟨c1, c2, c3, c4⟩ := hrl.cells
        clear hx1
        go_upto_region 5 with (first
          | (go_at_call_of 21 (Value.int .i64 u); refine (HVC.out _).mono ?_; rintro e w2 ⟨rfl, hx2⟩; have hrl := hrl.call hx2; obtain ⟨c1, c2, c3, c4⟩ := hrl.cells)
          | (go_at_call_of 53 (Value.int .i64 an); refine (HSF.out _).mono ?_; rintro e w3 ⟨rfl, hx3⟩; have hf3 := Ce.new (T := 23) w3 (.int .i64 0) (.int .i64 0); have hrl := (hrl.call hx3).call ((Below.refl _ _).alloc (Nat.le_refl _) (.cells #[.int .i64 0, .int .i64 0] 23))))
        generalize w3.alloc (.cells #[.int .i64 0, .int .i64 0] 23) = wl3 at *
        generalize w3.heap.size = g3 at *
        clear hx3 c1 c2 c3 c4
        obtain ⟨c1, c2, c3, c4⟩ := hrl.cells
        obtain ⟨f1, f2, f3⟩ := hf3.facts
        go_wp2_with (first
          | (go_at_call_of 21 (Value.int .i64 an); refine (HVA.out _).mono ?_; rintro e w4 ⟨rfl, hx4⟩; have hf3 := hf3.ext hx4; have hrl := hrl.call hx4; obtain ⟨c1, c2, c3, c4⟩ := hrl.cells; obtain ⟨f1, f2, f3⟩ := hf3.facts)
          | (go_at_call 22; refine (awake_any _).mono ?_; rintro e w5 ⟨rfl, hx5⟩; have hrl := hrl.call hx5))
        go_ret
        exact ⟨rfl, hrl.1⟩
      · rw [h] at hva
        have HVA := Lib.hid hva
        rw [h'] at hvb
        have HVB := Lib.hid hvb
        clear hva h hvb h'
        go_enter Try.func13, Try.ntmps13
        go_upto_region 2 with (go_at_call_of 53 (Value.int .i64 u); refine (HSX.out _).mono ?_; rintro e w1 ⟨rfl, hx1⟩; have hrl := RL.start x y hx1)
        generalize w1.alloc (.cells #[.int .i64 x, .int .i64 y] 23) = wl1 at *
        generalize w1.heap.size = g1 at *
        obtain ⟨c1, c2, c3, c4⟩ := hrl.cells
        clear hx1
        go_upto_region 5 with (first
          | (go_at_call_of 21 (Value.int .i64 u); refine (HVC.out _).mono ?_; rintro e w2 ⟨rfl, hx2⟩; have hrl := hrl.call hx2; obtain ⟨c1, c2, c3, c4⟩ := hrl.cells)
          | (go_at_call_of 53 (Value.int .i64 an); refine (HSF.out _).mono ?_; rintro e w3 ⟨rfl, hx3⟩; have hf3 := Ce.new (T := 23) w3 (.int .i64 0) (.int .i64 0); have hrl := (hrl.call hx3).call ((Below.refl _ _).alloc (Nat.le_refl _) (.cells #[.int .i64 0, .int .i64 0] 23))))
        generalize w3.alloc (.cells #[.int .i64 0, .int .i64 0] 23) = wl3 at *
        generalize w3.heap.size = g3 at *
        clear hx3 c1 c2 c3 c4
        obtain ⟨c1, c2, c3, c4⟩ := hrl.cells
        obtain ⟨f1, f2, f3⟩ := hf3.facts
        go_wp2_with (first
          | (go_at_call_of 21 (Value.int .i64 an); refine (HVA.out _).mono ?_; rintro e w4 ⟨rfl, hx4⟩; have hf3 := hf3.ext hx4; have hrl := hrl.call hx4; obtain ⟨c1, c2, c3, c4⟩ := hrl.cells; obtain ⟨f1, f2, f3⟩ := hf3.facts)
          | (go_at_call_of 21 (Value.int .i64 bn); refine (HVB.out _).mono ?_; rintro e w4 ⟨rfl, hx4⟩; have hf3 := hf3.ext hx4; have hrl := hrl.call hx4; obtain ⟨c1, c2, c3, c4⟩ := hrl.cells; obtain ⟨f1, f2, f3⟩ := hf3.facts)
          | (go_at_call 22; refine (awake_any _).mono ?_; rintro e w5 ⟨rfl, hx5⟩; have hrl := hrl.call hx5))
        go_ret
        exact ⟨rfl, hrl.1⟩
      · rw [h] at hva
        have HVA := Lib.hid hva
        rw [h'] at hvb
        have HVB := Lib.hid hvb
        have HUN := Lib.hid hun
        clear hva h hvb h' hun
        go_enter Try.func13, Try.ntmps13
        go_upto_region 2 with (go_at_call_of 53 (Value.int .i64 u); refine (HSX.out _).mono ?_; rintro e w1 ⟨rfl, hx1⟩; have hrl := RL.start x y hx1)
        generalize w1.alloc (.cells #[.int .i64 x, .int .i64 y] 23) = wl1 at *
        generalize w1.heap.size = g1 at *
        obtain ⟨c1, c2, c3, c4⟩ := hrl.cells
        clear hx1
        go_upto_region 5 with (first
          | (go_at_call_of 21 (Value.int .i64 u); refine (HVC.out _).mono ?_; rintro e w2 ⟨rfl, hx2⟩; have hrl := hrl.call hx2; obtain ⟨c1, c2, c3, c4⟩ := hrl.cells)
          | (go_at_call_of 53 (Value.int .i64 an); refine (HSF.out _).mono ?_; rintro e w3 ⟨rfl, hx3⟩; have hf3 := Ce.new (T := 23) w3 (.int .i64 0) (.int .i64 0); have hrl := (hrl.call hx3).call ((Below.refl _ _).alloc (Nat.le_refl _) (.cells #[.int .i64 0, .int .i64 0] 23))))
        generalize w3.alloc (.cells #[.int .i64 0, .int .i64 0] 23) = wl3 at *
        generalize w3.heap.size = g3 at *
        clear hx3 c1 c2 c3 c4
        obtain ⟨c1, c2, c3, c4⟩ := hrl.cells
        obtain ⟨f1, f2, f3⟩ := hf3.facts
        go_wp2_with (first
          | (go_at_call_of 21 (Value.int .i64 an); refine (HVA.out _).mono ?_; rintro e w4 ⟨rfl, hx4⟩; have hf3 := hf3.ext hx4; have hrl := hrl.call hx4; obtain ⟨c1, c2, c3, c4⟩ := hrl.cells; obtain ⟨f1, f2, f3⟩ := hf3.facts)
          | (go_at_call_of 21 (Value.int .i64 bn); refine (HVB.out _).mono ?_; rintro e w4 ⟨rfl, hx4⟩; have hf3 := hf3.ext hx4; have hrl := hrl.call hx4; obtain ⟨c1, c2, c3, c4⟩ := hrl.cells; obtain ⟨f1, f2, f3⟩ := hf3.facts)
          | (go_at_call 43; refine (HUN.out _).mono ?_; rintro e w4 ⟨rfl, hx4⟩; have hf3 := hf3.ext hx4; have hrl := hrl.call hx4; obtain ⟨c1, c2, c3, c4⟩ := hrl.cells; obtain ⟨f1, f2, f3⟩ := hf3.facts)
          | (go_at_call 22; refine (awake_any _).mono ?_; rintro e w5 ⟨rfl, hx5⟩; have hrl := hrl.call hx5))
        go_ret
        exact ⟨rfl, hrl.1⟩
    · obtain rfl : u = x := hx.symm
      obtain rfl : v = y := hy.symm
      obtain rfl : 0 = z := hz.symm
      clear hx hy hz
      have hvc := HVC0.out
      rw [hp] at hvc
      have HVC := Lib.hid hvc
      clear hvc hp HVC0
      rcases hcase with h | ⟨h, h'⟩ | ⟨h, h', hun⟩
      · rw [h] at hva
        have HVA := Lib.hid hva
        clear hva h hvb
        go_enter Try.func13, Try.ntmps13
        go_upto_region 2 with (go_at_call_of 53 (Value.int .i64 u); refine (HSX.out _).mono ?_; rintro e w1 ⟨rfl, hx1⟩; have hrl := RL.start u v hx1)
        generalize w1.alloc (.cells #[.int .i64 u, .int .i64 v] 23) = wl1 at *
        generalize w1.heap.size = g1 at *
        obtain ⟨c1, c2, c3, c4⟩ := hrl.cells
        clear hx1
        go_upto_region 5 with (first
          | (go_at_call_of 21 (Value.int .i64 u); refine (HVC.out _).mono ?_; rintro e w2 ⟨rfl, hx2⟩; have hrl := hrl.call hx2; obtain ⟨c1, c2, c3, c4⟩ := hrl.cells)
          | (go_at_call_of 53 (Value.int .i64 an); refine (HSF.out _).mono ?_; rintro e w3 ⟨rfl, hx3⟩; have hf3 := Ce.new (T := 23) w3 (.int .i64 0) (.int .i64 0); have hrl := (hrl.call hx3).call ((Below.refl _ _).alloc (Nat.le_refl _) (.cells #[.int .i64 0, .int .i64 0] 23))))
        generalize w3.alloc (.cells #[.int .i64 0, .int .i64 0] 23) = wl3 at *
        generalize w3.heap.size = g3 at *
        clear hx3 c1 c2 c3 c4
        obtain ⟨c1, c2, c3, c4⟩ := hrl.cells
        obtain ⟨f1, f2, f3⟩ := hf3.facts
        go_wp2_with (first
          | (go_at_call_of 21 (Value.int .i64 an); refine (HVA.out _).mono ?_; rintro e w4 ⟨rfl, hx4⟩; have hf3 := hf3.ext hx4; have hrl := hrl.call hx4; obtain ⟨c1, c2, c3, c4⟩ := hrl.cells; obtain ⟨f1, f2, f3⟩ := hf3.facts)
          | (go_at_call 22; refine (awake_any _).mono ?_; rintro e w5 ⟨rfl, hx5⟩; have hrl := hrl.call hx5))
        go_ret
        exact ⟨rfl, hrl.1⟩
      · rw [h] at hva
        have HVA := Lib.hid hva
        rw [h'] at hvb
        have HVB := Lib.hid hvb
        clear hva h hvb h'
        go_enter Try.func13, Try.ntmps13
        go_upto_region 2 with (go_at_call_of 53 (Value.int .i64 u); refine (HSX.out _).mono ?_; rintro e w1 ⟨rfl, hx1⟩; have hrl := RL.start u v hx1)
        generalize w1.alloc (.cells #[.int .i64 u, .int .i64 v] 23) = wl1 at *
        generalize w1.heap.size = g1 at *
        obtain ⟨c1, c2, c3, c4⟩ := hrl.cells
        clear hx1
        go_upto_region 5 with (first
          | (go_at_call_of 21 (Value.int .i64 u); refine (HVC.out _).mono ?_; rintro e w2 ⟨rfl, hx2⟩; have hrl := hrl.call hx2; obtain ⟨c1, c2, c3, c4⟩ := hrl.cells)
          | (go_at_call_of 53 (Value.int .i64 an); refine (HSF.out _).mono ?_; rintro e w3 ⟨rfl, hx3⟩; have hf3 := Ce.new (T := 23) w3 (.int .i64 0) (.int .i64 0); have hrl := (hrl.call hx3).call ((Below.refl _ _).alloc (Nat.le_refl _) (.cells #[.int .i64 0, .int .i64 0] 23))))
        generalize w3.alloc (.cells #[.int .i64 0, .int .i64 0] 23) = wl3 at *
        generalize w3.heap.size = g3 at *
        clear hx3 c1 c2 c3 c4
        obtain ⟨c1, c2, c3, c4⟩ := hrl.cells
        obtain ⟨f1, f2, f3⟩ := hf3.facts
        go_wp2_with (first
          | (go_at_call_of 21 (Value.int .i64 an); refine (HVA.out _).mono ?_; rintro e w4 ⟨rfl, hx4⟩; have hf3 := hf3.ext hx4; have hrl := hrl.call hx4; obtain ⟨c1, c2, c3, c4⟩ := hrl.cells; obtain ⟨f1, f2, f3⟩ := hf3.facts)
          | (go_at_call_of 21 (Value.int .i64 bn); refine (HVB.out _).mono ?_; rintro e w4 ⟨rfl, hx4⟩; have hf3 := hf3.ext hx4; have hrl := hrl.call hx4; obtain ⟨c1, c2, c3, c4⟩ := hrl.cells; obtain ⟨f1, f2, f3⟩ := hf3.facts)
          | (go_at_call 22; refine (awake_any _).mono ?_; rintro e w5 ⟨rfl, hx5⟩; have hrl := hrl.call hx5))
        go_ret
        exact ⟨rfl, hrl.1⟩
      · rw [h] at hva
        have HVA := Lib.hid hva
        rw [h'] at hvb
        have HVB := Lib.hid hvb
        have HUN := Lib.hid hun
        clear hva h hvb h' hun
        go_enter Try.func13, Try.ntmps13
        go_upto_region 2 with (go_at_call_of 53 (Value.int .i64 u); refine (HSX.out _).mono ?_; rintro e w1 ⟨rfl, hx1⟩; have hrl := RL.start u v hx1)
        generalize w1.alloc (.cells #[.int .i64 u, .int .i64 v] 23) = wl1 at *
        generalize w1.heap.size = g1 at *
        obtain ⟨c1, c2, c3, c4⟩ := hrl.cells
        clear hx1
        go_upto_region 5 with (first
          | (go_at_call_of 21 (Value.int .i64 u); refine (HVC.out _).mono ?_; rintro e w2 ⟨rfl, hx2⟩; have hrl := hrl.call hx2; obtain ⟨c1, c2, c3, c4⟩ := hrl.cells)
          | (go_at_call_of 53 (Value.int .i64 an); refine (HSF.out _).mono ?_; rintro e w3 ⟨rfl, hx3⟩; have hf3 := Ce.new (T := 23) w3 (.int .i64 0) (.int .i64 0); have hrl := (hrl.call hx3).call ((Below.refl _ _).alloc (Nat.le_refl _) (.cells #[.int .i64 0, .int .i64 0] 23))))
        generalize w3.alloc (.cells #[.int .i64 0, .int .i64 0] 23) = wl3 at *
        generalize w3.heap.size = g3 at *
        clear hx3 c1 c2 c3 c4
        obtain ⟨c1, c2, c3, c4⟩ := hrl.cells
        obtain ⟨f1, f2, f3⟩ := hf3.facts
        go_wp2_with (first
          | (go_at_call_of 21 (Value.int .i64 an); refine (HVA.out _).mono ?_; rintro e w4 ⟨rfl, hx4⟩; have hf3 := hf3.ext hx4; have hrl := hrl.call hx4; obtain ⟨c1, c2, c3, c4⟩ := hrl.cells; obtain ⟨f1, f2, f3⟩ := hf3.facts)
          | (go_at_call_of 21 (Value.int .i64 bn); refine (HVB.out _).mono ?_; rintro e w4 ⟨rfl, hx4⟩; have hf3 := hf3.ext hx4; have hrl := hrl.call hx4; obtain ⟨c1, c2, c3, c4⟩ := hrl.cells; obtain ⟨f1, f2, f3⟩ := hf3.facts)
          | (go_at_call 43; refine (HUN.out _).mono ?_; rintro e w4 ⟨rfl, hx4⟩; have hf3 := hf3.ext hx4; have hrl := hrl.call hx4; obtain ⟨c1, c2, c3, c4⟩ := hrl.cells; obtain ⟨f1, f2, f3⟩ := hf3.facts)
          | (go_at_call 22; refine (awake_any _).mono ?_; rintro e w5 ⟨rfl, hx5⟩; have hrl := hrl.call hx5))
        go_ret
        exact ⟨rfl, hrl.1⟩
end Go.Proofs.Ythkoblnfeebafaa
