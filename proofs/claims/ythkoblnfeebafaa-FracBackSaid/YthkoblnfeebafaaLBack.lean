/- FracBack walked. No conditions but that the parts are within int. -/
import Derived.Test.YthkoblnfeebafaaFp
namespace Go.Proofs.Ythkoblnfeebafaa
open Go.RowKit

/-- the two boxes of the arguments, and all else as it was -/
def Two (w wx : World) (an ad bn bd : Int) : Prop := Ce 23 wx w.heap.size (.int .i64 an) (.int .i64 ad) ∧ Ce 23 wx (w.heap.size + 1) (.int .i64 bn) (.int .i64 bd) ∧ Below w.heap.size w wx
theorem Two.size {w wx : World} {an ad bn bd : Int} (h : Two w wx an ad bn bd) : w.heap.size + 1 < wx.heap.size := h.2.1.facts.2.2
theorem Two.ext {w wx w' : World} {an ad bn bd : Int} (h : Two w wx an ad bn bd) (hb : Below wx.heap.size wx w') : Two w w' an ad bn bd :=
  ⟨h.1.ext hb, h.2.1.ext hb, bext h.2.2 hb (by have := h.size; omega)⟩
theorem Two.alloc {w wx : World} {an ad bn bd : Int} (h : Two w wx an ad bn bd) (o : Obj) : Two w (wx.alloc o) an ad bn bd := h.ext ((Below.refl _ _).alloc (Nat.le_refl _) _)
theorem Two.new (w : World) (an ad bn bd : Int) : Two w ((w.alloc (.cells #[.int .i64 an, .int .i64 ad] 23)).alloc (.cells #[.int .i64 bn, .int .i64 bd] 23)) an ad bn bd :=
  ⟨(Ce.new w _ _).alloc _, by simpa using Ce.new (w.alloc _) (.int .i64 bn) (.int .i64 bd), ((Below.refl _ _).alloc (Nat.le_refl _) _).alloc (by simp) _⟩
theorem Two.facts {w wx : World} {an ad bn bd : Int} (h : Two w wx an ad bn bd) :
    (∀ i, wx.cell? ⟨w.heap.size, i, none⟩ = #[.int .i64 an, .int .i64 ad][i]?) ∧ (∀ i, wx.cell? ⟨w.heap.size + 1, i, none⟩ = #[.int .i64 bn, .int .i64 bd][i]?) ∧ w.heap.size + 1 < wx.heap.size ∧ w.heap.size < wx.heap.size := ⟨h.1.facts.1, h.2.1.facts.1, h.size, h.1.facts.2.2⟩

set_option maxRecDepth 100000 in
set_option maxHeartbeats 4000000 in
theorem law_back (an ad bn bd : Int) (w : World) (ha1 : IsI an) (ha2 : IsI ad) (hb1 : IsI bn) (hb2 : IsI bd) :
    Calls Try.prog 10 #[frv an ad, frv bn bd] w fun e w' => e = .returned (.bool true) ∧ Below w.heap.size w w' := by
  obtain ⟨⟨x1, x2, x3⟩, hx⟩ : ∃ x, two an ad bn bd (rat an ad + rat bn bd) = x := ⟨_, rfl⟩
  obtain ⟨⟨y1, y2, y3⟩, hy⟩ : ∃ x, two an ad bn bd (rat an ad * rat bn bd) = x := ⟨_, rfl⟩
  obtain ⟨⟨z1, z2, z3⟩, hz⟩ : ∃ x, two an ad bn bd (rat an ad - rat bn bd) = x := ⟨_, rfl⟩
  obtain ⟨⟨n1, n2, n3⟩, hn⟩ : ∃ x, negA an ad = x := ⟨_, rfl⟩
  obtain ⟨⟨c1, c2⟩, hc⟩ : ∃ x, cmpA an ad bn bd = x := ⟨_, rfl⟩
  have a1 := fun W => add_any an ad bn bd W ha1 ha2 hb1 hb2
  have a2 := fun W => mul_any an ad bn bd W ha1 ha2 hb1 hb2
  have a3 := fun W => sub_any an ad bn bd W ha1 ha2 hb1 hb2
  have a4 := fun W => neg_any an ad W ha1 ha2
  have a5 := fun W => cmp_any an ad bn bd W ha1 ha2 hb1 hb2
  have b1 : x3 = 0 → ∀ W, Calls Try.prog 45 #[frv x1 x2, frv bn bd] W (RetA W (an, ad, 0)) := fun h W => by
    obtain ⟨e1, e2, e3⟩ := back_add hx h
    rw [← e3]
    exact sub_any x1 x2 bn bd W e1 e2 hb1 hb2
  have b2 : y3 = 0 → bn ≠ 0 → ∀ W, Calls Try.prog 47 #[frv y1 y2, frv bn bd] W (RetA W (an, ad, 0)) := fun h h0 W => by
    obtain ⟨e1, e2, e3⟩ := back_mul hy h h0
    rw [← e3]
    exact div_any y1 y2 bn bd W e1 e2 hb1 hb2
  have b3 : z3 = 0 → c2 = 0 ∧ c1 = z1.sign := fun h => by
    have e := back_cmp hz h
    rw [hc] at e
    exact ⟨congrArg Prod.snd e, congrArg Prod.fst e⟩
  have b4 : n3 = 0 → ∀ W, Calls Try.prog 49 #[frv n1 n2] W (RetA W (an, ad, 0)) := fun h W => by
    obtain ⟨e1, e2, e3⟩ := back_neg hn h
    rw [← e3]
    exact neg_any n1 n2 W e1 e2
  rw [hx] at a1
  rw [hy] at a2
  rw [hz] at a3
  rw [hn] at a4
  rw [hc] at a5
  unfold RetA at *
  unfold frv at *
  have A1 := Lib.hid a1
  have A2 := Lib.hid a2
  have A3 := Lib.hid a3
  have A4 := Lib.hid a4
  have A5 := Lib.hid a5
  have B1 := Lib.hid b1
  have B2 := Lib.hid b2
  have B3 := Lib.hid b3
  have B4 := Lib.hid b4
  have T0 := Two.new w an ad bn bd
  clear a1 a2 a3 a4 a5 b1 b2 b3 b4 hx hy hz hn hc ha1 ha2 hb1 hb2
  go_enter Try.func10, Try.ntmps10
  go_upto_if 25 with (go_at_call 44; refine (A1.out _).mono ?_; rintro e w1 ⟨rfl, hx1⟩; obtain ⟨k1, k2, k3, k4⟩ := (T0.ext hx1).facts)
  have T1 := (T0.ext hx1).alloc (.cells #[.int .i64 x1, .int .i64 x2] 23)
  have S1 := Ce.new (T := 23) w1 (.int .i64 x1) (.int .i64 x2)
  clear hx1
  go_cut [] (fun wx => Two w wx an ad bn bd)
  case first =>
    by_cases h : x3 = 0
    · subst h
      have H := Lib.hid (B1.out rfl)
      go_wp2_with (go_at_call 45; refine (H.out _).mono ?_; rintro e w2 ⟨rfl, hx2⟩; have T2 := T1.ext hx2; obtain ⟨k1, k2, k3, k4⟩ := T2.facts)
      go_meet
      exact T2.alloc _
    · have h' : (x3 == 0) = false := by simpa using h
      go_wp2
      go_meet
      exact T1
  case rest =>
    have T2 := hcut
    obtain ⟨k1, k2, k3, k4⟩ := T2.facts
    go_upto_region 7 with (go_at_call 46; refine (A2.out _).mono ?_; rintro e w3 ⟨rfl, hx3⟩; obtain ⟨k1, k2, k3, k4⟩ := (T2.ext hx3).facts)
    have T3 := (T2.ext hx3).alloc (.cells #[.int .i64 y1, .int .i64 y2] 23)
    have S3 := Ce.new (T := 23) w3 (.int .i64 y1) (.int .i64 y2)
    clear hx3
    go_cut [51] (fun t wx => t = .bool (decide (y3 = 0 ∧ bn ≠ 0)) ∧ Two w wx an ad bn bd ∧ Ce 23 wx w3.heap.size (.int .i64 y1) (.int .i64 y2))
    case first =>
      by_cases h : y3 = 0
      · subst h
        by_cases h0 : bn = 0
        · subst h0
          go_wp2
          go_meet
          exact ⟨by simp, T3, S3⟩
        · have h0' : (bn == 0) = false := by simpa using h0
          go_wp2
          go_meet
          exact ⟨by simp [h0], T3, S3⟩
      · have h' : (y3 == 0) = false := by simpa using h
        go_wp2
        go_meet
        exact ⟨by simp [h], T3, S3⟩
    case rest =>
      obtain ⟨rfl, T4, S4⟩ := hcut
      go_upto_if 51 with (fail)
      go_cut [] (fun wx => Two w wx an ad bn bd)
      case first =>
        by_cases h : y3 = 0 ∧ bn ≠ 0
        · have hd : decide (y3 = 0 ∧ bn ≠ 0) = true := decide_eq_true h
          have H := Lib.hid (B2.out h.1 h.2)
          rw [hd]
          obtain ⟨rfl, _⟩ := h
          clear hd k1 k2 k3 k4
          obtain ⟨k1, k2, k3, k4⟩ := T4.facts
          obtain ⟨s1, s2, s3⟩ := S4.facts
          go_wp2_with (go_at_call 47; refine (H.out _).mono ?_; rintro e w4 ⟨rfl, hx4⟩; have T5 := T4.ext hx4; obtain ⟨k1, k2, k3, k4⟩ := T5.facts)
          go_meet
          exact T5.alloc _
        · rw [decide_eq_false h]
          go_wp2
          go_meet
          exact T4
      case rest =>
        have T5 := hcut
        clear S3 S4 T3 T4 T2 T1 S1 k1 k2 k3 k4
        obtain ⟨k1, k2, k3, k4⟩ := T5.facts
        go_upto_region 13 with (first
          | (go_at_call 45; refine (A3.out _).mono ?_; rintro e w5 ⟨rfl, hx5⟩; obtain ⟨k1, k2, k3, k4⟩ := (T5.ext hx5).facts)
          | (go_at_call 48; refine (A5.out _).mono ?_; rintro e w6 ⟨rfl, hx6⟩; obtain ⟨s1, s2, s3⟩ := ((Ce.new w5 _ _).ext hx6).facts))
        have T6 := ((T5.ext hx5).alloc _).ext hx6
        go_cut [98] (fun t wx => t = .bool false ∧ Two w wx an ad bn bd)
        case first =>
          by_cases h : z3 = 0
          · subst h
            obtain ⟨rfl, hc1⟩ := B3.out rfl
            rcases Int.lt_trichotomy z1 0 with h1 | h1 | h1
            · rw [Int.sign_eq_neg_one_of_neg h1] at hc1
              have h2 : decide (z1 < 0) = true := decide_eq_true h1
              have h3 : decide (0 < z1) = false := decide_eq_false (by omega)
              have h4 : decide (c1 < 0) = true := decide_eq_true (by omega)
              have h5 : decide (0 < c1) = false := decide_eq_false (by omega)
              clear hc1
              go_wp2
              go_meet
              exact ⟨rfl, T6⟩
            · rw [h1] at hc1
              have h2 : decide (z1 < 0) = false := decide_eq_false (by omega)
              have h3 : decide (0 < z1) = false := decide_eq_false (by omega)
              have h4 : decide (c1 < 0) = false := decide_eq_false (by rw [hc1]; decide)
              have h5 : decide (0 < c1) = false := decide_eq_false (by rw [hc1]; decide)
              clear hc1 h1
              go_wp2
              go_meet
              exact ⟨rfl, T6⟩
            · rw [Int.sign_eq_one_of_pos h1] at hc1
              have h2 : decide (z1 < 0) = false := decide_eq_false (by omega)
              have h3 : decide (0 < z1) = true := decide_eq_true h1
              have h4 : decide (c1 < 0) = false := decide_eq_false (by omega)
              have h5 : decide (0 < c1) = true := decide_eq_true (by omega)
              clear hc1
              go_wp2
              go_meet
              exact ⟨rfl, T6⟩
          · have h' : (z3 == 0) = false := by simpa using h
            go_wp2
            go_meet
            exact ⟨rfl, T6⟩
        case rest =>
          obtain ⟨rfl, T7⟩ := hcut
          clear hx5 hx6 T6 s1 s2 s3 k1 k2 k3 k4
          obtain ⟨k1, k2, k3, k4⟩ := T7.facts
          go_upto_if 105 with (go_at_call 49; refine (A4.out _).mono ?_; rintro e w7 ⟨rfl, hx7⟩; obtain ⟨k1, k2, k3, k4⟩ := (T7.ext hx7).facts)
          have T8 := (T7.ext hx7).alloc (.cells #[.int .i64 n1, .int .i64 n2] 23)
          go_cut [] (fun wx => Two w wx an ad bn bd)
          case first =>
            by_cases h : n3 = 0
            · subst h
              have H := Lib.hid (B4.out rfl)
              go_wp2_with (go_at_call 49; refine (H.out _).mono ?_; rintro e w8 ⟨rfl, hx8⟩; have T9 := T8.ext hx8; obtain ⟨k1, k2, k3, k4⟩ := T9.facts)
              go_meet
              exact T9.alloc _
            · have h' : (n3 == 0) = false := by simpa using h
              go_wp2
              go_meet
              exact T8
          case rest =>
            have T9 := hcut
            go_wp2_with (go_at_call 22; refine (awake_any _).mono ?_; rintro e w9 ⟨rfl, hx9⟩)
            go_ret
            exact ⟨rfl, (T9.ext hx9).2.2⟩
end Go.Proofs.Ythkoblnfeebafaa
