/- FracNeighbours walked. No conditions but that the parts are within int. -/
import Derived.Test.YthkoblnfeebafaaGk
namespace Go.Proofs.Ythkoblnfeebafaa
open Go.RowKit

/-- what the law knows of its own blocks -/
def RN (w : World) (g1 g2 : Nat) (n D u v a b c e : Int) (wx : World) : Prop :=
  Below w.heap.size w wx ∧ Ce 23 wx w.heap.size (.int .i64 n) (.int .i64 D) ∧ Ce 23 wx (w.heap.size + 1) (.int .i64 u) (.int .i64 v) ∧ Ce 23 wx g1 (.int .i64 a) (.int .i64 b) ∧ Ce 23 wx g2 (.int .i64 c) (.int .i64 e)
theorem RN.call {w : World} {g1 g2 : Nat} {n D u v a b c e : Int} {wx wy : World} (h : RN w g1 g2 n D u v a b c e wx) (hb : Below wx.heap.size wx wy) : RN w g1 g2 n D u v a b c e wy := by
  obtain ⟨h1, h2, h3, h4, h5⟩ := h
  exact ⟨bext h1 hb (Nat.le_of_lt h2.facts.2.2), h2.ext hb, h3.ext hb, h4.ext hb, h5.ext hb⟩
theorem RN.cells {w : World} {g1 g2 : Nat} {n D u v a b c e : Int} {wx : World} (h : RN w g1 g2 n D u v a b c e wx) :
    (∀ i, wx.cell? ⟨w.heap.size, i, none⟩ = #[Value.int .i64 n, .int .i64 D][i]?) ∧ (∀ i, wx.cell? ⟨w.heap.size + 1, i, none⟩ = #[Value.int .i64 u, .int .i64 v][i]?) ∧ (∀ i, wx.cell? ⟨g1, i, none⟩ = #[Value.int .i64 a, .int .i64 b][i]?) ∧ (∀ i, wx.cell? ⟨g2, i, none⟩ = #[Value.int .i64 c, .int .i64 e][i]?) :=
  ⟨h.2.1.facts.1, h.2.2.1.facts.1, h.2.2.2.1.facts.1, h.2.2.2.2.facts.1⟩

set_option maxRecDepth 100000 in
set_option maxHeartbeats 4000000 in
theorem law_neighbours (n D u v d : Int) (w : World) (hn : IsI n) (hD : IsI D) (hu : IsI u) (hv : IsI v) (hd : IsI d) :
    Calls Try.prog 9 #[frv n D, frv u v, .int .i64 d] w fun e w' => e = .returned (.bool true) ∧ Below w.heap.size w w' := by
  have hx0 : ∀ x y, Below w.heap.size w ((w.alloc x).alloc y) := fun x y => ((Below.refl _ _).alloc (Nat.le_refl _) _).alloc (by simp) _
  have HX0 := Lib.hid hx0
  have sz0 : ∀ x y : Obj, ((w.alloc x).alloc y).heap.size = w.heap.size + 2 := by intro x y; simp
  have SZ0 := Lib.hid sz0
  have hlo := fun W => below_any n D d W hn hD hd
  have hhi := fun W => above_any n D d W hn hD hd
  have hvf := fun W => rvalid_any n D W hn hD
  clear hx0 sz0
  by_cases hok : NOk n D d
  · have hlo' : ∀ W, Calls Try.prog 41 #[frv n D, .int .i64 d] W (fun e w' => ∃ a b c e', Around n D d a b c e' ∧ e = .returned (.tuple #[frv a b, .int .i64 0]) ∧ Below W.heap.size W w') := fun W => (hlo W).mono fun e w' ⟨x, hx, h⟩ => by
      rcases hx with ⟨h0, _⟩ | ⟨_, a, b, c, e', har, rfl⟩
      · exact absurd hok h0
      · exact ⟨a, b, c, e', har, h.1, h.2⟩
    have hhi' : ∀ W, Calls Try.prog 42 #[frv n D, .int .i64 d] W (fun e w' => ∃ a b c e', Around n D d a b c e' ∧ e = .returned (.tuple #[frv c e', .int .i64 0]) ∧ Below W.heap.size W w') := fun W => (hhi W).mono fun e w' ⟨x, hx, h⟩ => by
      rcases hx with ⟨h0, _⟩ | ⟨_, a, b, c, e', har, rfl⟩
      · exact absurd hok h0
      · exact ⟨a, b, c, e', har, h.1, h.2⟩
    obtain ⟨hvld, hd1, hd2⟩ := hok
    rw [vldB_yes hvld] at hvf
    have hvb := fun W => rvalid_any u v W hu hv
    obtain ⟨f1, f2, f3, f4, f5⟩ := hvld
    unfold frv at hlo' hhi' hvf hvb
    have HLO := Lib.hid hlo'
    have HHI := Lib.hid hhi'
    have HVF := Lib.hid hvf
    have HVB0 := Lib.hid hvb
    have HF5 := Lib.hid f5
    clear hlo hhi hlo' hhi' hn hD hu hv hd hvf hvb f5
    unfold frv
    go_enter Try.func9, Try.ntmps9
    go_upto_region 3 with (first
      | (go_at_call 41; refine (HLO.out _).mono ?_; rintro e w1 ⟨a, b, c, e1, har, rfl, hx1⟩; have HAR := Lib.hid har; clear har; have B1 := bext (HX0.out _ _) hx1 (by rw [SZ0.out]; omega); have A1 := ((Ce.new w _ _).alloc _).ext hx1; have C1 := (Ce.new (w.alloc _) _ _).ext hx1; simp only [World.size_alloc] at C1; obtain ⟨a1, a2, a3⟩ := A1.facts)
      | (go_at_call 42; refine (HHI.out _).mono ?_; rintro e w2 ⟨a', b', c', e1', har', rfl, hx2⟩; obtain ⟨rfl, rfl, rfl, rfl⟩ := around_same HAR.out har'; clear har'; have R2 : RN w w1.heap.size w2.heap.size n D u v a b c e1 (w2.alloc (.cells #[.int .i64 c, .int .i64 e1] 23)) := ⟨ext_trans (bext (B1.alloc (by omega) _) hx2 (by simp; omega)) ((Below.refl _ _).alloc (Nat.le_refl _) _), ((A1.alloc _).ext hx2).alloc _, ((C1.alloc _).ext hx2).alloc _, ((Ce.new w1 _ _).ext hx2).alloc _, Ce.new w2 _ _⟩))
    clear B1 A1 C1 a1 a2 a3 hx1 hx2
    generalize w2.alloc (.cells #[.int .i64 c, .int .i64 e1] 23) = wl at *
    generalize w2.heap.size = g2 at *
    generalize w1.heap.size = g1 at *
    have hrn := R2
    obtain ⟨c1, c2, c3, c4⟩ := R2.cells
    clear R2
    have hd3 : ¬ 1000000000 < d := by omega
    rcases HAR.out with ⟨hDd, ha, hb, hc, he⟩ | ⟨hdD, hin, hbe⟩
    · obtain rfl : n = a := ha.symm
      obtain rfl : D = b := hb.symm
      obtain rfl : n = c := hc.symm
      obtain rfl : D = e1 := he.symm
      clear ha hb hc he
      have hun := fun W => under_any n D n D W f3 f4 f1 f2 f3 f4 f1 f2
      have e1 : decide (n * D ≤ n * D) = true := decide_eq_true (Int.le_refl _)
      rw [e1] at hun
      unfold frv at hun
      have HU := Lib.hid hun
      clear hun e1 HAR HVB0 HF5 HLO HHI
      go_wp2_with (first
        | (go_at_call 21; refine (HVF.out _).mono ?_; rintro e w3 ⟨rfl, hx3⟩; have hrn := hrn.call hx3; obtain ⟨c1, c2, c3, c4⟩ := hrn.cells)
        | (go_at_call 43; ((with_reducible refine (HU.out _).mono ?_)); rintro e w3 ⟨rfl, hx3⟩; have hrn := hrn.call hx3; obtain ⟨c1, c2, c3, c4⟩ := hrn.cells)
        | (go_at_call 22; refine (awake_any _).mono ?_; rintro e w4 ⟨rfl, hx4⟩; have hrn := hrn.call hx4))
      go_ret
      exact ⟨rfl, hrn.1⟩
    · have i1 := hin.b1
      have i2 := hin.e1
      have i3 := hin.bd
      have i4 := hin.ed
      have i5 := hin.x0
      have i6 := hin.y0
      have i7 := hin.det
      obtain ⟨p1, p2⟩ := hin.lo_bd hdD f3 f4
      obtain ⟨p3, p4⟩ := hin.hi_bd hdD f3 f4
      have hvl := fun W => rvalid_any a b W ⟨by omega, by omega⟩ ⟨by omega, by omega⟩
      rw [vldB_yes ⟨i1, by omega, p1, p2, hin.lo_gcd⟩] at hvl
      have hvh := fun W => rvalid_any c e1 W ⟨by omega, by omega⟩ ⟨by omega, by omega⟩
      rw [vldB_yes ⟨i2, by omega, p3, p4, hin.hi_gcd⟩] at hvh
      have hu1 := fun W => under_any a b n D W p1 p2 i1 (by omega) f3 f4 f1 f2
      rw [decide_eq_true (show a * D ≤ n * b by omega)] at hu1
      have hu2 := fun W => under_any n D c e1 W f3 f4 f1 f2 p3 p4 i2 (by omega)
      rw [decide_eq_true (show n * e1 ≤ c * D by omega)] at hu2
      have t1 : (a == n && b == D) = false := by simp; omega
      have t2 : (c == n && e1 == D) = false := by simp; omega
      have hne1 : ¬ b = D := by omega
      have hne2 : ¬ e1 = D := by omega
      have m1 := mul_bd2 (x := c) (y := b) p3 p4 (by omega) (by omega)
      have m2 := mul_bd2 (x := a) (y := e1) p1 p2 (by omega) (by omega)
      obtain ⟨m1, m3⟩ := m1
      obtain ⟨m2, m4⟩ := m2
      have hdet : c * b - a * e1 = 1 := by rw [Int.mul_comm c b]; exact i7
      have hdet2 : (c * b - a * e1 != 1) = false := by rw [hdet]; rfl
      have HIN := Lib.hid hin
      unfold frv at hvl hvh hu1 hu2
      have HVL := Lib.hid hvl
      have HVH := Lib.hid hvh
      have HU1 := Lib.hid hu1
      have HU2 := Lib.hid hu2
      clear hvl hvh hu1 hu2 i5 i6 i7 HAR HF5 HLO HHI hdet hin
      cases hvv : vldB u v
      · have hvb := HVB0.out
        rw [hvv] at hvb
        have HVB := Lib.hid hvb
        clear hvv hvb HVB0
        go_wp2_with (first
          | (go_at_call_of 21 (Value.int .i64 n); refine (HVF.out _).mono ?_; rintro e w3 ⟨rfl, hx3⟩; have hrn := hrn.call hx3; obtain ⟨c1, c2, c3, c4⟩ := hrn.cells)
          | (go_at_call_of 21 (Value.int .i64 a); refine (HVL.out _).mono ?_; rintro e w3 ⟨rfl, hx3⟩; have hrn := hrn.call hx3; obtain ⟨c1, c2, c3, c4⟩ := hrn.cells)
          | (go_at_call_of 21 (Value.int .i64 c); refine (HVH.out _).mono ?_; rintro e w3 ⟨rfl, hx3⟩; have hrn := hrn.call hx3; obtain ⟨c1, c2, c3, c4⟩ := hrn.cells)
          | (go_at_call_of 21 (Value.int .i64 u); refine (HVB.out _).mono ?_; rintro e w3 ⟨rfl, hx3⟩; have hrn := hrn.call hx3; obtain ⟨c1, c2, c3, c4⟩ := hrn.cells)
          | (go_at_call 43; ((with_reducible refine (HU1.out _).mono ?_)); rintro e w3 ⟨rfl, hx3⟩; have hrn := hrn.call hx3; obtain ⟨c1, c2, c3, c4⟩ := hrn.cells)
          | (go_at_call 43; ((with_reducible refine (HU2.out _).mono ?_)); rintro e w3 ⟨rfl, hx3⟩; have hrn := hrn.call hx3; obtain ⟨c1, c2, c3, c4⟩ := hrn.cells)
          | (go_at_call 22; refine (awake_any _).mono ?_; rintro e w4 ⟨rfl, hx4⟩; have hrn := hrn.call hx4; obtain ⟨c1, c2, c3, c4⟩ := hrn.cells))
        go_ret
        exact ⟨rfl, hrn.1⟩
      · have hvb := HVB0.out
        rw [hvv] at hvb
        have HVB := Lib.hid hvb
        obtain ⟨q1, q2, q3, q4, _⟩ := of_decide_eq_true hvv
        have hu3 := fun W => under_any u v a b W q3 q4 q1 q2 p1 p2 i1 (by omega)
        have hu4 := fun W => under_any c e1 u v W p3 p4 i2 (by omega) q3 q4 q1 q2
        unfold frv at hu3 hu4
        have hbt := fun (h1 : v ≤ d) (h2 : a * v < u * b) => Nb.between HIN.out hbe h1 h2
        clear hvv hvb HVB0
        by_cases k1 : u * b ≤ a * v
        · rw [decide_eq_true k1] at hu3
          have HU3 := Lib.hid hu3
          have HU4 := Lib.hid hu4
          clear hu3 hu4 k1 hbt
          go_wp2_with (first
              | (go_at_call_of 21 (Value.int .i64 n); refine (HVF.out _).mono ?_; rintro e w3 ⟨rfl, hx3⟩; have hrn := hrn.call hx3; obtain ⟨c1, c2, c3, c4⟩ := hrn.cells)
              | (go_at_call_of 21 (Value.int .i64 a); refine (HVL.out _).mono ?_; rintro e w3 ⟨rfl, hx3⟩; have hrn := hrn.call hx3; obtain ⟨c1, c2, c3, c4⟩ := hrn.cells)
              | (go_at_call_of 21 (Value.int .i64 c); refine (HVH.out _).mono ?_; rintro e w3 ⟨rfl, hx3⟩; have hrn := hrn.call hx3; obtain ⟨c1, c2, c3, c4⟩ := hrn.cells)
              | (go_at_call_of 21 (Value.int .i64 u); refine (HVB.out _).mono ?_; rintro e w3 ⟨rfl, hx3⟩; have hrn := hrn.call hx3; obtain ⟨c1, c2, c3, c4⟩ := hrn.cells)
              | (go_at_call 43; ((with_reducible refine (HU1.out _).mono ?_)); rintro e w3 ⟨rfl, hx3⟩; have hrn := hrn.call hx3; obtain ⟨c1, c2, c3, c4⟩ := hrn.cells)
              | (go_at_call 43; ((with_reducible refine (HU2.out _).mono ?_)); rintro e w3 ⟨rfl, hx3⟩; have hrn := hrn.call hx3; obtain ⟨c1, c2, c3, c4⟩ := hrn.cells)
              | (go_at_call 43; ((with_reducible refine (HU3.out _).mono ?_)); rintro e w3 ⟨rfl, hx3⟩; have hrn := hrn.call hx3; obtain ⟨c1, c2, c3, c4⟩ := hrn.cells)
              | (go_at_call 43; ((with_reducible refine (HU4.out _).mono ?_)); rintro e w3 ⟨rfl, hx3⟩; have hrn := hrn.call hx3; obtain ⟨c1, c2, c3, c4⟩ := hrn.cells)
              | (go_at_call 22; refine (awake_any _).mono ?_; rintro e w4 ⟨rfl, hx4⟩; have hrn := hrn.call hx4; obtain ⟨c1, c2, c3, c4⟩ := hrn.cells))
          go_ret
          exact ⟨rfl, hrn.1⟩
        · rw [decide_eq_false k1] at hu3
          by_cases k2 : c * v ≤ u * e1
          · rw [decide_eq_true k2] at hu4
            have HU3 := Lib.hid hu3
            have HU4 := Lib.hid hu4
            clear hu3 hu4 k1 k2 hbt
            go_wp2_with (first
              | (go_at_call_of 21 (Value.int .i64 n); refine (HVF.out _).mono ?_; rintro e w3 ⟨rfl, hx3⟩; have hrn := hrn.call hx3; obtain ⟨c1, c2, c3, c4⟩ := hrn.cells)
              | (go_at_call_of 21 (Value.int .i64 a); refine (HVL.out _).mono ?_; rintro e w3 ⟨rfl, hx3⟩; have hrn := hrn.call hx3; obtain ⟨c1, c2, c3, c4⟩ := hrn.cells)
              | (go_at_call_of 21 (Value.int .i64 c); refine (HVH.out _).mono ?_; rintro e w3 ⟨rfl, hx3⟩; have hrn := hrn.call hx3; obtain ⟨c1, c2, c3, c4⟩ := hrn.cells)
              | (go_at_call_of 21 (Value.int .i64 u); refine (HVB.out _).mono ?_; rintro e w3 ⟨rfl, hx3⟩; have hrn := hrn.call hx3; obtain ⟨c1, c2, c3, c4⟩ := hrn.cells)
              | (go_at_call 43; ((with_reducible refine (HU1.out _).mono ?_)); rintro e w3 ⟨rfl, hx3⟩; have hrn := hrn.call hx3; obtain ⟨c1, c2, c3, c4⟩ := hrn.cells)
              | (go_at_call 43; ((with_reducible refine (HU2.out _).mono ?_)); rintro e w3 ⟨rfl, hx3⟩; have hrn := hrn.call hx3; obtain ⟨c1, c2, c3, c4⟩ := hrn.cells)
              | (go_at_call 43; ((with_reducible refine (HU3.out _).mono ?_)); rintro e w3 ⟨rfl, hx3⟩; have hrn := hrn.call hx3; obtain ⟨c1, c2, c3, c4⟩ := hrn.cells)
              | (go_at_call 43; ((with_reducible refine (HU4.out _).mono ?_)); rintro e w3 ⟨rfl, hx3⟩; have hrn := hrn.call hx3; obtain ⟨c1, c2, c3, c4⟩ := hrn.cells)
              | (go_at_call 22; refine (awake_any _).mono ?_; rintro e w4 ⟨rfl, hx4⟩; have hrn := hrn.call hx4; obtain ⟨c1, c2, c3, c4⟩ := hrn.cells))
            go_ret
            exact ⟨rfl, hrn.1⟩
          · have hvd : d < v := Int.not_le.1 fun h => hbt h (by omega) (by omega)
            rw [decide_eq_false k2] at hu4
            have HU3 := Lib.hid hu3
            have HU4 := Lib.hid hu4
            clear hu3 hu4 k1 k2 hbt
            go_wp2_with (first
              | (go_at_call_of 21 (Value.int .i64 n); refine (HVF.out _).mono ?_; rintro e w3 ⟨rfl, hx3⟩; have hrn := hrn.call hx3; obtain ⟨c1, c2, c3, c4⟩ := hrn.cells)
              | (go_at_call_of 21 (Value.int .i64 a); refine (HVL.out _).mono ?_; rintro e w3 ⟨rfl, hx3⟩; have hrn := hrn.call hx3; obtain ⟨c1, c2, c3, c4⟩ := hrn.cells)
              | (go_at_call_of 21 (Value.int .i64 c); refine (HVH.out _).mono ?_; rintro e w3 ⟨rfl, hx3⟩; have hrn := hrn.call hx3; obtain ⟨c1, c2, c3, c4⟩ := hrn.cells)
              | (go_at_call_of 21 (Value.int .i64 u); refine (HVB.out _).mono ?_; rintro e w3 ⟨rfl, hx3⟩; have hrn := hrn.call hx3; obtain ⟨c1, c2, c3, c4⟩ := hrn.cells)
              | (go_at_call 43; ((with_reducible refine (HU1.out _).mono ?_)); rintro e w3 ⟨rfl, hx3⟩; have hrn := hrn.call hx3; obtain ⟨c1, c2, c3, c4⟩ := hrn.cells)
              | (go_at_call 43; ((with_reducible refine (HU2.out _).mono ?_)); rintro e w3 ⟨rfl, hx3⟩; have hrn := hrn.call hx3; obtain ⟨c1, c2, c3, c4⟩ := hrn.cells)
              | (go_at_call 43; ((with_reducible refine (HU3.out _).mono ?_)); rintro e w3 ⟨rfl, hx3⟩; have hrn := hrn.call hx3; obtain ⟨c1, c2, c3, c4⟩ := hrn.cells)
              | (go_at_call 43; ((with_reducible refine (HU4.out _).mono ?_)); rintro e w3 ⟨rfl, hx3⟩; have hrn := hrn.call hx3; obtain ⟨c1, c2, c3, c4⟩ := hrn.cells)
              | (go_at_call 22; refine (awake_any _).mono ?_; rintro e w4 ⟨rfl, hx4⟩; have hrn := hrn.call hx4; obtain ⟨c1, c2, c3, c4⟩ := hrn.cells))
            go_ret
            exact ⟨rfl, hrn.1⟩
  · have hlo' : ∀ W, Calls Try.prog 41 #[frv n D, .int .i64 d] W (RetA W (0, 0, 2)) := fun W => (hlo W).mono fun e w' ⟨x, hx, h⟩ => by
      rcases hx with ⟨_, rfl⟩ | ⟨h0, _⟩
      · exact h
      · exact absurd h0 hok
    have hhi' : ∀ W, Calls Try.prog 42 #[frv n D, .int .i64 d] W (RetA W (0, 0, 2)) := fun W => (hhi W).mono fun e w' ⟨x, hx, h⟩ => by
      rcases hx with ⟨_, rfl⟩ | ⟨h0, _⟩
      · exact h
      · exact absurd h0 hok
    have hcase : vldB n D = false ∨ (vldB n D = true ∧ d < 1) ∨ (vldB n D = true ∧ 1 ≤ d ∧ 1000000000 < d) := by
      cases h : vldB n D
      · exact .inl rfl
      · refine .inr ?_
        by_cases h1 : d < 1
        · exact .inl ⟨rfl, h1⟩
        · exact .inr ⟨rfl, by omega, Int.not_le.1 fun h2 => hok ⟨of_decide_eq_true h, by omega, h2⟩⟩
    unfold RetA frv at *
    have HLO := Lib.hid hlo'
    have HHI := Lib.hid hhi'
    clear hlo hhi hlo' hhi' hok hn hD hu hv hd
    rcases hcase with h | ⟨h, h'⟩ | ⟨h, h', h''⟩
    all_goals
      rw [h] at hvf
      have HV := Lib.hid hvf
      clear hvf h
      go_enter Try.func9, Try.ntmps9
      go_wp2_with (first
        | (go_at_call 41; refine (HLO.out _).mono ?_; rintro e w1 ⟨rfl, hx1⟩; have B1 := bext (HX0.out _ _) hx1 (by rw [SZ0.out]; omega); have A1 := ((Ce.new w _ _).alloc _).ext hx1; obtain ⟨a1, a2, a3⟩ := A1.facts)
        | (go_at_call 42; refine (HHI.out _).mono ?_; rintro e w2 ⟨rfl, hx2⟩; have B2 := bext (B1.alloc (by omega) _) hx2 (by simp; omega); have A2 := (A1.alloc _).ext hx2; obtain ⟨a1, a2, a3⟩ := A2.facts)
        | (go_at_call 21; refine (HV.out _).mono ?_; rintro e w3 ⟨rfl, hx3⟩; have B3 := bext (B2.alloc (by omega) _) hx3 (by simp; omega); have A3 := (A2.alloc _).ext hx3; obtain ⟨a1, a2, a3⟩ := A3.facts)
        | (go_at_call 22; refine (awake_any _).mono ?_; rintro e w4 ⟨rfl, hx4⟩; have B4 := bext B3 hx4 (by omega)))
      go_ret
      exact ⟨rfl, B4⟩
end Go.Proofs.Ythkoblnfeebafaa
