/- Walk of the reference's Around. Conditions: the arguments are within their kinds. -/
import Derived.Test.YthkoblnfeebafaaIc
import Derived.Test.YthkoblnfeebafaaGk
import Derived.Test.YthkoblnfeebafaaGm
import Derived.Deep.DeepCutAuto
namespace Go.Proofs.Ythkoblnfeebafaa
open Go.RowKit

def ArOk (n D d : Int) (a b c e er : Int) : Prop := (¬ NOk n D d ∧ a = 0 ∧ b = 0 ∧ c = 0 ∧ e = 0 ∧ er = 2) ∨ (NOk n D d ∧ Around n D d a b c e ∧ er = 0)
def RetAr (w : World) (n D d : Int) (x : Ending) (w' : World) : Prop := ∃ a b c e er : Int, x = .returned (.tuple #[frv a b, frv c e, .int .i64 er]) ∧ ArOk n D d a b c e er ∧ Below w.heap.size w w'

/-- what Around knows of its own blocks -/
def AB (w : World) (n D : Int) (wx : World) : Prop :=
  Below w.heap.size w wx ∧ Ce 23 wx w.heap.size (.int .i64 n) (.int .i64 D) ∧ Ce 23 wx (w.heap.size + 1) (.int .i64 0) (.int .i64 0) ∧ Ce 23 wx (w.heap.size + 1 + 1) (.int .i64 0) (.int .i64 0)
theorem AB.call {w : World} {n D : Int} {wx wy : World} (h : AB w n D wx) (hb : Below wx.heap.size wx wy) : AB w n D wy := by
  obtain ⟨h1, h2, h3, h4⟩ := h
  exact ⟨bext h1 hb (Nat.le_of_lt h2.facts.2.2), h2.ext hb, h3.ext hb, h4.ext hb⟩
theorem AB.start {w wx : World} {n D : Int} (E : Below (((w.alloc (.cells #[.int .i64 n, .int .i64 D] 23)).alloc (.cells #[.int .i64 0, .int .i64 0] 23)).alloc (.cells #[.int .i64 0, .int .i64 0] 23)).heap.size (((w.alloc (.cells #[.int .i64 n, .int .i64 D] 23)).alloc (.cells #[.int .i64 0, .int .i64 0] 23)).alloc (.cells #[.int .i64 0, .int .i64 0] 23)) wx) : AB w n D wx := by
  have p0 := (((Ce.new (T := 23) w (.int .i64 n) (.int .i64 D)).alloc (.cells #[.int .i64 0, .int .i64 0] 23)).alloc (.cells #[.int .i64 0, .int .i64 0] 23)).ext E
  have p1 := ((Ce.new (T := 23) (w.alloc (.cells #[.int .i64 n, .int .i64 D] 23)) (.int .i64 0) (.int .i64 0)).alloc (.cells #[.int .i64 0, .int .i64 0] 23)).ext E
  have p2 := (Ce.new (T := 23) ((w.alloc (.cells #[.int .i64 n, .int .i64 D] 23)).alloc (.cells #[.int .i64 0, .int .i64 0] 23)) (.int .i64 0) (.int .i64 0)).ext E
  simp only [World.size_alloc] at p1 p2
  exact ⟨ext_trans ((((Below.refl _ _).alloc (Nat.le_refl _) _).alloc (by simp) _).alloc (by simp; omega) _) E, p0, p1, p2⟩

/-- two fractions in blocks of one's own -/
def HC (w : World) (g g' : Nat) (a b c e : Int) (wx : World) : Prop := Below w.heap.size w wx ∧ Ce 23 wx g (.int .i64 a) (.int .i64 b) ∧ Ce 23 wx g' (.int .i64 c) (.int .i64 e)
theorem HC.call {w : World} {g g' : Nat} {a b c e : Int} {wx wy : World} (h : HC w g g' a b c e wx) (hz : w.heap.size ≤ g) (hb : Below wx.heap.size wx wy) : HC w g g' a b c e wy := by
  obtain ⟨h1, h2, h3⟩ := h
  exact ⟨bext h1 hb (by have := h2.facts.2.2; omega), h2.ext hb, h3.ext hb⟩
theorem HC.store {w : World} {g g' k : Nat} {a b c e : Int} {wx : World} (h : HC w g g' a b c e wx) (hk : w.heap.size ≤ k) (h1 : g ≠ k) (h2 : g' ≠ k) (x y : Value) : HC w g g' a b c e ((wx.setCell ⟨k, 0, none⟩ x).setCell ⟨k, 1, none⟩ y) :=
  ⟨below2 h.1 hk _ _, h.2.1.set_ne' h1 _ _, h.2.2.set_ne' h2 _ _⟩
theorem HC.cells {w : World} {g g' : Nat} {a b c e : Int} {wx : World} (h : HC w g g' a b c e wx) : HC w g g' a b c e wx ∧ (wx.cell? ⟨g, 0, none⟩ = some (.int .i64 a) ∧ wx.cell? ⟨g, 1, none⟩ = some (.int .i64 b)) ∧ (wx.cell? ⟨g', 0, none⟩ = some (.int .i64 c) ∧ wx.cell? ⟨g', 1, none⟩ = some (.int .i64 e)) :=
  ⟨h, ⟨h.2.1.facts.1 0, h.2.1.facts.1 1⟩, h.2.2.facts.1 0, h.2.2.facts.1 1⟩

theorem around_parts {n D d : Int} (hv : Vld n D) (d1 : 1 ≤ d) (hlt : d < D) :
    1 ≤ n - n / D * D ∧ n - n / D * D < D ∧ Int.gcd (n - n / D * D) D = 1 := by
  obtain ⟨v1, v2, v3, v4, v5⟩ := hv
  have e1 := Int.mul_ediv_add_emod n D
  have r1 := Int.emod_nonneg n (show D ≠ 0 by omega)
  have r2 := Int.emod_lt_of_pos n (show 0 < D by omega)
  have eA : n / D * D = D * (n / D) := Int.mul_comm _ _
  have hg : Int.gcd (n - n / D * D) D = 1 := by
    rw [Int.gcd_comm]
    have e : n - n / D * D = n + D * (-(n / D)) := by grind
    rw [e, Int.gcd_add_mul_left_right, Int.gcd_comm]
    exact v5
  refine ⟨?_, by omega, hg⟩
  refine Int.not_lt.1 fun h => ?_
  have e0 : n - n / D * D = 0 := by omega
  rw [e0, Int.gcd_zero_left] at hg
  omega

set_option maxRecDepth 100000 in
set_option maxHeartbeats 2000000 in
theorem around_any (n D d : Int) (w : World) (hn : IsI n) (hD : IsI D) (_hd : IsI d) :
    Calls Try.prog 69 #[frv n D, .int .i64 d] w (RetAr w n D d) := by
  have hv' := fun W => rvalid_any n D W hn hD
  cases hv : vldB n D
  · rw [hv] at hv'
    have HV := Lib.hid hv'
    have hbad : ¬ NOk n D d := fun h => by
      have := vldB_yes h.1
      rw [hv] at this; exact absurd this (by decide)
    have HB := Lib.hid hbad
    unfold frv at *
    clear hv hv' hn hD hbad
    go_enter Try.func69, Try.ntmps69
    go_wp2_with (go_at_call 21; refine (HV.out _).mono ?_; rintro e w1 ⟨rfl, hx1⟩; have S1 := AB.start hx1; obtain ⟨n1, n2, n3⟩ := S1.2.1.facts; obtain ⟨b1, b2, b3⟩ := S1.2.2.1.facts; obtain ⟨c1, c2, c3⟩ := S1.2.2.2.facts)
    refine bodyPost_ret (v := .tuple #[.agg #[.int .i64 0, .int .i64 0], .agg #[.int .i64 0, .int .i64 0], .int .i64 2]) (by simp [results, Try.results69, go_sem, b1, c1]) rfl ?_
    exact ⟨0, 0, 0, 0, 2, rfl, .inl ⟨HB.out, rfl, rfl, rfl, rfl, rfl⟩, below2 (below2 S1.1 (by omega) _ _) (by omega) _ _⟩
  · rw [hv] at hv'
    have HV := Lib.hid hv'
    have hvl : Vld n D := of_decide_eq_true hv
    obtain ⟨a1, a2, a3, a4, a5⟩ := of_decide_eq_true hv
    by_cases hd2 : d < 1 ∨ 1000000000 < d
    · have hbad : ¬ NOk n D d := fun h => by have := h.2; omega
      have HB := Lib.hid hbad
      unfold frv at *
      clear hv hv' hn hD hbad a1 a2 a3 a4 a5 hvl
      have hd3 : d < 1 ∨ (1 ≤ d ∧ 1000000000 < d) := by omega
      clear hd2
      rcases hd3 with h | ⟨h, h'⟩
      all_goals
        go_enter Try.func69, Try.ntmps69
        go_wp2_with (go_at_call 21; refine (HV.out _).mono ?_; rintro e w1 ⟨rfl, hx1⟩; have S1 := AB.start hx1; obtain ⟨n1, n2, n3⟩ := S1.2.1.facts; obtain ⟨b1, b2, b3⟩ := S1.2.2.1.facts; obtain ⟨c1, c2, c3⟩ := S1.2.2.2.facts)
        refine bodyPost_ret (v := .tuple #[.agg #[.int .i64 0, .int .i64 0], .agg #[.int .i64 0, .int .i64 0], .int .i64 2]) (by simp [results, Try.results69, go_sem, b1, c1]) rfl ?_
        exact ⟨0, 0, 0, 0, 2, rfl, .inl ⟨HB.out, rfl, rfl, rfl, rfl, rfl⟩, below2 (below2 S1.1 (by omega) _ _) (by omega) _ _⟩
    · have d1 : 1 ≤ d := by omega
      have d2 : d ≤ 1000000000 := by omega
      have HOK := Lib.hid (show NOk n D d from ⟨hvl, d1, d2⟩)
      by_cases hle : D ≤ d
      · have HA := Lib.hid (show ArOk n D d n D n D 0 from .inr ⟨HOK.out, .inl ⟨hle, rfl, rfl, rfl, rfl⟩, rfl⟩)
        unfold frv at *
        clear hv hv' hn hD hd2 a1 a2 a3 a4 a5 hvl HOK
        go_enter Try.func69, Try.ntmps69
        go_upto_region 4 with (go_at_call 21; refine (HV.out _).mono ?_; rintro e w1 ⟨rfl, hx1⟩; have S1 := AB.start hx1; obtain ⟨n1, n2, n3⟩ := S1.2.1.facts; obtain ⟨b1, b2, b3⟩ := S1.2.2.1.facts; obtain ⟨c1, c2, c3⟩ := S1.2.2.2.facts)
        clear HV hx1
        go_region
        all_goals
          go_wp2
          refine bodyPost_ret (v := .tuple #[.agg #[.int .i64 n, .int .i64 D], .agg #[.int .i64 n, .int .i64 D], .int .i64 0]) (by simp [results, Try.results69, go_sem, b1, c1]) rfl ?_
          exact ⟨n, D, n, D, 0, rfl, HA.out, by repeat (first | exact S1.1 | refine Below.drew ?_ | refine Below.setCell ?_ (by simp; try omega) _)⟩
      · have hlt : d < D := by omega
        obtain ⟨q1, q2, q3⟩ := around_parts hvl d1 hlt
        obtain ⟨e1, e2⟩ := rat_one (n := n) hvl.1 hvl.2.2.2.2
        have hof : ∀ W, Calls Try.prog 34 #[frv n D] W (RetQ W (rat n D)) := fun W => of_any n D W (by omega) (by omega) (by omega) (by omega) (by omega)
        have hdn := fun v W (h : QAt W v (rat n D)) => down_q v _ W h (qok_rat (n := n) (d := D) (by omega) a1 (by omega))
        rw [floor_eq, e1, e2] at hdn
        obtain ⟨m1, m2⟩ := div_bd (n := n) (d := D) (B := 1000000000) a1 a3 a4 (by omega)
        have hwh := fun v W (h : QAt W v ((n / D : Int) : Rat)) => whole_yes v ((n / D : Int) : Rat) W h (by rw [Rat.den_intCast]) (by rw [Rat.num_intCast]; omega)
        rw [Rat.num_intCast] at hwh
        have hbt := fun W => between_any (n - n / D * D) D d W q1 q2 a2 d1 hlt q3
        have hsh := fun a b c e (h : Nb.In (n - n / D * D) D d a b c e) (h0 : d < b + e) => (show ArOk n D d (a + n / D * b) b (c + n / D * e) e 0 from .inr ⟨HOK.out, .inr ⟨hlt, h.shift (n / D), h0⟩, rfl⟩)
        have hbd := fun a b c e (h : Nb.In (n - n / D * D) D d a b c e) => And.intro (h.lo_bd (M := 1000000000) hlt (by omega) (by omega)) (And.intro (h.hi_bd (M := 1000000000) hlt (by omega) (by omega)) (And.intro h.b1 (And.intro h.e1 (And.intro h.bd h.ed))))
        generalize n / D = t at *
        obtain ⟨t1, t2⟩ := mul_bd2 (x := t) (y := D) m1 m2 (by omega) (by omega)
        unfold frv at *
        have HOF := Lib.hid hof
        have HDN := Lib.hid hdn
        have HWH := Lib.hid hwh
        have HBT := Lib.hid hbt
        have HSH := Lib.hid hsh
        have HBD := Lib.hid hbd
        clear hv hv' hn hD hd2 a5 hvl HOK hof hdn hwh hbt hsh hbd q3 e1 e2
        go_enter Try.func69, Try.ntmps69
        go_upto_region 7 with (first
          | (go_at_call 21; refine (HV.out _).mono ?_; rintro e w1 ⟨rfl, hx1⟩; have S1 := AB.start hx1; obtain ⟨n1, n2, n3⟩ := S1.2.1.facts)
          | (go_at_call 34; refine (HOF.out _).mono ?_; rintro e w2 ⟨v2, rfl, hq2, hx2⟩; have S2 := S1.call hx2)
          | (go_at_call 97; refine (HDN.out _ _ hq2).mono ?_; rintro e w3 ⟨v3, rfl, hq3, hx3⟩; have S3 := S2.call hx3)
          | (go_at_call 37; refine (HWH.out _ _ hq3).mono ?_; rintro e w4 ⟨rfl, hx4⟩; have S4 := S3.call hx4; obtain ⟨n1, n2, n3⟩ := S4.2.1.facts)
          | (go_at_call 100; refine (HBT.out _).mono ?_; unfold RetB frv; rintro e w5 ⟨a, b, c, e5, rfl, hin, hbe, hx5⟩; have S5 := S4.call hx5))
        have L6 := (Ce.new (T := 23) w5 (.int .i64 a) (.int .i64 b)).alloc (.cells #[.int .i64 c, .int .i64 e5] 23)
        have H6 := Ce.new (T := 23) (w5.alloc (.cells #[.int .i64 a, .int .i64 b] 23)) (.int .i64 c) (.int .i64 e5)
        simp only [World.size_alloc] at H6
        have S6 := (S5.call ((Below.refl _ _).alloc (Nat.le_refl _) (.cells #[.int .i64 a, .int .i64 b] 23))).call ((Below.refl _ _).alloc (Nat.le_refl _) (.cells #[.int .i64 c, .int .i64 e5] 23))
        have hg5 : w.heap.size + 1 + 1 < w5.heap.size := S5.2.2.2.facts.2.2
        generalize (w5.alloc (.cells #[.int .i64 a, .int .i64 b] 23)).alloc (.cells #[.int .i64 c, .int .i64 e5] 23) = w6 at *
        generalize w5.heap.size = g5 at *
        have hfin := HSH.out a b c e5 hin hbe
        obtain ⟨⟨p1, p2⟩, ⟨p3, p4⟩, p5, p6, p7, p8⟩ := HBD.out a b c e5 hin
        obtain ⟨y1, y2⟩ := mul_bd2 (x := t) (y := b) m1 m2 (by omega) (by omega)
        obtain ⟨y3, y4⟩ := mul_bd2 (x := t) (y := e5) m1 m2 (by omega) (by omega)
        have HF := Lib.hid hfin
        obtain ⟨B6, N6, R6, T6⟩ := S6
        have HB6 := Lib.hid B6
        have HG6 := Lib.hid (show w.heap.size ≤ g5 ∧ w.heap.size ≤ w.heap.size + 1 ∧ g5 ≠ w.heap.size + 1 ∧ g5 + 1 ≠ w.heap.size + 1 ∧ w.heap.size ≤ w.heap.size + 1 + 1 ∧ g5 ≠ w.heap.size + 1 + 1 ∧ g5 + 1 ≠ w.heap.size + 1 + 1 from by omega)
        have xw1 : IntKind.i64.wrap (t * b) = t * b := IntWalk.i64_in _ ⟨by omega, by omega⟩
        have xw2 : IntKind.i64.wrap (a + t * b) = a + t * b := IntWalk.i64_in _ ⟨by omega, by omega⟩
        have xw3 : IntKind.i64.wrap (t * e5) = t * e5 := IntWalk.i64_in _ ⟨by omega, by omega⟩
        have xw4 : IntKind.i64.wrap (c + t * e5) = c + t * e5 := IntWalk.i64_in _ ⟨by omega, by omega⟩
        obtain ⟨r1, r2, r3⟩ := R6.facts
        obtain ⟨s1, s2, s3⟩ := T6.facts
        have HR := Lib.hid (show HC w g5 (g5 + 1) a b c e5 w6 from ⟨B6, L6, H6⟩)
        have HSC := Lib.hid (fun wx (h : HC w g5 (g5 + 1) a b c e5 wx) => h.cells)
        clear n1 n2 n3 hx1 hx2 hx3 hx4 hx5 S1 S2 S3 S4 S5 hq2 hq3 hin hbe hfin HOF HDN HWH HBT HSH HBD HV hg5 N6 L6 H6 R6 T6 B6 q1 q2 m1 m2 t1 t2 d1 d2 a1 a2 a3 a4 hlt p5 p6 p7 p8
        go_region_held3 (fun wx => HC w g5 (g5 + 1) a b c e5 wx ∧ (wx.cell? ⟨g5, 0, none⟩ = some (.int .i64 a) ∧ wx.cell? ⟨g5, 1, none⟩ = some (.int .i64 b)) ∧ (wx.cell? ⟨g5 + 1, 0, none⟩ = some (.int .i64 c) ∧ wx.cell? ⟨g5 + 1, 1, none⟩ = some (.int .i64 e5)))
          (first | exact HSC.out _ (HR.out.call HG6.out.1 (ext_drew _)) | exact HSC.out _ ((HC.store HR.out HG6.out.2.1 HG6.out.2.2.1 HG6.out.2.2.2.1 _ _).call HG6.out.1 (ext_drew _)) | exact HSC.out _ ((HC.store (HC.store HR.out HG6.out.2.1 HG6.out.2.2.1 HG6.out.2.2.2.1 _ _) HG6.out.2.2.2.2.1 HG6.out.2.2.2.2.2.1 HG6.out.2.2.2.2.2.2 _ _).call HG6.out.1 (ext_drew _)))
          (fail)
        all_goals
          go_wp2
          refine bodyPost_ret (v := .tuple #[.agg #[.int .i64 (a + t * b), .int .i64 b], .agg #[.int .i64 (c + t * e5), .int .i64 e5], .int .i64 0]) (by simp [results, Try.results69, go_sem, r1, s1]) rfl ?_
          exact ⟨_, _, _, _, _, rfl, HF.out, by repeat (first | exact HB6.out | refine Below.drew ?_ | refine Below.setCell ?_ (by simp; try omega) _)⟩
end Go.Proofs.Ythkoblnfeebafaa
