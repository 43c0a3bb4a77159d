/- The reference's simple walked: the lower end is no whole number. Condition: the recursion's contract. -/
import Derived.Test.YthkoblnfeebafaaHe
import Derived.Test.YthkoblnfeebafaaHl
import Derived.Test.YthkoblnfeebafaaHg
namespace Go.Proofs.Ythkoblnfeebafaa
open Go.RowKit

theorem simp_ends {a b : Rat} (h1 : 1 ≤ a.num) (h3 : a.num % (a.den : Int) ≠ 0) :
    0 ≤ a.num / (a.den : Int) ∧ (((a.num / (a.den : Int) : Int) : Rat) - a).num.sign = -1 ∧ (((a.num / (a.den : Int) : Int) : Rat) + ((1 : Int) : Rat) - b).num.sign = ((a.num / (a.den : Int) + 1) * b.den - b.num).sign := by
  have hd := den_one a
  have r1 := Int.emod_nonneg a.num (show (a.den : Int) ≠ 0 by omega)
  refine ⟨Int.ediv_nonneg (by omega) (by omega), ?_, ?_⟩
  · have e : ((a.num / (a.den : Int) : Int) : Rat) - a = rat (-(a.num % (a.den : Int))) a.den := by
      rw [← neg_eq, ← rest_eq, floor_eq]
      grind
    rw [e, sign_rat hd]
    exact Int.sign_eq_neg_one_of_neg (by omega)
  · have e : ((a.num / (a.den : Int) : Int) : Rat) + ((1 : Int) : Rat) - b = rat ((a.num / (a.den : Int) + 1) * b.den - b.num) b.den := by
      have e2 := cast_ne (den_one b)
      conv => lhs; rhs; rw [← rat_selfq b]
      unfold rat
      rw [Rat.intCast_sub, Rat.intCast_mul, Rat.intCast_add]
      grind
    rw [e, sign_rat (den_one b)]

/-- with the lower end rounded down in block gL -/
def SL (w : World) (gL : Nat) (p r l : QV) (a b : Rat) (A : Int) (wx : World) : Prop := SB w p r a b wx ∧ QB wx gL l (A : Rat)
theorem SL.call {w : World} {gL : Nat} {p r l : QV} {a b : Rat} {A : Int} {wx wy : World} (h : SL w gL p r l a b A wx) (hb : Below wx.heap.size wx wy) : SL w gL p r l a b A wy := ⟨h.1.call hb, h.2.ext hb⟩
theorem SL.store {w : World} {gL k : Nat} {p r l : QV} {a b : Rat} {A : Int} {wx : World} (h : SL w gL p r l a b A wx) (hk : Res3 44 wx k) (h1 : w.heap.size + 1 + 1 < k) (h2 : gL ≠ k) (x y z : Value) :
    SL w gL p r l a b A (((wx.setCell ⟨k, 0, none⟩ x).setCell ⟨k, 1, none⟩ y).setCell ⟨k, 2, none⟩ z) := by
  obtain ⟨⟨a1, a2, a3, a4⟩, a5⟩ := h
  exact ⟨⟨below3 a1 (by omega) _ _ _, a2.set_ne (by omega) hk.typ _ _ _, a3.set_ne (by omega) hk.typ _ _ _, a4.set_ne (by omega) _ _ _⟩, a5.set_ne h2 hk.typ _ _ _⟩

/-- with one in block gO, the result of any content -/
def SV (w : World) (gL gO : Nat) (p r l u : QV) (a b : Rat) (A : Int) (wx : World) : Prop := SR w p r a b wx ∧ QB wx gL l (A : Rat) ∧ QB wx gO u ((1 : Int) : Rat)
theorem SV.call {w : World} {gL gO : Nat} {p r l u : QV} {a b : Rat} {A : Int} {wx wy : World} (h : SV w gL gO p r l u a b A wx) (hb : Below wx.heap.size wx wy) : SV w gL gO p r l u a b A wy := ⟨h.1.call hb, h.2.1.ext hb, h.2.2.ext hb⟩
theorem SV.drew {w : World} {gL gO : Nat} {p r l u : QV} {a b : Rat} {A : Int} {wx : World} (h : SV w gL gO p r l u a b A wx) : SV w gL gO p r l u a b A wx.drew := h.call (ext_drew _)
theorem SV.store {w : World} {gL gO : Nat} {p r l u : QV} {a b : Rat} {A : Int} {wx : World} (h : SV w gL gO p r l u a b A wx) (hg : gL ≠ w.heap.size + 1 + 1 ∧ gO ≠ w.heap.size + 1 + 1) (x y z : Value) :
    SV w gL gO p r l u a b A (((wx.setCell ⟨w.heap.size + 1 + 1, 0, none⟩ x).setCell ⟨w.heap.size + 1 + 1, 1, none⟩ y).setCell ⟨w.heap.size + 1 + 1, 2, none⟩ z) :=
  ⟨h.1.store _ _ _, h.2.1.set_ne hg.1 h.1.2.2.2.typ _ _ _, h.2.2.set_ne hg.2 h.1.2.2.2.typ _ _ _⟩
theorem SV.cells {w : World} {gL gO : Nat} {p r l u : QV} {a b : Rat} {A : Int} {wx : World} (h : SV w gL gO p r l u a b A wx) : SV w gL gO p r l u a b A wx ∧
    (wx.cell? ⟨w.heap.size, 0, none⟩ = some (.bool p.s) ∧ wx.cell? ⟨w.heap.size, 1, none⟩ = some (.slice p.A p.n p.c) ∧ wx.cell? ⟨w.heap.size, 2, none⟩ = some (.slice p.B p.m p.d)) ∧
    (wx.cell? ⟨w.heap.size + 1, 0, none⟩ = some (.bool r.s) ∧ wx.cell? ⟨w.heap.size + 1, 1, none⟩ = some (.slice r.A r.n r.c) ∧ wx.cell? ⟨w.heap.size + 1, 2, none⟩ = some (.slice r.B r.m r.d)) ∧
    (wx.cell? ⟨gL, 0, none⟩ = some (.bool l.s) ∧ wx.cell? ⟨gL, 1, none⟩ = some (.slice l.A l.n l.c) ∧ wx.cell? ⟨gL, 2, none⟩ = some (.slice l.B l.m l.d)) ∧
    (wx.cell? ⟨gO, 0, none⟩ = some (.bool u.s) ∧ wx.cell? ⟨gO, 1, none⟩ = some (.slice u.A u.n u.c) ∧ wx.cell? ⟨gO, 2, none⟩ = some (.slice u.B u.m u.d)) :=
  ⟨h, h.1.2.1.1.cells, h.1.2.2.1.1.cells, h.2.1.1.cells, h.2.2.1.cells⟩

set_option maxRecDepth 100000 in
set_option maxHeartbeats 4000000 in
theorem simple_up (va vb : Value) (a b : Rat) (w : World) (ha : QAt w va a) (hb : QAt w vb b) (la : Lim a) (lb : Lim b) (h1 : 1 ≤ a.num) (h2 : 1 ≤ b.num) (h3 : a.num % (a.den : Int) ≠ 0) (hle : a.num * b.den ≤ b.num * a.den)
    (IH : b.num < (a.num / (a.den : Int) + 1) * b.den → ∀ va vb W, QAt W va (rat b.den (b.num - a.num / (a.den : Int) * b.den)) → QAt W vb (rat a.den (a.num - a.num / (a.den : Int) * a.den)) →
      Calls Try.prog 95 #[va, vb] W (RetSQ W (rat b.den (b.num - a.num / (a.den : Int) * b.den)) (rat a.den (a.num - a.num / (a.den : Int) * a.den)))) :
    Calls Try.prog 95 #[va, vb] w (RetSQ w a b) := by
  obtain ⟨p, rfl, hp⟩ := q_formV ha
  obtain ⟨r, rfl, hr⟩ := q_formV hb
  have hd := den_one a
  obtain ⟨hA0, ho1, ho2⟩ := simp_ends (b := b) h1 h3
  have hdn := fun W (h : QAt W (.agg #[.bool p.s, .slice p.A p.n p.c, .slice p.B p.m p.d]) a) => down_q _ a W h la.ok
  rw [floor_eq] at hdn
  have hl := la.1
  have hbd := div_bd (n := a.num) (d := a.den) (B := 1000000000) hd (by omega) (by omega) (by omega)
  generalize hAd : a.num / (a.den : Int) = A at *
  have zA := qok_int (n := A) (by omega) (by omega)
  have hor := fun vx W (x : QAt W vx (A : Rat)) (y : QAt W (.agg #[.bool p.s, .slice p.A p.n p.c, .slice p.B p.m p.d]) a) => order_q vx _ (A : Rat) a W x y zA la.ok
  rw [ho1] at hor
  have hpl := fun va vb W (x : QAt W va (A : Rat)) (y : QAt W vb ((1 : Int) : Rat)) => plus_q va vb _ _ W x y zA (qok_int (n := 1) (by decide) (by decide))
  have hs := SB.start hp hr
  have HS := Lib.hid hs
  have hsa := fun W (h : QAt W (.agg #[.bool p.s, .slice p.A p.n p.c, .slice p.B p.m p.d]) a) => sign_any _ a W h
  have hsb := fun W (h : QAt W (.agg #[.bool r.s, .slice r.A r.n r.c, .slice r.B r.m r.d]) b) => sign_any _ b W h
  rw [Int.sign_eq_one_of_pos (show 0 < a.num by omega)] at hsa
  rw [Int.sign_eq_one_of_pos (show 0 < b.num by omega)] at hsb
  have HSA := Lib.hid hsa
  have HSB := Lib.hid hsb
  have HDN := Lib.hid hdn
  have HOR := Lib.hid hor
  have HPL := Lib.hid hpl
  have HI1 := Lib.hid (fun W => int_any 1 W (by decide) (by decide))
  have HIH := Lib.hid IH
  clear IH
  have HZA := Lib.hid (And.intro zA hA0)
  have HALL := Lib.hid (And.intro h1 (And.intro h2 (And.intro h3 (And.intro hle (And.intro hAd (And.intro ho2 (And.intro la lb)))))))
  clear ha hb hp hr h1 h2 h3 hle hd hdn hl hbd hAd hor hpl hs hsa hsb la lb hA0 ho1 ho2 zA
  go_enter Try.func95, Try.ntmps95
  go_upto_region 6 with (first
    | (go_at_call 35; ((with_reducible refine (HSA.out _ ?_).mono ?_)); exact HS.out.2.1.2; rintro e w1 ⟨rfl, hx1⟩; have S1 := HS.out.call hx1; obtain ⟨a1, a2, a3⟩ := S1.2.1.1.facts; obtain ⟨b1, b2, b3⟩ := S1.2.2.1.1.facts; obtain ⟨c1, c2, c3⟩ := S1.2.2.2.facts)
    | (go_at_call 35; ((with_reducible refine (HSB.out _ ?_).mono ?_)); exact S1.2.2.1.2; rintro e w2 ⟨rfl, hx2⟩; have S2 := S1.call hx2; obtain ⟨a1, a2, a3⟩ := S2.2.1.1.facts; obtain ⟨b1, b2, b3⟩ := S2.2.2.1.1.facts; obtain ⟨c1, c2, c3⟩ := S2.2.2.2.facts)
    | (go_at_call 97; refine (HDN.out _ S2.2.1.2).mono ?_; rintro e w3 ⟨v3, rfl, hq3, hx3⟩; obtain ⟨o, rfl, ho⟩ := q_formV hq3; clear hq3; have S3 := S2.call hx3))
  have L3 := QB.new ho
  have S4 := S3.call ((Below.refl _ _).alloc (Nat.le_refl _) (.cells #[.bool o.s, .slice o.A o.n o.c, .slice o.B o.m o.d] 44))
  have HG3 := Lib.hid (show w.heap.size + 1 + 1 < w3.heap.size from S3.2.2.2.facts.2.2)
  generalize w3.alloc _ = w4 at *
  generalize w3.heap.size = g3 at *
  clear a1 a2 a3 b1 b2 b3 c1 c2 c3 S1 S2 S3 hx1 hx2 hx3 ho
  have HL := Lib.hid L3
  have HS4 := Lib.hid S4
  obtain ⟨a1, a2, a3⟩ := S4.2.1.1.facts
  obtain ⟨b1, b2, b3⟩ := S4.2.2.1.1.facts
  obtain ⟨c1, c2, c3⟩ := S4.2.2.2.facts
  obtain ⟨l1, l2, l3⟩ := L3.1.facts
  clear L3 S4
  go_upto_region 8 with (go_at_call 39; refine (HOR.out _ _ HL.out.2 HS4.out.2.1.2).mono ?_; rintro e w5 ⟨rfl, hx5⟩; have S5 : SL w g3 p r o a b A w5 := ⟨HS4.out.call hx5, HL.out.ext hx5⟩)
  have HS5 := Lib.hid S5
  clear S5 a1 a2 a3 b1 b2 b3 c1 c2 c3 l1 l2 l3 hx5
  go_cut [6] (fun z wx => ∃ (g : Nat) (x : QV), z = .pointer (some ⟨g, 0, none⟩) ∧ w.heap.size + 1 + 1 < g ∧ SL w g3 p r o a b A wx ∧ QB wx g x ((A : Rat) + ((1 : Int) : Rat)))
  case first =>
    have hSS : ∀ wx, Below w5.heap.size w5 wx → (Below w5.heap.size w5 wx ∧ wx.cell? ⟨g3, 0, none⟩ = some (.bool o.s) ∧ wx.cell? ⟨g3, 1, none⟩ = some (.slice o.A o.n o.c) ∧ wx.cell? ⟨g3, 2, none⟩ = some (.slice o.B o.m o.d)) := fun wx h => ⟨h, (HS5.out.call h).2.1.cells⟩
    have HSS := Lib.hid hSS
    clear hSS
    go_region_held3 (fun wx => Below w5.heap.size w5 wx ∧ wx.cell? ⟨g3, 0, none⟩ = some (.bool o.s) ∧ wx.cell? ⟨g3, 1, none⟩ = some (.slice o.A o.n o.c) ∧ wx.cell? ⟨g3, 2, none⟩ = some (.slice o.B o.m o.d))
      (first | assumption | exact HSS.out _ (ext_trans (And.left (by assumption)) (by assumption)) | exact HSS.out _ (ext_drew _) | exact HSS.out _ (((Below.refl _ _).alloc (Nat.le_refl _) _).drew) | exact HSS.out _ ((And.left (by assumption) : Below w5.heap.size w5 _).alloc (Below.size (And.left (by assumption) : Below w5.heap.size w5 _)) _) | exact HSS.out _ (Below.alloc (by assumption) (Below.size (by assumption)) _) | exact HSS.out _ (below3 (by assumption) (Below.size (by assumption)) _ _ _) | exact HSS.out _ (below3 (by assumption) (Nat.le_refl _) _ _ _))
      (first
        | (go_at_call 80; refine (HI1.out _).mono ?_; rintro e w6 ⟨v6, rfl, hq6, hx6⟩; obtain ⟨p6, rfl, hp6⟩ := q_formV hq6; clear hq6; have hb6 := ext_trans (And.left (by assumption) : Below w5.heap.size w5 _) hx6; (first | (have NB := (C3.new (T := 44) _ (.bool false) (.slice none 0 0) (.slice none 0 0)).ext hx6; obtain ⟨n1, n2, n3⟩ := NB.facts) | (have NB := (C3.new (T := 44) _ (.bool false) (.slice none 0 0) (.slice none 0 0)).drew.ext hx6; obtain ⟨n1, n2, n3⟩ := NB.facts) | skip))
        | (go_at_call 40; refine (HPL.out _ _ _ ?_ ?_).mono ?_; (first | exact (HS5.out.call hb6).2.2 | exact ((HS5.out.call hb6).call ((Below.refl _ _).alloc (Nat.le_refl _) _)).2.2); (first | exact hp6 | exact hp6.ext ((Below.refl _ _).alloc (Nat.le_refl _) _)); rintro e w7 ⟨v7, rfl, hq7, hx7⟩; obtain ⟨p7, rfl, hp7⟩ := q_formV hq7; clear hq7; have hb7 := (by first | exact ext_trans hb6 hx7 | exact ext_trans (ext_trans hb6 ((Below.refl _ _).alloc (Nat.le_refl _) _)) hx7 : Below w5.heap.size w5 w7); (first | (have NB := NB.ext hx7; obtain ⟨n1, n2, n3⟩ := NB.facts) | (have NB := (C3.new (T := 44) _ (.bool false) (.slice none 0 0) (.slice none 0 0)).ext hx7; obtain ⟨n1, n2, n3⟩ := NB.facts) | skip)))
    all_goals
      have j1 : w.heap.size + 1 + 1 < w5.heap.size := HS5.out.1.2.2.2.facts.2.2
      have j2 : g3 < w5.heap.size := HS5.out.2.1.lt
      have j3 := hb6.size
      have j4 := hb7.size
      go_wp2
      go_meet
      first
        | exact ⟨_, p7, rfl, by omega, (HS5.out.call hb7).store (C3.res NB) (by omega) (by omega) _ _ _, (C3.res NB).setQ hp7⟩
        | exact ⟨_, p7, rfl, by omega, HS5.out.call (ext_trans hb7 ((Below.refl _ _).alloc (Nat.le_refl _) _)), QB.new hp7⟩
  case rest =>
    obtain ⟨g, x, rfl, hg, hsl, hqx⟩ := hcut
    obtain ⟨h1, h2, h3, hle, hAd, ho2, la, lb⟩ := HALL.out
    have hd := den_one a
    have e1 := Int.mul_ediv_add_emod a.num a.den
    have r1 := Int.emod_nonneg a.num (show (a.den : Int) ≠ 0 by omega)
    have r2 := Int.emod_lt_of_pos a.num (show 0 < (a.den : Int) by omega)
    have hl := la.1
    have hbd := div_bd (n := a.num) (d := a.den) (B := 1000000000) hd (by omega) (by omega) (by omega)
    have hA0 : 0 ≤ a.num / (a.den : Int) := Int.ediv_nonneg (by omega) (by omega)
    rw [hAd] at e1 hbd hA0
    have eA : A * (a.den : Int) = a.den * A := Int.mul_comm _ _
    have eA1 : (A + 1) * (a.den : Int) = A * a.den + a.den := by grind
    rw [← Rat.intCast_add] at hqx ho2
    have hon := fun vx W (y : QAt W vx ((A + 1 : Int) : Rat)) (z : QAt W (.agg #[.bool r.s, .slice r.A r.n r.c, .slice r.B r.m r.d]) b) => order_q vx _ _ b W y z (qok_int (n := A + 1) (by omega) (by omega)) lb.ok
    rw [ho2] at hon
    have HSL := Lib.hid hsl
    have HX := Lib.hid hqx
    obtain ⟨a1, a2, a3⟩ := hsl.1.2.1.1.facts
    obtain ⟨b1, b2, b3⟩ := hsl.1.2.2.1.1.facts
    obtain ⟨c1, c2, c3⟩ := hsl.1.2.2.2.facts
    obtain ⟨l1, l2, l3⟩ := hsl.2.1.facts
    obtain ⟨x1, x2, x3⟩ := hqx.1.facts
    clear hsl hqx
    by_cases hnx : (A + 1) * (b.den : Int) ≤ b.num
    · have hw := Sp.whole_pos (an := a.num) (ad := a.den) (bn := b.num) (bd := b.den) (m := A + 1) hd (by omega) (by omega) hnx (by rw [Int.add_sub_cancel]; omega)
      have HW := Lib.hid hw
      have hsg : ((A + 1) * (b.den : Int) - b.num).sign = -1 ∨ ((A + 1) * (b.den : Int) - b.num).sign = 0 := by
        rcases sgn_cases ((A + 1) * (b.den : Int) - b.num) with h | h | h <;> omega
      generalize ((A + 1) * (b.den : Int) - b.num).sign = sg at *
      have HON := Lib.hid hon
      clear hw hon hnx ho2 e1 r1 r2 hl hbd hA0 eA eA1 h1 h2 h3 hle hAd la lb hd HALL
      rcases hsg with rfl | rfl
      all_goals
        go_wp2_with (go_at_call 39; refine (HON.out _ _ HX.out.2 HSL.out.1.2.2.1.2).mono ?_; rintro e w8 ⟨rfl, hx8⟩; have S8 := HSL.out.call hx8; have X8 := HX.out.ext hx8; obtain ⟨c1, c2, c3⟩ := S8.1.2.2.2.facts; obtain ⟨x1, x2, x3⟩ := X8.1.facts)
        refine bodyPost_ret (v := .agg #[.bool x.s, .slice x.A x.n x.c, .slice x.B x.m x.d]) (by simp [results, Try.results95, go_sem, c1]) rfl ?_
        refine ⟨_, _, rfl, X8.2.off3 S8.1.2.2.2.typ (by decide) _ _ _, ?_, ?_, below3 S8.1.1 (by omega) _ _ _⟩
        · rw [Rat.num_intCast, Rat.den_intCast]; exact HW.out.1
        · rw [Rat.num_intCast, Rat.den_intCast]; exact HW.out.2
    · have hnx2 : b.num < (A + 1) * (b.den : Int) := by omega
      have hss := simple_start la lb HZA.out.1 h3 hAd hle hnx2 (HIH.out hnx2)
      have hse := fun q hq => simple_end (a := a) (b := b) (A := A) la lb HZA.out.1 HZA.out.2 h3 hAd hle hnx2 (q := q) hq
      have HSS := Lib.hid hss
      have HSE := Lib.hid hse
      rw [Int.sign_eq_one_of_pos (show 0 < (A + 1) * (b.den : Int) - b.num by omega)] at hon
      have HON := Lib.hid hon
      clear hon hnx hnx2 ho2 e1 r1 r2 hl hbd hA0 eA eA1 h1 h2 h3 hle hAd la lb hd HALL HIH HZA hss hse
      go_upto_region 12 with (first
        | (go_at_call 39; refine (HON.out _ _ HX.out.2 HSL.out.1.2.2.1.2).mono ?_; rintro e w8 ⟨rfl, hx8⟩; have S8 := HSL.out.call hx8)
        | (go_at_call 80; refine (HI1.out _).mono ?_; rintro e w9 ⟨v9, rfl, hq9, hx9⟩; obtain ⟨u, rfl, hu⟩ := q_formV hq9; clear hq9; have S9 := S8.call hx9))
      have U9 := QB.new hu
      have S10 := S9.call ((Below.refl _ _).alloc (Nat.le_refl _) (.cells #[.bool u.s, .slice u.A u.n u.c, .slice u.B u.m u.d] 44))
      have HG37 : g3 ≠ w.heap.size + 1 + 1 ∧ w9.heap.size ≠ w.heap.size + 1 + 1 := ⟨by have := HG3.out; omega, by have := S9.1.2.2.2.facts.2.2; omega⟩
      generalize w9.alloc _ = w10 at *
      generalize w9.heap.size = g7 at *
      clear a1 a2 a3 b1 b2 b3 c1 c2 c3 l1 l2 l3 x1 x2 x3 S8 S9 hx8 hx9 hu HSL HX
      have hg37 : g3 ≠ w.heap.size + 1 + 1 ∧ g7 ≠ w.heap.size + 1 + 1 := HG37
      have HG := Lib.hid hg37
      have HR := Lib.hid (show SV w g3 g7 p r o u a b A w10 from ⟨⟨S10.1.1, S10.1.2.1, S10.1.2.2.1, S10.1.2.2.2.res⟩, S10.2, U9⟩)
      have HSC := Lib.hid (fun wx (h : SV w g3 g7 p r o u a b A wx) => h.cells)
      clear S10 U9 hg37 HG37
      go_region_held3 (fun wx => SV w g3 g7 p r o u a b A wx ∧
          (wx.cell? ⟨w.heap.size, 0, none⟩ = some (.bool p.s) ∧ wx.cell? ⟨w.heap.size, 1, none⟩ = some (.slice p.A p.n p.c) ∧ wx.cell? ⟨w.heap.size, 2, none⟩ = some (.slice p.B p.m p.d)) ∧
          (wx.cell? ⟨w.heap.size + 1, 0, none⟩ = some (.bool r.s) ∧ wx.cell? ⟨w.heap.size + 1, 1, none⟩ = some (.slice r.A r.n r.c) ∧ wx.cell? ⟨w.heap.size + 1, 2, none⟩ = some (.slice r.B r.m r.d)) ∧
          (wx.cell? ⟨g3, 0, none⟩ = some (.bool o.s) ∧ wx.cell? ⟨g3, 1, none⟩ = some (.slice o.A o.n o.c) ∧ wx.cell? ⟨g3, 2, none⟩ = some (.slice o.B o.m o.d)) ∧
          (wx.cell? ⟨g7, 0, none⟩ = some (.bool u.s) ∧ wx.cell? ⟨g7, 1, none⟩ = some (.slice u.A u.n u.c) ∧ wx.cell? ⟨g7, 2, none⟩ = some (.slice u.B u.m u.d)))
        (first | exact HSC.out _ (SV.call (And.left (by assumption)) (by assumption)) | exact HSC.out _ HR.out.drew | exact HSC.out _ (SV.store (And.left (by assumption)) HG.out _ _ _))
        (first
          | (go_at_call_of 33 r; refine (HSS.out.1 _ _ _ ?_ ?_).mono ?_; exact (And.left (by assumption) : SV w g3 g7 p r o u a b A _).1.2.2.1.2; exact (And.left (by assumption) : SV w g3 g7 p r o u a b A _).2.1.2; rintro e w11 ⟨v11, rfl, hq11, hx11⟩; obtain ⟨p11, rfl, hp11⟩ := q_formV hq11; clear hq11)
          | (go_at_call_of 38 p11; refine (HSS.out.2.2.1 _ _ _ ?_ hp11).mono ?_; exact (And.left (by assumption) : SV w g3 g7 p r o u a b A _).2.2.2; rintro e w12 ⟨v12, rfl, hq12, hx12⟩; obtain ⟨p12, rfl, hp12⟩ := q_formV hq12; clear hq12)
          | (go_at_call_of 33 p; refine (HSS.out.2.1 _ _ _ ?_ ?_).mono ?_; exact (And.left (by assumption) : SV w g3 g7 p r o u a b A _).1.2.1.2; exact (And.left (by assumption) : SV w g3 g7 p r o u a b A _).2.1.2; rintro e w13 ⟨v13, rfl, hq13, hx13⟩; obtain ⟨p13, rfl, hp13⟩ := q_formV hq13; clear hq13; have P13 := hp12.ext hx13)
          | (go_at_call_of 38 p13; refine (HSS.out.2.2.2.1 _ _ _ ?_ hp13).mono ?_; exact (And.left (by assumption) : SV w g3 g7 p r o u a b A _).2.2.2; rintro e w14 ⟨v14, rfl, hq14, hx14⟩; obtain ⟨p14, rfl, hp14⟩ := q_formV hq14; clear hq14; have P14 := P13.ext hx14)
          | (go_at_call 95; refine (HSS.out.2.2.2.2 _ _ _ P14 hp14).mono ?_; rintro e w15 ⟨q15, v15, rfl, hq15, hst, hx15⟩; obtain ⟨p15, rfl, hp15⟩ := q_formV hq15; have HF := Lib.hid (HSE.out _ hst); clear hq15 hst)
          | (go_at_call_of 38 p15; refine (HF.out.1 _ _ _ ?_ hp15).mono ?_; exact (And.left (by assumption) : SV w g3 g7 p r o u a b A _).2.2.2; rintro e w16 ⟨v16, rfl, hq16, hx16⟩; obtain ⟨p16, rfl, hp16⟩ := q_formV hq16; clear hq16)
          | (go_at_call 40; refine (HF.out.2.1 _ _ _ ?_ hp16).mono ?_; exact (And.left (by assumption) : SV w g3 g7 p r o u a b A _).2.1.2; rintro e w17 ⟨v17, rfl, hq17, hx17⟩; obtain ⟨p17, rfl, hp17⟩ := q_formV hq17; clear hq17; have S17 := SV.call (And.left (by assumption)) hx17; obtain ⟨r0, r1, r2, hc, hf, hz⟩ := S17.1.2.2.2.facts))
      all_goals
        go_wp2
        refine bodyPost_ret (v := .agg #[.bool p17.s, .slice p17.A p17.n p17.c, .slice p17.B p17.m p17.d]) (by simp [results, Try.results95, go_sem, hc]) rfl ?_
        exact ⟨_, _, rfl, hp17.off3 S17.1.2.2.2.typ (by decide) _ _ _, HF.out.2.2.1, fun _ => HF.out.2.2.2, below3 S17.1.1 (by omega) _ _ _⟩
end Go.Proofs.Ythkoblnfeebafaa
