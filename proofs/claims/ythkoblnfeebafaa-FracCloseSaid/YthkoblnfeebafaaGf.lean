/- The reference's rounded walked. Conditions: the rational's parts are at most 10^18. -/
import Derived.Test.YthkoblnfeebafaaGe
import Derived.Deep.DeepCutAuto
import Derived.Outline
namespace Go.Proofs.Ythkoblnfeebafaa
open Go.RowKit

/-- what rounded knows of its own blocks -/
def RO (w : World) (gL gR : Nat) (p l r : QV) (q F R : Rat) (wx : World) : Prop :=
  Below w.heap.size w wx ∧ QB wx w.heap.size p q ∧ C3 44 wx (w.heap.size + 1) (.bool false) (.slice none 0 0) (.slice none 0 0) ∧ QB wx gL l F ∧ QB wx gR r R
theorem RO.call {w : World} {gL gR : Nat} {p l r : QV} {q F R : Rat} {wx w1 : World} (h : RO w gL gR p l r q F R wx) (hb : Below wx.heap.size wx w1) : RO w gL gR p l r q F R w1 := by
  obtain ⟨h1, h2, h3, h4, h5⟩ := h
  exact ⟨bext h1 hb (Nat.le_of_lt h2.1.lt), h2.ext hb, h3.ext hb, h4.ext hb, h5.ext hb⟩
theorem RO.drew {w : World} {gL gR : Nat} {p l r : QV} {q F R : Rat} {wx : World} (h : RO w gL gR p l r q F R wx) : RO w gL gR p l r q F R wx.drew := h.call (ext_drew _)
theorem RO.store {w : World} {gL gR gH : Nat} {p l r : QV} {q F R : Rat} {wx : World} (h : RO w gL gR p l r q F R wx) (hH : Res3 44 wx gH) (h0 : w.heap.size + 1 < gH) (h1 : gL ≠ gH) (h2 : gR ≠ gH) (x y z : Value) :
    RO w gL gR p l r q F R (((wx.setCell ⟨gH, 0, none⟩ x).setCell ⟨gH, 1, none⟩ y).setCell ⟨gH, 2, none⟩ z) := by
  obtain ⟨a1, a2, a3, a4, a5⟩ := h
  exact ⟨below3 a1 (by omega) _ _ _, a2.set_ne (by omega) hH.typ _ _ _, a3.set_ne (by omega) _ _ _, a4.set_ne h1 hH.typ _ _ _, a5.set_ne h2 hH.typ _ _ _⟩

set_option maxRecDepth 100000 in
set_option maxHeartbeats 4000000 in
theorem rounded_any (v : Value) (q : Rat) (m : Int) (w : World) (hq : QAt w v q) (b1 : q.num.natAbs ≤ 1000000000000000000) (b2 : q.den ≤ 1000000000000000000) (hm0 : 0 ≤ m) (hm4 : m ≤ 4) :
    Calls Try.prog 92 #[v, .int .i64 m] w (RetQ w ((rndQ q m : Int) : Rat)) := by
  obtain ⟨p, rfl, hp⟩ := q_formV hq
  clear hq
  have hD := den_one q
  have f1 := Int.emod_nonneg q.num (show (q.den : Int) ≠ 0 by omega)
  have f2 := Int.emod_lt_of_pos q.num (show 0 < (q.den : Int) by omega)
  obtain ⟨f3, f4⟩ := div_bd (n := q.num) (d := q.den) (B := 1000000000000000000) hD (by omega) (by omega) (by omega)
  have hres : rndQ q m = rndV q.num q.den (q.num / q.den) (q.num % q.den) m := rfl
  have zq := qok_small (q := q) (by omega) (by omega)
  have hdown := fun vx W (h : QAt W vx q) => down_q vx q W h zq
  rw [floor_eq] at hdown
  have hrest := rest_eq q
  rw [floor_eq] at hrest
  generalize hF : q.num / (q.den : Int) = F at *
  generalize hR : q.num % (q.den : Int) = R at *
  have zF := qok_int (n := F) (by omega) (by omega)
  have zR := qok_rat (n := R) (d := q.den) (by omega) hD (by omega)
  have hless := fun va vb W (x : QAt W va q) (y : QAt W vb (F : Rat)) => less_q va vb q F W x y zq zF
  rw [hrest] at hless
  have hsign := fun vx W (h : QAt W vx (rat R q.den)) => sign_any vx _ W h
  rw [sign_rat hD] at hsign
  have horder := fun va vb W (x : QAt W va (rat R q.den)) (y : QAt W vb (((1 : Int) : Rat) / ((2 : Int) : Rat))) => order_q va vb _ _ W x y zR (qok_rat (n := 1) (d := 2) (by decide) (by decide) (by decide))
  rw [half_eq hD, sign_rat (by omega)] at horder
  have hplus := fun va vb W (x : QAt W va (F : Rat)) (y : QAt W vb ((1 : Int) : Rat)) => plus_q va vb _ _ W x y zF (qok_int (n := 1) (by decide) (by decide))
  rw [← Rat.intCast_add] at hplus
  have hsq := fun vx W (h : QAt W vx q) => sign_any vx _ W h
  have HD := Lib.hid hdown
  have HL := Lib.hid hless
  have HS := Lib.hid hsign
  have HO := Lib.hid horder
  have HP := Lib.hid hplus
  have HSQ := Lib.hid hsq
  have HRES := Lib.hid hres
  have HQ := Lib.hid hp
  have HN := Lib.hid (show R < q.den ∧ 0 ≤ R from ⟨f2, f1⟩)
  have HFB := Lib.hid (show -1000000000000000000 ≤ F ∧ F ≤ 1000000000000000000 from ⟨f3, f4⟩)
  clear hdown hless hsign horder hplus hsq hres hrest hp zq zF zR hF hR b1 b2 f3 f4 f1 f2 hD
  have P0 : CQ ((w.alloc (.cells #[.bool p.s, .slice p.A p.n p.c, .slice p.B p.m p.d] 44)).alloc (.cells #[.bool false, .slice none 0 0, .slice none 0 0] 44)) w.heap.size p := (CQ.new w p).alloc _
  have R0 : C3 44 ((w.alloc (.cells #[.bool p.s, .slice p.A p.n p.c, .slice p.B p.m p.d] 44)).alloc (.cells #[.bool false, .slice none 0 0, .slice none 0 0] 44)) (w.heap.size + 1) (.bool false) (.slice none 0 0) (.slice none 0 0) := by
    have := C3.new (T := 44) (w.alloc (.cells #[.bool p.s, .slice p.A p.n p.c, .slice p.B p.m p.d] 44)) (.bool false) (.slice none 0 0) (.slice none 0 0)
    rwa [show (w.alloc (.cells #[.bool p.s, .slice p.A p.n p.c, .slice p.B p.m p.d] 44)).heap.size = w.heap.size + 1 by simp] at this
  have B0 : Below w.heap.size w ((w.alloc (.cells #[.bool p.s, .slice p.A p.n p.c, .slice p.B p.m p.d] 44)).alloc (.cells #[.bool false, .slice none 0 0, .slice none 0 0] 44)) := ((Below.refl _ _).alloc (Nat.le_refl _) _).alloc (by simp) _
  have HP0 := Lib.hid P0
  have HR0 := Lib.hid R0
  have HB0 := Lib.hid B0
  clear P0 R0 B0
  go_enter Try.func92, Try.ntmps92
  go_upto_region 4 with (first
    | (go_at_call 97; refine (HD.out _ _ (HQ.out.ext HB0.out)).mono ?_; rintro e w1 ⟨v1, rfl, hq1, hx1⟩; obtain ⟨l, rfl, hl⟩ := q_formV hq1; clear hq1; have P1 := HP0.out.ext hx1; have R1 := HR0.out.ext hx1; have B1 := ext_trans HB0.out hx1; have Q1 := HQ.out.ext B1; obtain ⟨c1, c2, c3⟩ := P1.facts; obtain ⟨d1, d2, d3⟩ := R1.facts)
    | (go_at_call 33; refine (HL.out _ _ _ (Q1.ext ((Below.refl _ _).alloc (Nat.le_refl _) _)) (hl.ext ((Below.refl _ _).alloc (Nat.le_refl _) _))).mono ?_; rintro e w2 ⟨v2, rfl, hq2, hx2⟩; obtain ⟨r, rfl, hr⟩ := q_formV hq2; have P2 := (P1.alloc _).ext hx2; have R2 := (R1.alloc _).ext hx2; have L2 := (QB.new hl).ext hx2; have B2 := ext_trans (ext_trans B1 ((Below.refl _ _).alloc (Nat.le_refl _) _)) hx2; have Q2 := HQ.out.ext B2; obtain ⟨c1, c2, c3⟩ := P2.facts; obtain ⟨d1, d2, d3⟩ := R2.facts; obtain ⟨e1, e2, e3⟩ := L2.1.facts))
  have hRO : RO w w1.heap.size w2.heap.size p l r q F (rat R q.den) ((w2.alloc (.cells #[.bool r.s, .slice r.A r.n r.c, .slice r.B r.m r.d] 44)).alloc (.cells #[.bool l.s, .slice l.A l.n l.c, .slice l.B l.m l.d] 44)) := by
    have x1 := ((Below.refl w2.heap.size w2).alloc (Nat.le_refl _) (.cells #[.bool r.s, .slice r.A r.n r.c, .slice r.B r.m r.d] 44))
    have x2 := (x1.alloc (by simp) (.cells #[.bool l.s, .slice l.A l.n l.c, .slice l.B l.m l.d] 44))
    exact ⟨ext_trans B2 x2, ⟨P2.ext x2, Q2.ext x2⟩, R2.ext x2, L2.ext x2, (QB.new hr).ext ((Below.refl _ _).alloc (Nat.le_refl _) _)⟩
  have hH : QB ((w2.alloc (.cells #[.bool r.s, .slice r.A r.n r.c, .slice r.B r.m r.d] 44)).alloc (.cells #[.bool l.s, .slice l.A l.n l.c, .slice l.B l.m l.d] 44)) (w2.heap.size + 1) l (F : Rat) := by
    have := QB.new (w := w2.alloc (.cells #[.bool r.s, .slice r.A r.n r.c, .slice r.B r.m r.d] 44)) (L2.2.ext ((Below.refl _ _).alloc (Nat.le_refl _) _))
    rwa [show (w2.alloc (.cells #[.bool r.s, .slice r.A r.n r.c, .slice r.B r.m r.d] 44)).heap.size = w2.heap.size + 1 by simp] at this
  have g1 : w.heap.size + 1 < w1.heap.size := d3 |> fun _ => R1.facts.2.2
  have g2 : w1.heap.size < w2.heap.size := by have := hx2.size; simp at this; omega
  generalize (w2.alloc (.cells #[.bool r.s, .slice r.A r.n r.c, .slice r.B r.m r.d] 44)).alloc (.cells #[.bool l.s, .slice l.A l.n l.c, .slice l.B l.m l.d] 44) = wl at *
  generalize w1.heap.size = gL at *
  generalize w2.heap.size = gR at *
  clear P1 R1 B1 Q1 P2 R2 L2 B2 Q2 c1 c2 c3 d1 d2 d3 e1 e2 e3 hx1 hx2 hl hr
  have HRO := Lib.hid hRO
  have HH := Lib.hid hH
  obtain ⟨s1, s2, s3⟩ := hRO.2.2.2.2.1.facts
  clear hRO hH
  go_upto_if 18 with (go_at_call 35; refine (HS.out _ _ HRO.out.2.2.2.2.2).mono ?_; rintro e w3 ⟨rfl, hx3⟩; have HRO3 := Lib.hid (HRO.out.call hx3); have HH3 := Lib.hid (HH.out.ext hx3))
  obtain ⟨H, hH⟩ : ∃ H : Int, H = if 0 < R then F + 1 else F := ⟨_, rfl⟩
  have HHV := Lib.hid hH
  clear hH
  go_cut [8] (fun _ wx => ∃ h : QV, RO w gL gR p l r q F (rat R q.den) wx ∧ QB wx (gR + 1) h (H : Rat))
  case first =>
    by_cases hpos : 0 < R
    · rw [Int.sign_eq_one_of_pos hpos]
      have hint := fun W => int_any 1 W (by decide) (by decide)
      have HI := Lib.hid hint
      have hSS : ∀ wx, (RO w gL gR p l r q F (rat R q.den) wx ∧ Res3 44 wx (gR + 1)) → ((RO w gL gR p l r q F (rat R q.den) wx ∧ Res3 44 wx (gR + 1)) ∧ wx.cell? ⟨gL, 0, none⟩ = some (.bool l.s) ∧ wx.cell? ⟨gL, 1, none⟩ = some (.slice l.A l.n l.c) ∧ wx.cell? ⟨gL, 2, none⟩ = some (.slice l.B l.m l.d)) :=
        fun wx h => ⟨h, h.1.2.2.2.1.1.cells⟩
      have hcall : ∀ wx wy, (RO w gL gR p l r q F (rat R q.den) wx ∧ Res3 44 wx (gR + 1)) → Below wx.heap.size wx wy → (RO w gL gR p l r q F (rat R q.den) wy ∧ Res3 44 wy (gR + 1)) := fun wx wy h hb => ⟨h.1.call hb, h.2.ext hb⟩
      have hstore : ∀ wx x y z, (RO w gL gR p l r q F (rat R q.den) wx ∧ Res3 44 wx (gR + 1)) → (RO w gL gR p l r q F (rat R q.den) (((wx.setCell ⟨gR + 1, 0, none⟩ x).setCell ⟨gR + 1, 1, none⟩ y).setCell ⟨gR + 1, 2, none⟩ z) ∧ Res3 44 (((wx.setCell ⟨gR + 1, 0, none⟩ x).setCell ⟨gR + 1, 1, none⟩ y).setCell ⟨gR + 1, 2, none⟩ z) (gR + 1)) :=
        fun wx x y z h => ⟨h.1.store h.2 (by omega) (by omega) (by omega) x y z, h.2.set3 x y z⟩
      have HSS := Lib.hid hSS
      have HCALL := Lib.hid hcall
      have HST := Lib.hid hstore
      have HB3 := Lib.hid (show RO w gL gR p l r q F (rat R q.den) w3 ∧ Res3 44 w3 (gR + 1) from ⟨HRO3.out, HH3.out.1.res⟩)
      clear hint hSS hcall hstore hx3 s1 s2 s3
      go_wp2
      go_region_held3 (fun wx => (RO w gL gR p l r q F (rat R q.den) wx ∧ Res3 44 wx (gR + 1)) ∧ wx.cell? ⟨gL, 0, none⟩ = some (.bool l.s) ∧ wx.cell? ⟨gL, 1, none⟩ = some (.slice l.A l.n l.c) ∧ wx.cell? ⟨gL, 2, none⟩ = some (.slice l.B l.m l.d))
        (first | assumption | exact HSS.out _ (HCALL.out _ _ (And.left (by assumption)) (by assumption)) | exact HSS.out _ (HCALL.out _ _ HB3.out (ext_drew _)) | exact HSS.out _ (HST.out _ _ _ _ (And.left (by assumption))))
        (first
          | (go_at_call 80; refine (HI.out _).mono ?_; rintro e w4 ⟨v4, rfl, hq4, hx4⟩; obtain ⟨o, rfl, ho⟩ := q_formV hq4; clear hq4; have hb4 := HCALL.out _ _ (And.left (by assumption)) hx4)
          | (go_at_call 40; refine (HP.out _ _ _ hb4.1.2.2.2.1.2 ho).mono ?_; rintro e w5 ⟨v5, rfl, hq5, hx5⟩; obtain ⟨h, rfl, hh⟩ := q_formV hq5; clear hq5; have hb5 := HCALL.out _ _ hb4 hx5; obtain ⟨r0, r1, r2, hc, hf, hz⟩ := hb5.2.facts))
      all_goals
        go_wp2
        go_meet
        exact ⟨h, (HST.out _ _ _ _ hb5).1, by rw [HHV.out, if_pos hpos]; exact hb5.2.setQ hh⟩
    · have hHF : H = F := by rw [HHV.out, if_neg hpos]
      have HHF := Lib.hid hHF
      clear hHF
      obtain rfl : R = 0 := by have := HN.out.2; omega
      go_wp2
      go_meet
      exact ⟨l, HRO3.out, by rw [HHF.out]; exact HH3.out⟩
  case rest =>
    obtain ⟨h, hro, hqh⟩ := hcut
    have HRO4 := Lib.hid hro
    have HH4 := Lib.hid hqh
    have HB4 := Lib.hid (show RO w gL gR p l r q F (rat R q.den) wc ∧ QB wc (gR + 1) h (H : Rat) from ⟨hro, hqh⟩)
    clear hro hqh HRO3 HH3 HRO HH s1 s2 s3 hx3
    have hSS : ∀ wx, (RO w gL gR p l r q F (rat R q.den) wx ∧ QB wx (gR + 1) h (H : Rat)) → ((RO w gL gR p l r q F (rat R q.den) wx ∧ QB wx (gR + 1) h (H : Rat)) ∧ wx.cell? ⟨gR, 0, none⟩ = some (.bool r.s) ∧ wx.cell? ⟨gR, 1, none⟩ = some (.slice r.A r.n r.c) ∧ wx.cell? ⟨gR, 2, none⟩ = some (.slice r.B r.m r.d)) :=
        fun wx h => ⟨h, h.1.2.2.2.2.1.cells⟩
    have hcall : ∀ wx wy, (RO w gL gR p l r q F (rat R q.den) wx ∧ QB wx (gR + 1) h (H : Rat)) → Below wx.heap.size wx wy → (RO w gL gR p l r q F (rat R q.den) wy ∧ QB wy (gR + 1) h (H : Rat)) := fun wx wy h hb => ⟨h.1.call hb, h.2.ext hb⟩
    have hover := fun va vb W (x : QAt W va ((1 : Int) : Rat)) (y : QAt W vb ((2 : Int) : Rat)) => over_any va vb _ _ W x y (qok_int (n := 1) (by decide) (by decide)) (qok_int (n := 2) (by decide) (by decide)) (by decide)
    have HSS := Lib.hid hSS
    have HCALL := Lib.hid hcall
    have HOV := Lib.hid hover
    have HI1 := Lib.hid (fun W => int_any 1 W (by decide) (by decide))
    have HI2 := Lib.hid (fun W => int_any 2 W (by decide) (by decide))
    clear hSS hcall hover
    go_upto_region 6 with (fail)
    go_cut [8] (fun z wx => z = .int .i64 (2 * R - q.den).sign ∧ RO w gL gR p l r q F (rat R q.den) wx ∧ QB wx (gR + 1) h (H : Rat))
    case first =>
      go_region_held3 (fun wx => (RO w gL gR p l r q F (rat R q.den) wx ∧ QB wx (gR + 1) h (H : Rat)) ∧ wx.cell? ⟨gR, 0, none⟩ = some (.bool r.s) ∧ wx.cell? ⟨gR, 1, none⟩ = some (.slice r.A r.n r.c) ∧ wx.cell? ⟨gR, 2, none⟩ = some (.slice r.B r.m r.d))
        (first | assumption | exact HSS.out _ (HCALL.out _ _ (And.left (by assumption)) (by assumption)) | exact HSS.out _ (HCALL.out _ _ HB4.out (ext_drew _)))
        (first
          | (go_at_call_of 80 (Value.int .i64 1); refine (HI1.out _).mono ?_; rintro e w4 ⟨v4, rfl, hq4, hx4⟩; obtain ⟨o, rfl, ho⟩ := q_formV hq4; clear hq4; have hb4 := HCALL.out _ _ (And.left (by assumption)) hx4)
          | (go_at_call_of 80 (Value.int .i64 2); refine (HI2.out _).mono ?_; rintro e w5 ⟨v5, rfl, hq5, hx5⟩; obtain ⟨t, rfl, ht⟩ := q_formV hq5; clear hq5; have hb5 := HCALL.out _ _ hb4 hx5)
          | (go_at_call 38; refine (HOV.out _ _ _ (ho.ext hx5) ht).mono ?_; rintro e w6 ⟨v6, rfl, hq6, hx6⟩; obtain ⟨u, rfl, hu⟩ := q_formV hq6; clear hq6; have hb6 := HCALL.out _ _ hb5 hx6)
          | (go_at_call 39; refine (HO.out _ _ _ hb6.1.2.2.2.2.2 hu).mono ?_; rintro e w7 ⟨rfl, hx7⟩; have hb7 := HCALL.out _ _ hb6 hx7))
      all_goals
        go_wp2
        go_meet
        exact ⟨rfl, hb7.1, hb7.2⟩
    case rest =>
      obtain ⟨rfl, hro5, hh5⟩ := hcut
      rename World => wz
      have HRO5 := Lib.hid hro5
      have HH5 := Lib.hid hh5
      have hfin : ∀ (x : QV) (X : Int) (wx : World), RO w gL gR p l r q F (rat R q.den) wx → QP wx x (X : Rat) → rndQ q m = X →
          RetQ w ((rndQ q m : Int) : Rat) (.returned (.agg #[.bool x.s, .slice x.A x.n x.c, .slice x.B x.m x.d])) (((wx.setCell ⟨w.heap.size + 1, 0, none⟩ (.bool x.s)).setCell ⟨w.heap.size + 1, 1, none⟩ (.slice x.A x.n x.c)).setCell ⟨w.heap.size + 1, 2, none⟩ (.slice x.B x.m x.d)) :=
        fun x X wx h hq he => ⟨_, rfl, by rw [he]; exact hq.off3 h.2.2.1.typ (by decide) _ _ _, below3 h.1 (by omega) _ _ _⟩
      obtain ⟨a1, a2, a3⟩ := hro5.2.2.1.facts
      obtain ⟨b1, b2, b3⟩ := hro5.2.2.2.1.1.facts
      obtain ⟨c1, c2, c3⟩ := hh5.1.facts
      obtain ⟨d1, d2, d3⟩ := hro5.2.1.1.facts
      have FIN := Lib.hid hfin
      have HDN := Lib.hid (show 1 ≤ (q.den : Int) from den_one q)
      clear hfin HB4 HCALL HSS HRO4 HH4 HI1 HOV hro5 hh5
      by_cases e0 : m = 0
      · subst e0
        go_wp2
        refine bodyPost_ret (v := .agg #[.bool l.s, .slice l.A l.n l.c, .slice l.B l.m l.d]) (by simp [results, Try.results92, go_sem, a1]) rfl ?_
        exact FIN.out l F _ HRO5.out HRO5.out.2.2.2.1.2 (by rw [HRES.out]; exact rnd_no up0)
      by_cases e1 : m = 1
      · subst e1
        go_wp2
        refine bodyPost_ret (v := .agg #[.bool h.s, .slice h.A h.n h.c, .slice h.B h.m h.d]) (by simp [results, Try.results92, go_sem, a1]) rfl ?_
        exact FIN.out h H _ HRO5.out HH5.out.2 (by rw [HRES.out]; exact rnd_high HHV.out up1)
      by_cases e2 : m = 2
      · subst e2
        by_cases hn : q.num < 0
        · have hsg := Int.sign_eq_neg_one_of_neg hn
          have hs' := HSQ.out
          rw [hsg] at hs'
          have HS2 := Lib.hid hs'
          have HN2 := Lib.hid hn
          clear hsg hs' hn
          go_wp2_with (go_at_call 35; refine (HS2.out _ _ HRO5.out.2.1.2).mono ?_; rintro e w8 ⟨rfl, hx8⟩; have HRO8 := Lib.hid (HRO5.out.call hx8); have HH8 := Lib.hid (HH5.out.ext hx8); obtain ⟨a1, a2, a3⟩ := HRO8.out.2.2.1.facts; obtain ⟨c1, c2, c3⟩ := HH8.out.1.facts)
          refine bodyPost_ret (v := .agg #[.bool h.s, .slice h.A h.n h.c, .slice h.B h.m h.d]) (by simp [results, Try.results92, go_sem, a1]) rfl ?_
          exact FIN.out h H _ HRO8.out HH8.out.2 (by rw [HRES.out]; exact rnd_high HHV.out (up2n (by have := HN2.out; omega)))
        · have hsg : q.num.sign = 0 ∨ q.num.sign = 1 := by
            rcases Int.lt_trichotomy q.num 0 with h | h | h
            · exact absurd h hn
            · rw [h]; exact .inl rfl
            · exact .inr (Int.sign_eq_one_of_pos h)
          have HN2 := Lib.hid hn
          clear hn
          rcases hsg with hsg | hsg
          all_goals
            have hs' := HSQ.out
            rw [hsg] at hs'
            have HS2 := Lib.hid hs'
            clear hsg hs'
            go_wp2_with (go_at_call 35; refine (HS2.out _ _ HRO5.out.2.1.2).mono ?_; rintro e w8 ⟨rfl, hx8⟩; have HRO8 := Lib.hid (HRO5.out.call hx8); have HH8 := Lib.hid (HH5.out.ext hx8); obtain ⟨a1, a2, a3⟩ := HRO8.out.2.2.1.facts; obtain ⟨b1, b2, b3⟩ := HRO8.out.2.2.2.1.1.facts)
            refine bodyPost_ret (v := .agg #[.bool l.s, .slice l.A l.n l.c, .slice l.B l.m l.d]) (by simp [results, Try.results92, go_sem, a1]) rfl ?_
            exact FIN.out l F _ HRO8.out HRO8.out.2.2.2.1.2 (by rw [HRES.out]; exact rnd_no (up2p (by have := HN2.out; omega)))
      by_cases e3 : m = 3
      · subst e3
        rcases Int.lt_trichotomy (2 * R - q.den) 0 with hh | hh | hh
        · rw [Int.sign_eq_neg_one_of_neg hh]
          go_wp2
          refine bodyPost_ret (v := .agg #[.bool l.s, .slice l.A l.n l.c, .slice l.B l.m l.d]) (by simp [results, Try.results92, go_sem, a1]) rfl ?_
          exact FIN.out l F _ HRO5.out HRO5.out.2.2.2.1.2 (by rw [HRES.out]; exact rnd_no (up3n hh))
        · rw [hh, Int.sign_zero]
          have HE := Lib.hid hh
          clear hh
          go_wp2
          refine bodyPost_ret (v := .agg #[.bool h.s, .slice h.A h.n h.c, .slice h.B h.m h.d]) (by simp [results, Try.results92, go_sem, a1]) rfl ?_
          exact FIN.out h H _ HRO5.out HH5.out.2 (by rw [HRES.out]; exact rnd_high HHV.out (up3p (by rw [HE.out]; decide) HDN.out))
        · rw [Int.sign_eq_one_of_pos hh]
          go_wp2
          refine bodyPost_ret (v := .agg #[.bool h.s, .slice h.A h.n h.c, .slice h.B h.m h.d]) (by simp [results, Try.results92, go_sem, a1]) rfl ?_
          exact FIN.out h H _ HRO5.out HH5.out.2 (by rw [HRES.out]; exact rnd_high HHV.out (up3p (by omega) HDN.out))
      obtain rfl : m = 4 := by omega
      clear e0 e1 e2 e3 a1 a2 a3 b1 b2 b3 c1 c2 c3 d1 d2 d3
      have hover := fun va vb W (x : QAt W va (F : Rat)) (y : QAt W vb ((2 : Int) : Rat)) => over_any va vb _ _ W x y (qok_int (n := F) (by have := HFB.out; omega) (by have := HFB.out; omega)) (qok_int (n := 2) (by decide) (by decide)) (by decide)
      have hF2 : -1000000000000000000 ≤ F / 2 ∧ F / 2 ≤ 1000000000000000000 := by have := HFB.out; omega
      have hdn := fun vx W (x : QAt W vx ((F : Rat) / ((2 : Int) : Rat))) => down_q vx _ W x (qok_rat (n := F) (d := 2) (by have := HFB.out; omega) (by decide) (by decide))
      rw [half_floor] at hdn
      have htm := fun va vb W (x : QAt W va ((F / 2 : Int) : Rat)) (y : QAt W vb ((2 : Int) : Rat)) => times_q va vb _ _ W x y (qok_int (n := F / 2) (by omega) (by omega)) (qok_int (n := 2) (by decide) (by decide))
      rw [← Rat.intCast_mul] at htm
      have hls := fun va vb W (x : QAt W va ((F / 2 * 2 : Int) : Rat)) (y : QAt W vb (F : Rat)) => less_q va vb _ _ W x y (qok_int (n := F / 2 * 2) (by have := HFB.out; omega) (by have := HFB.out; omega)) (qok_int (n := F) (by have := HFB.out; omega) (by have := HFB.out; omega))
      rw [← Rat.intCast_sub] at hls
      have hsg := fun vx W (h : QAt W vx ((F / 2 * 2 - F : Int) : Rat)) => sign_any vx _ W h
      rw [Rat.num_intCast] at hsg
      obtain ⟨y, hy⟩ : ∃ y, y = F / 2 * 2 - F := ⟨_, rfl⟩
      rw [← hy] at hls hsg
      have HYD := Lib.hid hy
      generalize hF3 : F / 2 * 2 = F3 at hls htm
      generalize hF22 : F / 2 = F2 at htm hdn
      clear hF3 hF22
      have hSS : ∀ wx, (RO w gL gR p l r q F (rat R q.den) wx ∧ QB wx (gR + 1) h (H : Rat)) → ((RO w gL gR p l r q F (rat R q.den) wx ∧ QB wx (gR + 1) h (H : Rat)) ∧ wx.cell? ⟨gL, 0, none⟩ = some (.bool l.s) ∧ wx.cell? ⟨gL, 1, none⟩ = some (.slice l.A l.n l.c) ∧ wx.cell? ⟨gL, 2, none⟩ = some (.slice l.B l.m l.d)) :=
          fun wx h => ⟨h, h.1.2.2.2.1.1.cells⟩
      have hcall : ∀ wx wy, (RO w gL gR p l r q F (rat R q.den) wx ∧ QB wx (gR + 1) h (H : Rat)) → Below wx.heap.size wx wy → (RO w gL gR p l r q F (rat R q.den) wy ∧ QB wy (gR + 1) h (H : Rat)) := fun wx wy h hb => ⟨h.1.call hb, h.2.ext hb⟩
      have HSS := Lib.hid hSS
      have HCALL := Lib.hid hcall
      have HOV := Lib.hid hover
      have HDW := Lib.hid hdn
      have HTM := Lib.hid htm
      have HLS := Lib.hid hls
      have HSG := Lib.hid hsg
      have HI2 := Lib.hid (fun W => int_any 2 W (by decide) (by decide))
      have HB5 := Lib.hid (show RO w gL gR p l r q F (rat R q.den) wz ∧ QB wz (gR + 1) h (H : Rat) from ⟨HRO5.out, HH5.out⟩)
      clear hSS hcall hover hdn htm hls hsg hy hF2 HRO5 HH5
      go_upto_region 20 with (fail)
      go_cut [9] (fun z wx => z = .bool (y.sign == 0) ∧ RO w gL gR p l r q F (rat R q.den) wx ∧ QB wx (gR + 1) h (H : Rat))
      case first =>
        go_region_held3 (fun wx => (RO w gL gR p l r q F (rat R q.den) wx ∧ QB wx (gR + 1) h (H : Rat)) ∧ wx.cell? ⟨gL, 0, none⟩ = some (.bool l.s) ∧ wx.cell? ⟨gL, 1, none⟩ = some (.slice l.A l.n l.c) ∧ wx.cell? ⟨gL, 2, none⟩ = some (.slice l.B l.m l.d))
          (first | assumption | exact HSS.out _ (HCALL.out _ _ (And.left (by assumption)) (by assumption)) | exact HSS.out _ (HCALL.out _ _ HB5.out (ext_drew _)))
          (first
            | (go_at_call 80; refine (HI2.out _).mono ?_; rintro e w4 ⟨v4, rfl, hq4, hx4⟩; obtain ⟨o, rfl, ho⟩ := q_formV hq4; clear hq4; have hb4 := HCALL.out _ _ (And.left (by assumption)) hx4)
            | (go_at_call 38; refine (HOV.out _ _ _ hb4.1.2.2.2.1.2 ho).mono ?_; rintro e w5 ⟨v5, rfl, hq5, hx5⟩; obtain ⟨t, rfl, ht⟩ := q_formV hq5; clear hq5)
            | (go_at_call 97; refine (HDW.out _ _ ht).mono ?_; rintro e w6 ⟨v6, rfl, hq6, hx6⟩; obtain ⟨u, rfl, hu⟩ := q_formV hq6; clear hq6)
            | (go_at_call 93; refine (HTM.out _ _ _ (hu.ext hx4) ho).mono ?_; rintro e w7 ⟨v7, rfl, hq7, hx7⟩; obtain ⟨t7, rfl, ht7⟩ := q_formV hq7; clear hq7; have hb7 := HCALL.out _ _ (And.left (by assumption)) hx7)
            | (go_at_call 33; refine (HLS.out _ _ _ ht7 hb7.1.2.2.2.1.2).mono ?_; rintro e w8 ⟨v8, rfl, hq8, hx8⟩; obtain ⟨t8, rfl, ht8⟩ := q_formV hq8; clear hq8)
            | (go_at_call 35; refine (HSG.out _ _ ht8).mono ?_; rintro e w9 ⟨rfl, hx9⟩; have hb9 := HCALL.out _ _ (And.left (by assumption)) hx9))
        all_goals
          go_wp2
          go_meet
          exact ⟨rfl, hb9.1, hb9.2⟩
      case rest =>
        obtain ⟨rfl, hro6, hh6⟩ := hcut
        have HRO6 := Lib.hid hro6
        have HH6 := Lib.hid hh6
        obtain ⟨a1, a2, a3⟩ := hro6.2.2.1.facts
        obtain ⟨b1, b2, b3⟩ := hro6.2.2.2.1.1.facts
        obtain ⟨c1, c2, c3⟩ := hh6.1.facts
        clear hro6 hh6 HSS HCALL HB5 HOV HDW HTM HLS HSG
        have HYE := Lib.hid (show y = 0 ↔ F / 2 * 2 - F = 0 from by rw [HYD.out])
        rcases Int.lt_trichotomy (2 * R - q.den) 0 with hh | hh | hh
        · rw [Int.sign_eq_neg_one_of_neg hh]
          have HE := Lib.hid hh
          clear hh
          go_wp2
          refine bodyPost_ret (v := .agg #[.bool l.s, .slice l.A l.n l.c, .slice l.B l.m l.d]) (by simp [results, Try.results92, go_sem, a1]) rfl ?_
          exact FIN.out l F _ HRO6.out HRO6.out.2.2.2.1.2 (by rw [HRES.out]; exact rnd_no (up4n (by have := HE.out; omega)))
        · rw [hh, Int.sign_zero]
          have HE := Lib.hid hh
          clear hh
          by_cases hy0 : y = 0
          · have he := HYE.out.1 hy0
            rw [hy0, Int.sign_zero]
            have HE2 := Lib.hid he
            clear hy0 he
            go_wp2
            refine bodyPost_ret (v := .agg #[.bool l.s, .slice l.A l.n l.c, .slice l.B l.m l.d]) (by simp [results, Try.results92, go_sem, a1]) rfl ?_
            exact FIN.out l F _ HRO6.out HRO6.out.2.2.2.1.2 (by rw [HRES.out]; exact rnd_no (up4e (by have := HE.out; omega) HE2.out))
          · have he := fun h => hy0 (HYE.out.2 h)
            have hs : (y.sign == 0) = false := by simp; exact hy0
            rw [hs]
            have HE2 := Lib.hid he
            clear hy0 he hs
            go_wp2
            refine bodyPost_ret (v := .agg #[.bool h.s, .slice h.A h.n h.c, .slice h.B h.m h.d]) (by simp [results, Try.results92, go_sem, a1]) rfl ?_
            exact FIN.out h H _ HRO6.out HH6.out.2 (by rw [HRES.out]; exact rnd_high HHV.out (up4o (by have := HE.out; omega) HDN.out HE2.out))
        · rw [Int.sign_eq_one_of_pos hh]
          have HE := Lib.hid hh
          clear hh
          go_wp2
          refine bodyPost_ret (v := .agg #[.bool h.s, .slice h.A h.n h.c, .slice h.B h.m h.d]) (by simp [results, Try.results92, go_sem, a1]) rfl ?_
          exact FIN.out h H _ HRO6.out HH6.out.2 (by rw [HRES.out]; exact rnd_high HHV.out (up4p (by have := HE.out; omega) HDN.out))
end Go.Proofs.Ythkoblnfeebafaa
