/- FracClose walked. No conditions but that the parts are within int. -/
import Derived.Test.YthkoblnfeebafaaGj
import Derived.Outline
import Derived.Deep.DeepCutAuto
namespace Go.Proofs.Ythkoblnfeebafaa
open Go.RowKit

/-- what FracClose knows of its own blocks: the arguments, RoundTo's result -/
def RC0 (w : World) (gg : Nat) (gn gd fn fd un ud : Int) (wx : World) : Prop :=
  Below w.heap.size w wx ∧ Ce 23 wx w.heap.size (.int .i64 fn) (.int .i64 fd) ∧ Ce 23 wx (w.heap.size + 1) (.int .i64 un) (.int .i64 ud) ∧ Ce 23 wx gg (.int .i64 gn) (.int .i64 gd)
theorem RC0.call {w : World} {gg : Nat} {gn gd fn fd un ud : Int} {wx wy : World} (h : RC0 w gg gn gd fn fd un ud wx) (hb : Below wx.heap.size wx wy) : RC0 w gg gn gd fn fd un ud wy := by
  obtain ⟨h1, h2, h3, h4⟩ := h
  exact ⟨bext h1 hb (Nat.le_of_lt h2.facts.2.2), h2.ext hb, h3.ext hb, h4.ext hb⟩
theorem RC0.cells {w : World} {gg : Nat} {gn gd fn fd un ud : Int} {wx : World} (h : RC0 w gg gn gd fn fd un ud wx) :
    (wx.cell? ⟨w.heap.size, 0, none⟩ = some (.int .i64 fn) ∧ wx.cell? ⟨w.heap.size, 1, none⟩ = some (.int .i64 fd)) ∧ (wx.cell? ⟨w.heap.size + 1, 0, none⟩ = some (.int .i64 un) ∧ wx.cell? ⟨w.heap.size + 1, 1, none⟩ = some (.int .i64 ud)) ∧
      (wx.cell? ⟨gg, 0, none⟩ = some (.int .i64 gn) ∧ wx.cell? ⟨gg, 1, none⟩ = some (.int .i64 gd)) := by
  obtain ⟨h1, h2, h3, h4⟩ := h
  exact ⟨⟨h2.facts.1 0, h2.facts.1 1⟩, ⟨h3.facts.1 0, h3.facts.1 1⟩, h4.facts.1 0, h4.facts.1 1⟩
theorem RC0.store {w : World} {gg k : Nat} {gn gd fn fd un ud : Int} {wx : World} (h : RC0 w gg gn gd fn fd un ud wx) (h1 : w.heap.size + 1 < k) (h2 : gg < k) (x y z : Value) :
    RC0 w gg gn gd fn fd un ud (((wx.setCell ⟨k, 0, none⟩ x).setCell ⟨k, 1, none⟩ y).setCell ⟨k, 2, none⟩ z) := by
  obtain ⟨a1, a2, a3, a4⟩ := h
  exact ⟨below3 a1 (by omega) _ _ _, a2.set3_ne (by omega) _ _ _, a3.set3_ne (by omega) _ _ _, a4.set3_ne (by omega) _ _ _⟩

set_option maxRecDepth 100000 in
set_option maxHeartbeats 20000000 in
theorem law_close (fn fd un ud m : Int) (w : World) (ha1 : IsI fn) (ha2 : IsI fd) (hb1 : IsI un) (hb2 : IsI ud) (_hm : IsI m) :
    Calls Try.prog 8 #[frv fn fd, frv un ud, .int .i64 m] w fun e w' => e = .returned (.bool true) ∧ Below w.heap.size w w' := by
  have h3 := fun W => roundto_any fn fd un ud m W ha1 ha2 hb1 hb2
  obtain ⟨⟨gn, gd, ge⟩, hA⟩ : ∃ a, rtoA fn fd un ud m = a := ⟨_, rfl⟩
  rw [hA] at h3
  have hx0 : ∀ x y, Below w.heap.size w ((w.alloc x).alloc y) := fun x y => ((Below.refl _ _).alloc (Nat.le_refl _) _).alloc (by simp) _
  have HX0 := Lib.hid hx0
  have sz0 : ∀ x y : Obj, ((w.alloc x).alloc y).heap.size = w.heap.size + 2 := by intro x y; simp
  have SZ0 := Lib.hid sz0
  by_cases hge : ge ≠ 0
  · have hg0 : (ge == 0) = false := by simpa using hge
    have hg1 : (ge != 0) = true := by simpa using hge
    unfold RetA frv at *
    have H3 := Lib.hid h3
    clear h3 hA hge hx0 sz0 ha1 ha2 hb1 hb2
    go_enter Try.func8, Try.ntmps8
    go_wp2_with (first
      | (go_at_call 32; refine (H3.out _).mono ?_; rintro e w1 ⟨rfl, hx1⟩; have B1 := bext (HX0.out _ _) hx1 (by rw [SZ0.out]; omega); have hz := hx1.size; rw [SZ0.out] at hz)
      | (go_at_call 22; refine (awake_any _).mono ?_; rintro e w3 ⟨rfl, hx3⟩; have B3 := bext (B1.alloc (by omega) _) hx3 (by simp; omega)))
    go_ret
    exact ⟨rfl, B3⟩
  · obtain rfl : ge = 0 := by omega
    obtain ⟨hvf, hvu, hu0, hmm, hvg, k, s, d, hd, hs1, hs2, hs3, hoff, hwhole, hkb⟩ := rto_means hA
    have v1 := fun W => rvalid_any fn fd W ha1 ha2
    rw [vldB_yes hvf] at v1
    have v2 := fun W => rvalid_any un ud W hb1 hb2
    rw [vldB_yes hvu] at v2
    obtain ⟨f1, f2, f3, f4, _⟩ := hvf
    obtain ⟨u1, u2, u3, u4, _⟩ := hvu
    have v3 := fun W => rvalid_any gn gd W (by obtain ⟨x1, x2, x3, x4, _⟩ := hvg; exact ⟨by omega, by omega⟩) (by obtain ⟨x1, x2, x3, x4, _⟩ := hvg; exact ⟨by omega, by omega⟩)
    rw [vldB_yes hvg] at v3
    obtain ⟨g1, g2, g3, g4, _⟩ := hvg
    have o1 : ∀ W, Calls Try.prog 34 #[.agg #[.int .i64 gn, .int .i64 gd]] W (RetQ W (rat gn gd)) := fun W => of_any gn gd W (by omega) (by omega) (by omega) (by omega) (by omega)
    have o2 : ∀ W, Calls Try.prog 34 #[.agg #[.int .i64 fn, .int .i64 fd]] W (RetQ W (rat fn fd)) := fun W => of_any fn fd W (by omega) (by omega) (by omega) (by omega) (by omega)
    have o3 : ∀ W, Calls Try.prog 34 #[.agg #[.int .i64 un, .int .i64 ud]] W (RetQ W (rat un ud)) := fun W => of_any un ud W (by omega) (by omega) (by omega) (by omega) (by omega)
    have z1 := qok_rat (n := gn) (d := gd) (by omega) g1 (by omega)
    have z2 := qok_rat (n := fn) (d := fd) (by omega) f1 (by omega)
    have z3 := qok_rat (n := un) (d := ud) (by omega) u1 (by omega)
    obtain ⟨m1, m2⟩ := mul_bd g3 g4 f1 f2
    obtain ⟨m3, m4⟩ := mul_bd f3 f4 g1 g2
    obtain ⟨m5, m6⟩ := mul_pos_bd g1 g2 f1 f2
    have zo : QOk (rat (s * un) (d * ud)) := by
      rw [← hoff, sub_eq2 g1 f1]
      exact qok_rat (by omega) m5 (by omega)
    have zo2 : QOk (rat (s * un) (d * ud) + rat (s * un) (d * ud)) := by
      rw [← hoff, sub_eq2 g1 f1]
      unfold rat
      have e1 : ((gn * fd - fn * gd : Int) : Rat) / ((gd * fd : Int) : Rat) + ((gn * fd - fn * gd : Int) : Rat) / ((gd * fd : Int) : Rat) = rat (2 * (gn * fd - fn * gd)) (gd * fd) := by
        unfold rat
        rw [Rat.intCast_mul 2]
        have e4 : ((2 : Int) : Rat) = 2 := rfl
        rw [e4]
        grind
      rw [e1]
      exact qok_rat (by omega) m5 (by omega)
    have hdu : 1 ≤ d * ud := by
      have := Int.mul_le_mul hd u1 (by omega) (by omega)
      omega
    have hls := fun va vb W (x : QAt W va (rat gn gd)) (y : QAt W vb (rat fn fd)) => less_q va vb _ _ W x y z1 z2
    rw [hoff] at hls
    have hsg := fun v W (x : QAt W v (rat (s * un) (d * ud))) => sign_any v _ W x
    rw [sign_rat hdu, Int.sign_mul, Int.sign_eq_one_of_pos hu0, Int.mul_one] at hsg
    have hmi := fun v W (x : QAt W v (rat (s * un) (d * ud))) => minus_any v _ W x
    have hov := fun va vb W (x : QAt W va (rat gn gd)) (y : QAt W vb (rat un ud)) => over_any va vb _ _ W x y z1 z3 (rat_ne (by omega) u1)
    rw [hwhole] at hov
    have hwh := fun v W (x : QAt W v (k : Rat)) => whole_yes v _ W x (by rw [Rat.den_intCast]) (by rw [Rat.num_intCast]; exact hkb)
    rw [Rat.num_intCast] at hwh
    -- the absolute value
    obtain ⟨t, ht⟩ : ∃ t : Int, t = if s < 0 then -s else s := ⟨_, rfl⟩
    have hq' : (if s < 0 then -rat (s * un) (d * ud) else rat (s * un) (d * ud)) = rat (t * un) (d * ud) := by
      rw [ht]
      split
      · rw [neg_eq, Int.neg_mul]
      · rfl
    have zt : QOk (rat (t * un) (d * ud)) := by
      rw [← hq']
      split
      · exact zo.neg
      · exact zo
    have zt2 : QOk (rat (t * un) (d * ud) + rat (t * un) (d * ud)) := by
      rw [← hq']
      split
      · have : -rat (s * un) (d * ud) + -rat (s * un) (d * ud) = -(rat (s * un) (d * ud) + rat (s * un) (d * ud)) := by grind
        rw [this]; exact zo2.neg
      · exact zo2
    have ht0 : 0 ≤ t ∧ t < d := by rw [ht]; split <;> omega
    have ht3 : 3 ≤ m → 2 * t ≤ d := fun h => by have := hs3 h; rw [ht]; split <;> omega
    have hpl := fun va vb W (x : QAt W va (rat (t * un) (d * ud))) (y : QAt W vb (rat (t * un) (d * ud))) => plus_q va vb _ _ W x y zt zt
    have hor2 := fun va vb W (x : QAt W va (rat (t * un) (d * ud) + rat (t * un) (d * ud))) (y : QAt W vb (rat un ud)) => order_q va vb _ _ W x y zt2 z3
    rw [dbl_eq, min_eq u1 hd, sign_rat hdu, Int.sign_mul, Int.sign_eq_one_of_pos hu0, Int.mul_one] at hor2
    rw [dbl_eq] at hpl
    have hor := fun va vb W (x : QAt W va (rat (t * un) (d * ud))) (y : QAt W vb (rat un ud)) => order_q va vb _ _ W x y zt z3
    rw [min_eq u1 hd, sign_rat hdu, Int.sign_mul, Int.sign_eq_one_of_pos hu0, Int.mul_one, Int.sign_eq_neg_one_of_neg (show t - d < 0 by omega)] at hor
    have hhalf : 3 ≤ m → (2 * t - d).sign ≤ 0 := fun h => by
      have h1 := ht3 h
      rcases Int.lt_trichotomy (2 * t - d) 0 with h2 | h2 | h2
      · rw [Int.sign_eq_neg_one_of_neg h2]; decide
      · rw [h2]; decide
      · omega
    have hhb : -1 ≤ (2 * t - d).sign ∧ (2 * t - d).sign ≤ 1 := by
      rcases Int.lt_trichotomy (2 * t - d) 0 with h2 | h2 | h2
      · rw [Int.sign_eq_neg_one_of_neg h2]; decide
      · rw [h2]; decide
      · rw [Int.sign_eq_one_of_pos h2]; decide
    generalize (2 * t - d).sign = hf at *
    have HQ' := Lib.hid hq'
    clear hA
    generalize rat (2 * t * un) (d * ud) = QD at *
    generalize rat (t * un) (d * ud) = QT at *
    generalize rat (s * un) (d * ud) = QS at *
    generalize rat gn gd = QG at *
    generalize rat fn fd = QF at *
    generalize rat un ud = QU at *
    unfold RetA frv at *
    have H3 := Lib.hid h3
    have V1 := Lib.hid v1
    have V2 := Lib.hid v2
    have V3 := Lib.hid v3
    have O1 := Lib.hid o1
    have O2 := Lib.hid o2
    have O3 := Lib.hid o3
    have HLS := Lib.hid hls
    have HSG := Lib.hid hsg
    have HMI := Lib.hid hmi
    have HOV := Lib.hid hov
    have HWH := Lib.hid hwh
    have HPL := Lib.hid hpl
    have HOR2 := Lib.hid hor2
    have HOR := Lib.hid hor
    have HHF := Lib.hid hhalf
    clear h3 v1 v2 v3 o1 o2 o3 hls hsg hmi hov hwh hpl hor2 hor hhalf hq' hoff hwhole ht ht3 zt zt2 zo zo2 z1 z2 z3 hge hx0 sz0 ha1 ha2 hb1 hb2 hs3 hkb m1 m2 m3 m4 m5 m6 hdu f1 f2 f3 f4 u1 u2 u3 u4 g1 g2 g3 g4 ht0 hs1 hs2 hd hu0
    go_enter Try.func8, Try.ntmps8
    go_upto_region 6 with (first
      | (go_at_call 32; refine (H3.out _).mono ?_; rintro e w1 ⟨rfl, hx1⟩; have B1 := bext (HX0.out _ _) hx1 (by rw [SZ0.out]; omega); have A1 := ((Ce.new w _ _).alloc _).ext hx1; have C1 := (Ce.new (w.alloc _) _ _).ext hx1; obtain ⟨a1, a2, a3⟩ := A1.facts; obtain ⟨c1, c2, c3⟩ := C1.facts; simp only [World.size_alloc] at C1 c1 c2 c3)
      | (go_at_call_of 21 (Value.int .i64 fn); refine (V1.out _).mono ?_; rintro e w2 ⟨rfl, hx2⟩; have R2 : RC0 w w1.heap.size gn gd fn fd un ud w2 := RC0.call ⟨B1.alloc (by omega) _, A1.alloc _, C1.alloc _, Ce.new w1 _ _⟩ hx2; obtain ⟨⟨a1, a2⟩, ⟨c1, c2⟩, d1, d2⟩ := R2.cells)
      | (go_at_call_of 21 (Value.int .i64 un); refine (V2.out _).mono ?_; rintro e w3 ⟨rfl, hx3⟩; have R3 := R2.call hx3; obtain ⟨⟨a1, a2⟩, ⟨c1, c2⟩, d1, d2⟩ := R3.cells)
      | (go_at_call_of 21 (Value.int .i64 gn); refine (V3.out _).mono ?_; rintro e w4 ⟨rfl, hx4⟩; have R4 := R3.call hx4; obtain ⟨⟨a1, a2⟩, ⟨c1, c2⟩, d1, d2⟩ := R4.cells))
    have g1 : w.heap.size + 1 < w1.heap.size := c3
    have HR4 := Lib.hid R4
    generalize w1.heap.size = gg at *
    clear hx1 hx2 hx3 hx4 B1 A1 C1 R2 R3 a1 a2 c1 c2 d1 d2 a3 c3 R4
    go_cut [9] (fun z wx => ∃ (go : Nat) (p : QV), z = .pointer (some ⟨go, 0, none⟩) ∧ w.heap.size + 1 < go ∧ gg < go ∧ RC0 w gg gn gd fn fd un ud wx ∧ QB wx go p QS)
    case first =>
      have hSS : ∀ wx, Below w4.heap.size w4 wx → (Below w4.heap.size w4 wx ∧ (wx.cell? ⟨w.heap.size, 0, none⟩ = some (.int .i64 fn) ∧ wx.cell? ⟨w.heap.size, 1, none⟩ = some (.int .i64 fd)) ∧ (wx.cell? ⟨gg, 0, none⟩ = some (.int .i64 gn) ∧ wx.cell? ⟨gg, 1, none⟩ = some (.int .i64 gd))) :=
        fun wx h => ⟨h, (HR4.out.call h).cells.1, (HR4.out.call h).cells.2.2⟩
      have HSS := Lib.hid hSS
      clear hSS
      go_region_held3 (fun wx => Below w4.heap.size w4 wx ∧ (wx.cell? ⟨w.heap.size, 0, none⟩ = some (.int .i64 fn) ∧ wx.cell? ⟨w.heap.size, 1, none⟩ = some (.int .i64 fd)) ∧ (wx.cell? ⟨gg, 0, none⟩ = some (.int .i64 gn) ∧ wx.cell? ⟨gg, 1, none⟩ = some (.int .i64 gd)))
        (first | assumption | exact HSS.out _ (ext_trans (And.left (by assumption)) (by assumption)) | exact HSS.out _ (ext_drew _) | exact HSS.out _ (((Below.refl _ _).alloc (Nat.le_refl _) _).drew) | exact HSS.out _ ((And.left (by assumption) : Below w4.heap.size w4 _).alloc (Below.size (And.left (by assumption) : Below w4.heap.size w4 _)) _) | exact HSS.out _ (Below.alloc (by assumption) (Below.size (by assumption)) _) | exact HSS.out _ (below3 (by assumption) (Below.size (by assumption)) _ _ _) | exact HSS.out _ (below3 (by assumption) (Nat.le_refl _) _ _ _) | exact HSS.out _ (below3 (And.left (by assumption)) (Below.size (And.left (by assumption) : Below w4.heap.size w4 _)) _ _ _))
        (first
          | (go_at_call_of 34 (Value.int .i64 gn); refine (O1.out _).mono ?_; rintro e w5 ⟨v5, rfl, hq5, hx5⟩; obtain ⟨p5, rfl, hp5⟩ := q_formV hq5; clear hq5; have hb5 := ext_trans (And.left (by assumption) : Below w4.heap.size w4 _) hx5; (first | (have NB := (C3.new (T := 44) _ (.bool false) (.slice none 0 0) (.slice none 0 0)).ext hx5; obtain ⟨n1, n2, n3⟩ := NB.facts) | (have NB := (C3.new (T := 44) _ (.bool false) (.slice none 0 0) (.slice none 0 0)).drew.ext hx5; obtain ⟨n1, n2, n3⟩ := NB.facts) | skip))
          | (go_at_call_of 34 (Value.int .i64 fn); refine (O2.out _).mono ?_; rintro e w6 ⟨v6, rfl, hq6, hx6⟩; obtain ⟨p6, rfl, hp6⟩ := q_formV hq6; clear hq6; have hb6 := (by first | exact ext_trans hb5 hx6 | exact ext_trans (ext_trans hb5 ((Below.refl _ _).alloc (Nat.le_refl _) _)) hx6 : Below w4.heap.size w4 w6); have hp5 := (by first | exact hp5.ext hx6 | exact (hp5.ext ((Below.refl _ _).alloc (Nat.le_refl _) _)).ext hx6 : QP w6 p5 QG); (first | (have NB := NB.ext hx6; obtain ⟨n1, n2, n3⟩ := NB.facts) | (have NB := (C3.new (T := 44) _ (.bool false) (.slice none 0 0) (.slice none 0 0)).ext hx6; obtain ⟨n1, n2, n3⟩ := NB.facts) | skip))
          | (go_at_call 33; refine (HLS.out _ _ _ ?_ ?_).mono ?_; (first | exact hp5 | exact hp5.ext ((Below.refl _ _).alloc (Nat.le_refl _) _)); (first | exact hp6 | exact hp6.ext ((Below.refl _ _).alloc (Nat.le_refl _) _)); rintro e w7 ⟨v7, rfl, hq7, hx7⟩; obtain ⟨p7, rfl, hp7⟩ := q_formV hq7; clear hq7; have hb7 := (by first | exact ext_trans hb6 hx7 | exact ext_trans (ext_trans hb6 ((Below.refl _ _).alloc (Nat.le_refl _) _)) hx7 : Below w4.heap.size w4 w7); (first | (have NB := NB.ext hx7; obtain ⟨n1, n2, n3⟩ := NB.facts) | (have NB := (C3.new (T := 44) _ (.bool false) (.slice none 0 0) (.slice none 0 0)).ext hx7; obtain ⟨n1, n2, n3⟩ := NB.facts) | skip)))
      all_goals
        have j1 : w.heap.size + 1 < w4.heap.size := HR4.out.2.2.1.facts.2.2
        have j2 : gg < w4.heap.size := HR4.out.2.2.2.facts.2.2
        have j3 := hb5.size
        have j4 := hb6.size
        have j5 := hb7.size
        go_wp2
        go_meet
        first
          | exact ⟨_, p7, rfl, by omega, by omega, (HR4.out.call hb7).store (by omega) (by omega) _ _ _, (C3.res NB).setQ hp7⟩
          | exact ⟨_, p7, rfl, by omega, by omega, HR4.out.call (ext_trans hb7 ((Below.refl _ _).alloc (Nat.le_refl _) _)), QB.new hp7⟩
    case rest =>
      obtain ⟨go, p, rfl, l1, l2, hrc, hqb⟩ := hcut
      have HRC := Lib.hid hrc
      have HQB := Lib.hid hqb
      obtain ⟨⟨a1, a2⟩, ⟨c1, c2⟩, d1, d2⟩ := hrc.cells
      obtain ⟨e1, e2, e3⟩ := hqb.1.facts
      clear hrc hqb HR4
      -- the absolute value of what it is off
      have hsc : s.sign = -1 ∨ s.sign = 0 ∨ s.sign = 1 := by
        rcases Int.lt_trichotomy s 0 with h | h | h
        · exact .inl (Int.sign_eq_neg_one_of_neg h)
        · exact .inr (.inl (by rw [h]; rfl))
        · exact .inr (.inr (Int.sign_eq_one_of_pos h))
      have hsn : s.sign = -1 → QT = -QS := fun h => by rw [← HQ'.out, if_pos (Int.sign_eq_neg_one_iff_neg.1 h)]
      have hsp : s.sign ≠ -1 → QT = QS := fun h => by rw [← HQ'.out, if_neg (fun h' => h (Int.sign_eq_neg_one_of_neg h'))]
      have HSN := Lib.hid hsn
      have HSP := Lib.hid hsp
      clear hsn hsp
      generalize s.sign = sg at *
      rename_i wB
      go_upto_if 43 with (go_at_call 35; refine (HSG.out _ _ HQB.out.2).mono ?_; rintro e w8 ⟨rfl, hx8⟩; have HRC8 := Lib.hid (HRC.out.call hx8); have HQB8 := Lib.hid (HQB.out.ext hx8); obtain ⟨e1, e2, e3⟩ := HQB8.out.1.facts)
      go_cut [10] (fun _ wx => ∃ p' : QV, RC0 w gg gn gd fn fd un ud wx ∧ QB wx go p' QT)
      case first =>
        rcases hsc with h | h | h
        · have hQ := HSN.out h
          have HQQ := Lib.hid hQ
          subst h
          clear hQ
          go_wp2_with (go_at_call 36; refine (HMI.out _ _ HQB8.out.2).mono ?_; rintro e w9 ⟨v9, rfl, hq9, hx9⟩; obtain ⟨p9, rfl, hp9⟩ := q_formV hq9; clear hq9; have HRC9 := Lib.hid (HRC8.out.call hx9); have HQB9 := Lib.hid (HQB8.out.ext hx9); obtain ⟨e1, e2, e3⟩ := HQB9.out.1.facts)
          go_meet
          exact ⟨p9, HRC9.out.store l1 l2 _ _ _, by rw [HQQ.out]; exact HQB9.out.1.res.setQ hp9⟩
        · have hQ := HSP.out (by rw [h]; decide)
          have HQQ := Lib.hid hQ
          subst h
          clear hQ
          go_wp2
          go_meet
          exact ⟨p, HRC8.out, by rw [HQQ.out]; exact HQB8.out⟩
        · have hQ := HSP.out (by rw [h]; decide)
          have HQQ := Lib.hid hQ
          subst h
          clear hQ
          go_wp2
          go_meet
          exact ⟨p, HRC8.out, by rw [HQQ.out]; exact HQB8.out⟩
      case rest =>
        obtain ⟨p', hrc, hqb⟩ := hcut
        have HB0 := Lib.hid (show RC0 w gg gn gd fn fd un ud wc ∧ QB wc go p' QT from ⟨hrc, hqb⟩)
        have hcall : ∀ wx wy, (RC0 w gg gn gd fn fd un ud wx ∧ QB wx go p' QT) → Below wx.heap.size wx wy → (RC0 w gg gn gd fn fd un ud wy ∧ QB wy go p' QT) := fun wx wy h hb => ⟨h.1.call hb, h.2.ext hb⟩
        have hSS : ∀ wx, (RC0 w gg gn gd fn fd un ud wx ∧ QB wx go p' QT) → ((RC0 w gg gn gd fn fd un ud wx ∧ QB wx go p' QT) ∧ (wx.cell? ⟨w.heap.size + 1, 0, none⟩ = some (.int .i64 un) ∧ wx.cell? ⟨w.heap.size + 1, 1, none⟩ = some (.int .i64 ud)) ∧ (wx.cell? ⟨gg, 0, none⟩ = some (.int .i64 gn) ∧ wx.cell? ⟨gg, 1, none⟩ = some (.int .i64 gd)) ∧
            (wx.cell? ⟨go, 0, none⟩ = some (.bool p'.s) ∧ wx.cell? ⟨go, 1, none⟩ = some (.slice p'.A p'.n p'.c) ∧ wx.cell? ⟨go, 2, none⟩ = some (.slice p'.B p'.m p'.d))) :=
          fun wx h => ⟨h, h.1.cells.2.1, h.1.cells.2.2, h.2.1.cells⟩
        have HCALL := Lib.hid hcall
        have HSS := Lib.hid hSS
        clear hrc hqb hcall hSS HRC HQB HRC8 HQB8 hx8 a1 a2 c1 c2 d1 d2 e1 e2 e3 hsc HSN HSP HQ'
        go_upto_region 9 with (fail)
        go_cut [10, 11] (fun z10 z11 wx => z10 = .int .i64 k ∧ z11 = .bool true ∧ RC0 w gg gn gd fn fd un ud wx ∧ QB wx go p' QT)
        case first =>
          go_region_held3 (fun wx => (RC0 w gg gn gd fn fd un ud wx ∧ QB wx go p' QT) ∧ (wx.cell? ⟨w.heap.size + 1, 0, none⟩ = some (.int .i64 un) ∧ wx.cell? ⟨w.heap.size + 1, 1, none⟩ = some (.int .i64 ud)) ∧ (wx.cell? ⟨gg, 0, none⟩ = some (.int .i64 gn) ∧ wx.cell? ⟨gg, 1, none⟩ = some (.int .i64 gd)) ∧
              (wx.cell? ⟨go, 0, none⟩ = some (.bool p'.s) ∧ wx.cell? ⟨go, 1, none⟩ = some (.slice p'.A p'.n p'.c) ∧ wx.cell? ⟨go, 2, none⟩ = some (.slice p'.B p'.m p'.d)))
            (first | assumption | exact HSS.out _ (HCALL.out _ _ (And.left (by assumption)) (by assumption)) | exact HSS.out _ (HCALL.out _ _ HB0.out (ext_drew _)))
            (first
              | (go_at_call_of 34 (Value.int .i64 gn); refine (O1.out _).mono ?_; rintro e w11 ⟨v11, rfl, hq11, hx11⟩; obtain ⟨p11, rfl, hp11⟩ := q_formV hq11; clear hq11)
              | (go_at_call_of 34 (Value.int .i64 un); refine (O3.out _).mono ?_; rintro e w12 ⟨v12, rfl, hq12, hx12⟩; obtain ⟨p12, rfl, hp12⟩ := q_formV hq12; clear hq12)
              | (go_at_call 38; refine (HOV.out _ _ _ (hp11.ext hx12) hp12).mono ?_; rintro e w13 ⟨v13, rfl, hq13, hx13⟩; obtain ⟨p13, rfl, hp13⟩ := q_formV hq13; clear hq13)
              | (go_at_call 37; refine (HWH.out _ _ hp13).mono ?_; rintro e w14 ⟨rfl, hx14⟩; have hb14 := HCALL.out _ _ (And.left (by assumption)) hx14))
          all_goals
            go_wp2
            go_meet
            exact ⟨rfl, rfl, hb14.1, hb14.2⟩
        case rest =>
          obtain ⟨rfl, rfl, hrc, hqb⟩ := hcut
          have HB1 := Lib.hid (show RC0 w gg gn gd fn fd un ud wc ∧ QB wc go p' QT from ⟨hrc, hqb⟩)
          clear hrc hqb HB0
          go_upto_region 10 with (fail)
          go_cut [12] (fun z12 wx => z12 = .int .i64 hf ∧ RC0 w gg gn gd fn fd un ud wx ∧ QB wx go p' QT)
          case first =>
            go_region_held3 (fun wx => (RC0 w gg gn gd fn fd un ud wx ∧ QB wx go p' QT) ∧ (wx.cell? ⟨w.heap.size + 1, 0, none⟩ = some (.int .i64 un) ∧ wx.cell? ⟨w.heap.size + 1, 1, none⟩ = some (.int .i64 ud)) ∧ (wx.cell? ⟨gg, 0, none⟩ = some (.int .i64 gn) ∧ wx.cell? ⟨gg, 1, none⟩ = some (.int .i64 gd)) ∧
                (wx.cell? ⟨go, 0, none⟩ = some (.bool p'.s) ∧ wx.cell? ⟨go, 1, none⟩ = some (.slice p'.A p'.n p'.c) ∧ wx.cell? ⟨go, 2, none⟩ = some (.slice p'.B p'.m p'.d)))
              (first | assumption | exact HSS.out _ (HCALL.out _ _ (And.left (by assumption)) (by assumption)) | exact HSS.out _ (HCALL.out _ _ HB1.out (ext_drew _)))
              (first
                | (go_at_call 40; refine (HPL.out _ _ _ (HCALL.out _ _ HB1.out (ext_drew _)).2.2 (HCALL.out _ _ HB1.out (ext_drew _)).2.2).mono ?_; rintro e w11 ⟨v11, rfl, hq11, hx11⟩; obtain ⟨p11, rfl, hp11⟩ := q_formV hq11; clear hq11)
                | (go_at_call_of 34 (Value.int .i64 un); refine (O3.out _).mono ?_; rintro e w12 ⟨v12, rfl, hq12, hx12⟩; obtain ⟨p12, rfl, hp12⟩ := q_formV hq12; clear hq12)
                | (go_at_call 39; refine (HOR2.out _ _ _ (hp11.ext hx12) hp12).mono ?_; rintro e w13 ⟨rfl, hx13⟩; have hb13 := HCALL.out _ _ (And.left (by assumption)) hx13))
            all_goals
              go_wp2
              go_meet
              exact ⟨rfl, hb13.1, hb13.2⟩
          case rest =>
            obtain ⟨rfl, hrc, hqb⟩ := hcut
            have HB2 := Lib.hid (show RC0 w gg gn gd fn fd un ud wc ∧ QB wc go p' QT from ⟨hrc, hqb⟩)
            clear hrc hqb HB1
            go_upto_region 11 with (fail)
            have hfin : ((m = 0 ∨ m = 1 ∨ m = 2) ∨ m = 3 ∧ (hf = -1 ∨ hf = 0)) ∨ m = 4 ∧ (hf = -1 ∨ hf = 0) := by
              by_cases h : m < 3
              · exact .inl (.inl (by omega))
              · have := HHF.out (by omega)
                omega
            clear HHF hhb hmm HOR2
            rcases hfin with hfin | hfin
            · rcases hfin with (hfin | hfin | hfin) | hfin
              · subst hfin
                refine wp_region_held_drew (S := (fun wx => (RC0 w gg gn gd fn fd un ud wx ∧ QB wx go p' QT) ∧ (wx.cell? ⟨w.heap.size + 1, 0, none⟩ = some (.int .i64 un) ∧ wx.cell? ⟨w.heap.size + 1, 1, none⟩ = some (.int .i64 ud)) ∧ (wx.cell? ⟨gg, 0, none⟩ = some (.int .i64 gn) ∧ wx.cell? ⟨gg, 1, none⟩ = some (.int .i64 gd)) ∧ (wx.cell? ⟨go, 0, none⟩ = some (.bool p'.s) ∧ wx.cell? ⟨go, 1, none⟩ = some (.slice p'.A p'.n p'.c) ∧ wx.cell? ⟨go, 2, none⟩ = some (.slice p'.B p'.m p'.d)))) (by kernel_rfl) (HSS.out _ (HCALL.out _ _ HB2.out (ext_drew _))) (fun hHeld => ?_)
                refine wpAnyH_take (i := 0) (v := ?v1) rfl (by kernel_rfl) (by kernel_rfl) (by kernel_rfl) (fun _ _ _ h => h) (Or.inl ⟨by rfl, ?hy1⟩) hHeld ?rst1
                case hy1 => (intro wx hSw; (try dsimp only at hSw); go_simp; try (with_reducible rfl))
                try simp only [List.getElem_toArray, List.getElem_cons_zero, List.getElem_cons_succ, Act.put, List.setIfInBounds_toArray, List.set_cons_zero, List.set_cons_succ]
                refine wpAnyH_take (i := 1) (v := ?v2) rfl (by kernel_rfl) (by kernel_rfl) (by kernel_rfl) (fun _ _ _ h => h) (Or.inl ⟨by rfl, ?hy2⟩) hHeld ?rst2
                case hy2 => (intro wx hSw; (try dsimp only at hSw); go_simp; try (with_reducible rfl))
                try simp only [List.getElem_toArray, List.getElem_cons_zero, List.getElem_cons_succ, Act.put, List.setIfInBounds_toArray, List.set_cons_zero, List.set_cons_succ]
                refine wpAnyH_take (i := 2) (v := ?v3) rfl (by kernel_rfl) (by kernel_rfl) (by kernel_rfl) (fun _ _ _ h => h) (Or.inl ⟨by rfl, ?hy3⟩) hHeld ?rst3
                case hy3 => (intro wx hSw; (try dsimp only at hSw); go_simp; try (with_reducible rfl))
                try simp only [List.getElem_toArray, List.getElem_cons_zero, List.getElem_cons_succ, Act.put, List.setIfInBounds_toArray, List.set_cons_zero, List.set_cons_succ]
                refine wpAnyH_take (i := 3) (v := ?v4) rfl (by kernel_rfl) (by kernel_rfl) (by kernel_rfl) (fun _ _ _ h => h) (Or.inl ⟨by rfl, ?hy4⟩) hHeld ?rst4
                case hy4 => (intro wx hSw; (try dsimp only at hSw); go_simp; try (with_reducible rfl))
                try simp only [List.getElem_toArray, List.getElem_cons_zero, List.getElem_cons_succ, Act.put, List.setIfInBounds_toArray, List.set_cons_zero, List.set_cons_succ]
                refine wpAnyH_ready (rs := [4]) (by kernel_rfl) (by simp) ?_
                refine AllReadyH.cons rfl (fun K hK => ?_) AllReadyH.nil
                go_simp
                go_at_call_of 34 (Value.int .i64 un); refine (O3.out _).mono ?_; rintro e w12 ⟨v12, rfl, hq12, hx12⟩; obtain ⟨p12, rfl, hp12⟩ := q_formV hq12; clear hq12; have hb12 := HCALL.out _ _ hHeld.1 hx12
                refine hK.out _ _ (HSS.out _ hb12) (fun hHeld => ?_)
                clear hK K
                try simp only [List.getElem_toArray, List.getElem_cons_zero, List.getElem_cons_succ, Act.put, List.setIfInBounds_toArray, List.set_cons_zero, List.set_cons_succ]
                refine wpAnyH_ready (rs := [5]) (by kernel_rfl) (by simp) ?_
                refine AllReadyH.cons rfl (fun K hK => ?_) AllReadyH.nil
                go_simp
                go_at_call 39; refine (HOR.out _ _ _ hb12.2.2 hp12).mono ?_; rintro e w13 ⟨rfl, hx13⟩; have hb13 := HCALL.out _ _ hb12 hx13
                refine hK.out _ _ (HSS.out _ hb13) (fun hHeld => ?_)
                clear hK K
                try simp only [List.getElem_toArray, List.getElem_cons_zero, List.getElem_cons_succ, Act.put, List.setIfInBounds_toArray, List.set_cons_zero, List.set_cons_succ]
                refine wpAnyH_take (i := 6) (v := ?v5) rfl (by kernel_rfl) (by kernel_rfl) (by kernel_rfl) (fun _ _ _ h => h) (Or.inl ⟨by rfl, ?hy5⟩) hHeld ?rst5
                case hy5 => (intro wx hSw; (try dsimp only at hSw); go_simp; try (with_reducible rfl))
                try simp only [List.getElem_toArray, List.getElem_cons_zero, List.getElem_cons_succ, Act.put, List.setIfInBounds_toArray, List.set_cons_zero, List.set_cons_succ]
                refine wpAnyH_take (i := 7) (v := ?v6) rfl (by kernel_rfl) (by kernel_rfl) (by kernel_rfl) (fun _ _ _ h => h) (Or.inl ⟨by rfl, ?hy6⟩) hHeld ?rst6
                case hy6 => (intro wx hSw; (try dsimp only at hSw); go_simp; try (with_reducible rfl))
                try simp only [List.getElem_toArray, List.getElem_cons_zero, List.getElem_cons_succ, Act.put, List.setIfInBounds_toArray, List.set_cons_zero, List.set_cons_succ]
                refine wpAnyH_take (i := 8) (v := ?v7) rfl (by kernel_rfl) (by kernel_rfl) (by kernel_rfl) (fun _ _ _ h => h) (Or.inl ⟨by rfl, ?hy7⟩) hHeld ?rst7
                case hy7 => (intro wx hSw; (try dsimp only at hSw); go_simp; try (with_reducible rfl))
                try simp only [List.getElem_toArray, List.getElem_cons_zero, List.getElem_cons_succ, Act.put, List.setIfInBounds_toArray, List.set_cons_zero, List.set_cons_succ]
                refine wpAnyH_take (i := 9) (v := ?v8) rfl (by kernel_rfl) (by kernel_rfl) (by kernel_rfl) (fun _ _ _ h => h) (Or.inl ⟨by rfl, ?hy8⟩) hHeld ?rst8
                case hy8 => (intro wx hSw; (try dsimp only at hSw); go_simp; try (with_reducible rfl))
                try simp only [List.getElem_toArray, List.getElem_cons_zero, List.getElem_cons_succ, Act.put, List.setIfInBounds_toArray, List.set_cons_zero, List.set_cons_succ]
                refine wpAnyH_take (i := 10) (v := ?v9) rfl (by kernel_rfl) (by kernel_rfl) (by kernel_rfl) (fun _ _ _ h => h) (Or.inl ⟨by rfl, ?hy9⟩) hHeld ?rst9
                case hy9 => (intro wx hSw; (try dsimp only at hSw); go_simp; try (with_reducible rfl))
                try simp only [List.getElem_toArray, List.getElem_cons_zero, List.getElem_cons_succ, Act.put, List.setIfInBounds_toArray, List.set_cons_zero, List.set_cons_succ]
                refine wpAnyH_take (i := 11) (v := ?v10) rfl (by kernel_rfl) (by kernel_rfl) (by kernel_rfl) (fun _ _ _ h => h) (Or.inl ⟨by rfl, ?hy10⟩) hHeld ?rst10
                case hy10 => (intro wx hSw; (try dsimp only at hSw); go_simp; try (with_reducible rfl))
                try simp only [List.getElem_toArray, List.getElem_cons_zero, List.getElem_cons_succ, Act.put, List.setIfInBounds_toArray, List.set_cons_zero, List.set_cons_succ]
                refine wpAnyH_take (i := 12) (v := undef) rfl (by kernel_rfl) (by kernel_rfl) (by kernel_rfl) (fun _ _ _ h => h) (Or.inr ⟨by rfl, rfl⟩) hHeld ?_
                try simp only [List.getElem_toArray, List.getElem_cons_zero, List.getElem_cons_succ, Act.put, List.setIfInBounds_toArray, List.set_cons_zero, List.set_cons_succ]
                refine wpAnyH_take (i := 13) (v := undef) rfl (by kernel_rfl) (by kernel_rfl) (by kernel_rfl) (fun _ _ _ h => h) (Or.inr ⟨by rfl, rfl⟩) hHeld ?_
                try simp only [List.getElem_toArray, List.getElem_cons_zero, List.getElem_cons_succ, Act.put, List.setIfInBounds_toArray, List.set_cons_zero, List.set_cons_succ]
                refine wpAnyH_take (i := 14) (v := ?v11) rfl (by kernel_rfl) (by kernel_rfl) (by kernel_rfl) (fun _ _ _ h => h) (Or.inl ⟨by rfl, ?hy11⟩) hHeld ?rst11
                case hy11 => (intro wx hSw; (try dsimp only at hSw); go_simp; try (with_reducible rfl))
                try simp only [List.getElem_toArray, List.getElem_cons_zero, List.getElem_cons_succ, Act.put, List.setIfInBounds_toArray, List.set_cons_zero, List.set_cons_succ]
                refine wpAnyH_take (i := 15) (v := ?v12) rfl (by kernel_rfl) (by kernel_rfl) (by kernel_rfl) (fun _ _ _ h => h) (Or.inl ⟨by rfl, ?hy12⟩) hHeld ?rst12
                case hy12 => (intro wx hSw; (try dsimp only at hSw); go_simp; try (with_reducible rfl))
                try simp only [List.getElem_toArray, List.getElem_cons_zero, List.getElem_cons_succ, Act.put, List.setIfInBounds_toArray, List.set_cons_zero, List.set_cons_succ]
                refine wpAnyH_take (i := 16) (v := ?v13) rfl (by kernel_rfl) (by kernel_rfl) (by kernel_rfl) (fun _ _ _ h => h) (Or.inl ⟨by rfl, ?hy13⟩) hHeld ?rst13
                case hy13 => (intro wx hSw; (try dsimp only at hSw); go_simp; try (with_reducible rfl))
                try simp only [List.getElem_toArray, List.getElem_cons_zero, List.getElem_cons_succ, Act.put, List.setIfInBounds_toArray, List.set_cons_zero, List.set_cons_succ]
                refine wpAnyH_ready (rs := [17]) (by kernel_rfl) (by simp) ?_
                refine AllReadyH.cons rfl (fun K hK => ?_) AllReadyH.nil
                go_simp
                go_at_call 22; refine (awake_any _).mono ?_; rintro e w14 ⟨rfl, hx14⟩; have hb14 := HCALL.out _ _ hb13 hx14
                refine hK.out _ _ (HSS.out _ hb14) (fun hHeld => ?_)
                clear hK K
                try simp only [List.getElem_toArray, List.getElem_cons_zero, List.getElem_cons_succ, Act.put, List.setIfInBounds_toArray, List.set_cons_zero, List.set_cons_succ]
                refine wpAnyH_take (i := 18) (v := ?v14) rfl (by kernel_rfl) (by kernel_rfl) (by kernel_rfl) (fun _ _ _ h => h) (Or.inl ⟨by rfl, ?hy14⟩) hHeld ?rst14
                case hy14 => (intro wx hSw; (try dsimp only at hSw); go_simp; try (with_reducible rfl))
                try simp only [List.getElem_toArray, List.getElem_cons_zero, List.getElem_cons_succ, Act.put, List.setIfInBounds_toArray, List.set_cons_zero, List.set_cons_succ]
                refine wpAnyH_take (i := 19) (v := ?v15) rfl (by kernel_rfl) (by kernel_rfl) (by kernel_rfl) (fun _ _ _ h => h) (Or.inl ⟨by rfl, ?hy15⟩) hHeld ?rst15
                case hy15 => (intro wx hSw; (try dsimp only at hSw); go_simp; try (with_reducible rfl))
                try simp only [List.getElem_toArray, List.getElem_cons_zero, List.getElem_cons_succ, Act.put, List.setIfInBounds_toArray, List.set_cons_zero, List.set_cons_succ]
                refine wpAnyH_done (by kernel_rfl) ?_ _
                go_wp2
                go_ret
                first | exact ⟨rfl, hb14.1.1⟩ | exact ⟨by simp, hb14.1.1⟩ | exact ⟨by simp [go_sem], hb14.1.1⟩
              · subst hfin
                refine wp_region_held_drew (S := (fun wx => (RC0 w gg gn gd fn fd un ud wx ∧ QB wx go p' QT) ∧ (wx.cell? ⟨w.heap.size + 1, 0, none⟩ = some (.int .i64 un) ∧ wx.cell? ⟨w.heap.size + 1, 1, none⟩ = some (.int .i64 ud)) ∧ (wx.cell? ⟨gg, 0, none⟩ = some (.int .i64 gn) ∧ wx.cell? ⟨gg, 1, none⟩ = some (.int .i64 gd)) ∧ (wx.cell? ⟨go, 0, none⟩ = some (.bool p'.s) ∧ wx.cell? ⟨go, 1, none⟩ = some (.slice p'.A p'.n p'.c) ∧ wx.cell? ⟨go, 2, none⟩ = some (.slice p'.B p'.m p'.d)))) (by kernel_rfl) (HSS.out _ (HCALL.out _ _ HB2.out (ext_drew _))) (fun hHeld => ?_)
                refine wpAnyH_take (i := 0) (v := ?v16) rfl (by kernel_rfl) (by kernel_rfl) (by kernel_rfl) (fun _ _ _ h => h) (Or.inl ⟨by rfl, ?hy16⟩) hHeld ?rst16
                case hy16 => (intro wx hSw; (try dsimp only at hSw); go_simp; try (with_reducible rfl))
                try simp only [List.getElem_toArray, List.getElem_cons_zero, List.getElem_cons_succ, Act.put, List.setIfInBounds_toArray, List.set_cons_zero, List.set_cons_succ]
                refine wpAnyH_take (i := 1) (v := ?v17) rfl (by kernel_rfl) (by kernel_rfl) (by kernel_rfl) (fun _ _ _ h => h) (Or.inl ⟨by rfl, ?hy17⟩) hHeld ?rst17
                case hy17 => (intro wx hSw; (try dsimp only at hSw); go_simp; try (with_reducible rfl))
                try simp only [List.getElem_toArray, List.getElem_cons_zero, List.getElem_cons_succ, Act.put, List.setIfInBounds_toArray, List.set_cons_zero, List.set_cons_succ]
                refine wpAnyH_take (i := 2) (v := ?v18) rfl (by kernel_rfl) (by kernel_rfl) (by kernel_rfl) (fun _ _ _ h => h) (Or.inl ⟨by rfl, ?hy18⟩) hHeld ?rst18
                case hy18 => (intro wx hSw; (try dsimp only at hSw); go_simp; try (with_reducible rfl))
                try simp only [List.getElem_toArray, List.getElem_cons_zero, List.getElem_cons_succ, Act.put, List.setIfInBounds_toArray, List.set_cons_zero, List.set_cons_succ]
                refine wpAnyH_take (i := 3) (v := ?v19) rfl (by kernel_rfl) (by kernel_rfl) (by kernel_rfl) (fun _ _ _ h => h) (Or.inl ⟨by rfl, ?hy19⟩) hHeld ?rst19
                case hy19 => (intro wx hSw; (try dsimp only at hSw); go_simp; try (with_reducible rfl))
                try simp only [List.getElem_toArray, List.getElem_cons_zero, List.getElem_cons_succ, Act.put, List.setIfInBounds_toArray, List.set_cons_zero, List.set_cons_succ]
                refine wpAnyH_ready (rs := [4]) (by kernel_rfl) (by simp) ?_
                refine AllReadyH.cons rfl (fun K hK => ?_) AllReadyH.nil
                go_simp
                go_at_call_of 34 (Value.int .i64 un); refine (O3.out _).mono ?_; rintro e w12 ⟨v12, rfl, hq12, hx12⟩; obtain ⟨p12, rfl, hp12⟩ := q_formV hq12; clear hq12; have hb12 := HCALL.out _ _ hHeld.1 hx12
                refine hK.out _ _ (HSS.out _ hb12) (fun hHeld => ?_)
                clear hK K
                try simp only [List.getElem_toArray, List.getElem_cons_zero, List.getElem_cons_succ, Act.put, List.setIfInBounds_toArray, List.set_cons_zero, List.set_cons_succ]
                refine wpAnyH_ready (rs := [5]) (by kernel_rfl) (by simp) ?_
                refine AllReadyH.cons rfl (fun K hK => ?_) AllReadyH.nil
                go_simp
                go_at_call 39; refine (HOR.out _ _ _ hb12.2.2 hp12).mono ?_; rintro e w13 ⟨rfl, hx13⟩; have hb13 := HCALL.out _ _ hb12 hx13
                refine hK.out _ _ (HSS.out _ hb13) (fun hHeld => ?_)
                clear hK K
                try simp only [List.getElem_toArray, List.getElem_cons_zero, List.getElem_cons_succ, Act.put, List.setIfInBounds_toArray, List.set_cons_zero, List.set_cons_succ]
                refine wpAnyH_take (i := 6) (v := ?v20) rfl (by kernel_rfl) (by kernel_rfl) (by kernel_rfl) (fun _ _ _ h => h) (Or.inl ⟨by rfl, ?hy20⟩) hHeld ?rst20
                case hy20 => (intro wx hSw; (try dsimp only at hSw); go_simp; try (with_reducible rfl))
                try simp only [List.getElem_toArray, List.getElem_cons_zero, List.getElem_cons_succ, Act.put, List.setIfInBounds_toArray, List.set_cons_zero, List.set_cons_succ]
                refine wpAnyH_take (i := 7) (v := ?v21) rfl (by kernel_rfl) (by kernel_rfl) (by kernel_rfl) (fun _ _ _ h => h) (Or.inl ⟨by rfl, ?hy21⟩) hHeld ?rst21
                case hy21 => (intro wx hSw; (try dsimp only at hSw); go_simp; try (with_reducible rfl))
                try simp only [List.getElem_toArray, List.getElem_cons_zero, List.getElem_cons_succ, Act.put, List.setIfInBounds_toArray, List.set_cons_zero, List.set_cons_succ]
                refine wpAnyH_take (i := 8) (v := ?v22) rfl (by kernel_rfl) (by kernel_rfl) (by kernel_rfl) (fun _ _ _ h => h) (Or.inl ⟨by rfl, ?hy22⟩) hHeld ?rst22
                case hy22 => (intro wx hSw; (try dsimp only at hSw); go_simp; try (with_reducible rfl))
                try simp only [List.getElem_toArray, List.getElem_cons_zero, List.getElem_cons_succ, Act.put, List.setIfInBounds_toArray, List.set_cons_zero, List.set_cons_succ]
                refine wpAnyH_take (i := 9) (v := ?v23) rfl (by kernel_rfl) (by kernel_rfl) (by kernel_rfl) (fun _ _ _ h => h) (Or.inl ⟨by rfl, ?hy23⟩) hHeld ?rst23
                case hy23 => (intro wx hSw; (try dsimp only at hSw); go_simp; try (with_reducible rfl))
                try simp only [List.getElem_toArray, List.getElem_cons_zero, List.getElem_cons_succ, Act.put, List.setIfInBounds_toArray, List.set_cons_zero, List.set_cons_succ]
                refine wpAnyH_take (i := 10) (v := ?v24) rfl (by kernel_rfl) (by kernel_rfl) (by kernel_rfl) (fun _ _ _ h => h) (Or.inl ⟨by rfl, ?hy24⟩) hHeld ?rst24
                case hy24 => (intro wx hSw; (try dsimp only at hSw); go_simp; try (with_reducible rfl))
                try simp only [List.getElem_toArray, List.getElem_cons_zero, List.getElem_cons_succ, Act.put, List.setIfInBounds_toArray, List.set_cons_zero, List.set_cons_succ]
                refine wpAnyH_take (i := 11) (v := ?v25) rfl (by kernel_rfl) (by kernel_rfl) (by kernel_rfl) (fun _ _ _ h => h) (Or.inl ⟨by rfl, ?hy25⟩) hHeld ?rst25
                case hy25 => (intro wx hSw; (try dsimp only at hSw); go_simp; try (with_reducible rfl))
                try simp only [List.getElem_toArray, List.getElem_cons_zero, List.getElem_cons_succ, Act.put, List.setIfInBounds_toArray, List.set_cons_zero, List.set_cons_succ]
                refine wpAnyH_take (i := 12) (v := undef) rfl (by kernel_rfl) (by kernel_rfl) (by kernel_rfl) (fun _ _ _ h => h) (Or.inr ⟨by rfl, rfl⟩) hHeld ?_
                try simp only [List.getElem_toArray, List.getElem_cons_zero, List.getElem_cons_succ, Act.put, List.setIfInBounds_toArray, List.set_cons_zero, List.set_cons_succ]
                refine wpAnyH_take (i := 13) (v := undef) rfl (by kernel_rfl) (by kernel_rfl) (by kernel_rfl) (fun _ _ _ h => h) (Or.inr ⟨by rfl, rfl⟩) hHeld ?_
                try simp only [List.getElem_toArray, List.getElem_cons_zero, List.getElem_cons_succ, Act.put, List.setIfInBounds_toArray, List.set_cons_zero, List.set_cons_succ]
                refine wpAnyH_take (i := 14) (v := ?v26) rfl (by kernel_rfl) (by kernel_rfl) (by kernel_rfl) (fun _ _ _ h => h) (Or.inl ⟨by rfl, ?hy26⟩) hHeld ?rst26
                case hy26 => (intro wx hSw; (try dsimp only at hSw); go_simp; try (with_reducible rfl))
                try simp only [List.getElem_toArray, List.getElem_cons_zero, List.getElem_cons_succ, Act.put, List.setIfInBounds_toArray, List.set_cons_zero, List.set_cons_succ]
                refine wpAnyH_take (i := 15) (v := ?v27) rfl (by kernel_rfl) (by kernel_rfl) (by kernel_rfl) (fun _ _ _ h => h) (Or.inl ⟨by rfl, ?hy27⟩) hHeld ?rst27
                case hy27 => (intro wx hSw; (try dsimp only at hSw); go_simp; try (with_reducible rfl))
                try simp only [List.getElem_toArray, List.getElem_cons_zero, List.getElem_cons_succ, Act.put, List.setIfInBounds_toArray, List.set_cons_zero, List.set_cons_succ]
                refine wpAnyH_take (i := 16) (v := ?v28) rfl (by kernel_rfl) (by kernel_rfl) (by kernel_rfl) (fun _ _ _ h => h) (Or.inl ⟨by rfl, ?hy28⟩) hHeld ?rst28
                case hy28 => (intro wx hSw; (try dsimp only at hSw); go_simp; try (with_reducible rfl))
                try simp only [List.getElem_toArray, List.getElem_cons_zero, List.getElem_cons_succ, Act.put, List.setIfInBounds_toArray, List.set_cons_zero, List.set_cons_succ]
                refine wpAnyH_ready (rs := [17]) (by kernel_rfl) (by simp) ?_
                refine AllReadyH.cons rfl (fun K hK => ?_) AllReadyH.nil
                go_simp
                go_at_call 22; refine (awake_any _).mono ?_; rintro e w14 ⟨rfl, hx14⟩; have hb14 := HCALL.out _ _ hb13 hx14
                refine hK.out _ _ (HSS.out _ hb14) (fun hHeld => ?_)
                clear hK K
                try simp only [List.getElem_toArray, List.getElem_cons_zero, List.getElem_cons_succ, Act.put, List.setIfInBounds_toArray, List.set_cons_zero, List.set_cons_succ]
                refine wpAnyH_take (i := 18) (v := ?v29) rfl (by kernel_rfl) (by kernel_rfl) (by kernel_rfl) (fun _ _ _ h => h) (Or.inl ⟨by rfl, ?hy29⟩) hHeld ?rst29
                case hy29 => (intro wx hSw; (try dsimp only at hSw); go_simp; try (with_reducible rfl))
                try simp only [List.getElem_toArray, List.getElem_cons_zero, List.getElem_cons_succ, Act.put, List.setIfInBounds_toArray, List.set_cons_zero, List.set_cons_succ]
                refine wpAnyH_take (i := 19) (v := ?v30) rfl (by kernel_rfl) (by kernel_rfl) (by kernel_rfl) (fun _ _ _ h => h) (Or.inl ⟨by rfl, ?hy30⟩) hHeld ?rst30
                case hy30 => (intro wx hSw; (try dsimp only at hSw); go_simp; try (with_reducible rfl))
                try simp only [List.getElem_toArray, List.getElem_cons_zero, List.getElem_cons_succ, Act.put, List.setIfInBounds_toArray, List.set_cons_zero, List.set_cons_succ]
                refine wpAnyH_done (by kernel_rfl) ?_ _
                go_wp2
                go_ret
                first | exact ⟨rfl, hb14.1.1⟩ | exact ⟨by simp, hb14.1.1⟩ | exact ⟨by simp [go_sem], hb14.1.1⟩
              · subst hfin
                refine wp_region_held_drew (S := (fun wx => (RC0 w gg gn gd fn fd un ud wx ∧ QB wx go p' QT) ∧ (wx.cell? ⟨w.heap.size + 1, 0, none⟩ = some (.int .i64 un) ∧ wx.cell? ⟨w.heap.size + 1, 1, none⟩ = some (.int .i64 ud)) ∧ (wx.cell? ⟨gg, 0, none⟩ = some (.int .i64 gn) ∧ wx.cell? ⟨gg, 1, none⟩ = some (.int .i64 gd)) ∧ (wx.cell? ⟨go, 0, none⟩ = some (.bool p'.s) ∧ wx.cell? ⟨go, 1, none⟩ = some (.slice p'.A p'.n p'.c) ∧ wx.cell? ⟨go, 2, none⟩ = some (.slice p'.B p'.m p'.d)))) (by kernel_rfl) (HSS.out _ (HCALL.out _ _ HB2.out (ext_drew _))) (fun hHeld => ?_)
                refine wpAnyH_take (i := 0) (v := ?v31) rfl (by kernel_rfl) (by kernel_rfl) (by kernel_rfl) (fun _ _ _ h => h) (Or.inl ⟨by rfl, ?hy31⟩) hHeld ?rst31
                case hy31 => (intro wx hSw; (try dsimp only at hSw); go_simp; try (with_reducible rfl))
                try simp only [List.getElem_toArray, List.getElem_cons_zero, List.getElem_cons_succ, Act.put, List.setIfInBounds_toArray, List.set_cons_zero, List.set_cons_succ]
                refine wpAnyH_take (i := 1) (v := ?v32) rfl (by kernel_rfl) (by kernel_rfl) (by kernel_rfl) (fun _ _ _ h => h) (Or.inl ⟨by rfl, ?hy32⟩) hHeld ?rst32
                case hy32 => (intro wx hSw; (try dsimp only at hSw); go_simp; try (with_reducible rfl))
                try simp only [List.getElem_toArray, List.getElem_cons_zero, List.getElem_cons_succ, Act.put, List.setIfInBounds_toArray, List.set_cons_zero, List.set_cons_succ]
                refine wpAnyH_take (i := 2) (v := ?v33) rfl (by kernel_rfl) (by kernel_rfl) (by kernel_rfl) (fun _ _ _ h => h) (Or.inl ⟨by rfl, ?hy33⟩) hHeld ?rst33
                case hy33 => (intro wx hSw; (try dsimp only at hSw); go_simp; try (with_reducible rfl))
                try simp only [List.getElem_toArray, List.getElem_cons_zero, List.getElem_cons_succ, Act.put, List.setIfInBounds_toArray, List.set_cons_zero, List.set_cons_succ]
                refine wpAnyH_take (i := 3) (v := ?v34) rfl (by kernel_rfl) (by kernel_rfl) (by kernel_rfl) (fun _ _ _ h => h) (Or.inl ⟨by rfl, ?hy34⟩) hHeld ?rst34
                case hy34 => (intro wx hSw; (try dsimp only at hSw); go_simp; try (with_reducible rfl))
                try simp only [List.getElem_toArray, List.getElem_cons_zero, List.getElem_cons_succ, Act.put, List.setIfInBounds_toArray, List.set_cons_zero, List.set_cons_succ]
                refine wpAnyH_ready (rs := [4]) (by kernel_rfl) (by simp) ?_
                refine AllReadyH.cons rfl (fun K hK => ?_) AllReadyH.nil
                go_simp
                go_at_call_of 34 (Value.int .i64 un); refine (O3.out _).mono ?_; rintro e w12 ⟨v12, rfl, hq12, hx12⟩; obtain ⟨p12, rfl, hp12⟩ := q_formV hq12; clear hq12; have hb12 := HCALL.out _ _ hHeld.1 hx12
                refine hK.out _ _ (HSS.out _ hb12) (fun hHeld => ?_)
                clear hK K
                try simp only [List.getElem_toArray, List.getElem_cons_zero, List.getElem_cons_succ, Act.put, List.setIfInBounds_toArray, List.set_cons_zero, List.set_cons_succ]
                refine wpAnyH_ready (rs := [5]) (by kernel_rfl) (by simp) ?_
                refine AllReadyH.cons rfl (fun K hK => ?_) AllReadyH.nil
                go_simp
                go_at_call 39; refine (HOR.out _ _ _ hb12.2.2 hp12).mono ?_; rintro e w13 ⟨rfl, hx13⟩; have hb13 := HCALL.out _ _ hb12 hx13
                refine hK.out _ _ (HSS.out _ hb13) (fun hHeld => ?_)
                clear hK K
                try simp only [List.getElem_toArray, List.getElem_cons_zero, List.getElem_cons_succ, Act.put, List.setIfInBounds_toArray, List.set_cons_zero, List.set_cons_succ]
                refine wpAnyH_take (i := 6) (v := ?v35) rfl (by kernel_rfl) (by kernel_rfl) (by kernel_rfl) (fun _ _ _ h => h) (Or.inl ⟨by rfl, ?hy35⟩) hHeld ?rst35
                case hy35 => (intro wx hSw; (try dsimp only at hSw); go_simp; try (with_reducible rfl))
                try simp only [List.getElem_toArray, List.getElem_cons_zero, List.getElem_cons_succ, Act.put, List.setIfInBounds_toArray, List.set_cons_zero, List.set_cons_succ]
                refine wpAnyH_take (i := 7) (v := ?v36) rfl (by kernel_rfl) (by kernel_rfl) (by kernel_rfl) (fun _ _ _ h => h) (Or.inl ⟨by rfl, ?hy36⟩) hHeld ?rst36
                case hy36 => (intro wx hSw; (try dsimp only at hSw); go_simp; try (with_reducible rfl))
                try simp only [List.getElem_toArray, List.getElem_cons_zero, List.getElem_cons_succ, Act.put, List.setIfInBounds_toArray, List.set_cons_zero, List.set_cons_succ]
                refine wpAnyH_take (i := 8) (v := ?v37) rfl (by kernel_rfl) (by kernel_rfl) (by kernel_rfl) (fun _ _ _ h => h) (Or.inl ⟨by rfl, ?hy37⟩) hHeld ?rst37
                case hy37 => (intro wx hSw; (try dsimp only at hSw); go_simp; try (with_reducible rfl))
                try simp only [List.getElem_toArray, List.getElem_cons_zero, List.getElem_cons_succ, Act.put, List.setIfInBounds_toArray, List.set_cons_zero, List.set_cons_succ]
                refine wpAnyH_take (i := 9) (v := ?v38) rfl (by kernel_rfl) (by kernel_rfl) (by kernel_rfl) (fun _ _ _ h => h) (Or.inl ⟨by rfl, ?hy38⟩) hHeld ?rst38
                case hy38 => (intro wx hSw; (try dsimp only at hSw); go_simp; try (with_reducible rfl))
                try simp only [List.getElem_toArray, List.getElem_cons_zero, List.getElem_cons_succ, Act.put, List.setIfInBounds_toArray, List.set_cons_zero, List.set_cons_succ]
                refine wpAnyH_take (i := 10) (v := ?v39) rfl (by kernel_rfl) (by kernel_rfl) (by kernel_rfl) (fun _ _ _ h => h) (Or.inl ⟨by rfl, ?hy39⟩) hHeld ?rst39
                case hy39 => (intro wx hSw; (try dsimp only at hSw); go_simp; try (with_reducible rfl))
                try simp only [List.getElem_toArray, List.getElem_cons_zero, List.getElem_cons_succ, Act.put, List.setIfInBounds_toArray, List.set_cons_zero, List.set_cons_succ]
                refine wpAnyH_take (i := 11) (v := ?v40) rfl (by kernel_rfl) (by kernel_rfl) (by kernel_rfl) (fun _ _ _ h => h) (Or.inl ⟨by rfl, ?hy40⟩) hHeld ?rst40
                case hy40 => (intro wx hSw; (try dsimp only at hSw); go_simp; try (with_reducible rfl))
                try simp only [List.getElem_toArray, List.getElem_cons_zero, List.getElem_cons_succ, Act.put, List.setIfInBounds_toArray, List.set_cons_zero, List.set_cons_succ]
                refine wpAnyH_take (i := 12) (v := undef) rfl (by kernel_rfl) (by kernel_rfl) (by kernel_rfl) (fun _ _ _ h => h) (Or.inr ⟨by rfl, rfl⟩) hHeld ?_
                try simp only [List.getElem_toArray, List.getElem_cons_zero, List.getElem_cons_succ, Act.put, List.setIfInBounds_toArray, List.set_cons_zero, List.set_cons_succ]
                refine wpAnyH_take (i := 13) (v := undef) rfl (by kernel_rfl) (by kernel_rfl) (by kernel_rfl) (fun _ _ _ h => h) (Or.inr ⟨by rfl, rfl⟩) hHeld ?_
                try simp only [List.getElem_toArray, List.getElem_cons_zero, List.getElem_cons_succ, Act.put, List.setIfInBounds_toArray, List.set_cons_zero, List.set_cons_succ]
                refine wpAnyH_take (i := 14) (v := ?v41) rfl (by kernel_rfl) (by kernel_rfl) (by kernel_rfl) (fun _ _ _ h => h) (Or.inl ⟨by rfl, ?hy41⟩) hHeld ?rst41
                case hy41 => (intro wx hSw; (try dsimp only at hSw); go_simp; try (with_reducible rfl))
                try simp only [List.getElem_toArray, List.getElem_cons_zero, List.getElem_cons_succ, Act.put, List.setIfInBounds_toArray, List.set_cons_zero, List.set_cons_succ]
                refine wpAnyH_take (i := 15) (v := ?v42) rfl (by kernel_rfl) (by kernel_rfl) (by kernel_rfl) (fun _ _ _ h => h) (Or.inl ⟨by rfl, ?hy42⟩) hHeld ?rst42
                case hy42 => (intro wx hSw; (try dsimp only at hSw); go_simp; try (with_reducible rfl))
                try simp only [List.getElem_toArray, List.getElem_cons_zero, List.getElem_cons_succ, Act.put, List.setIfInBounds_toArray, List.set_cons_zero, List.set_cons_succ]
                refine wpAnyH_take (i := 16) (v := ?v43) rfl (by kernel_rfl) (by kernel_rfl) (by kernel_rfl) (fun _ _ _ h => h) (Or.inl ⟨by rfl, ?hy43⟩) hHeld ?rst43
                case hy43 => (intro wx hSw; (try dsimp only at hSw); go_simp; try (with_reducible rfl))
                try simp only [List.getElem_toArray, List.getElem_cons_zero, List.getElem_cons_succ, Act.put, List.setIfInBounds_toArray, List.set_cons_zero, List.set_cons_succ]
                refine wpAnyH_ready (rs := [17]) (by kernel_rfl) (by simp) ?_
                refine AllReadyH.cons rfl (fun K hK => ?_) AllReadyH.nil
                go_simp
                go_at_call 22; refine (awake_any _).mono ?_; rintro e w14 ⟨rfl, hx14⟩; have hb14 := HCALL.out _ _ hb13 hx14
                refine hK.out _ _ (HSS.out _ hb14) (fun hHeld => ?_)
                clear hK K
                try simp only [List.getElem_toArray, List.getElem_cons_zero, List.getElem_cons_succ, Act.put, List.setIfInBounds_toArray, List.set_cons_zero, List.set_cons_succ]
                refine wpAnyH_take (i := 18) (v := ?v44) rfl (by kernel_rfl) (by kernel_rfl) (by kernel_rfl) (fun _ _ _ h => h) (Or.inl ⟨by rfl, ?hy44⟩) hHeld ?rst44
                case hy44 => (intro wx hSw; (try dsimp only at hSw); go_simp; try (with_reducible rfl))
                try simp only [List.getElem_toArray, List.getElem_cons_zero, List.getElem_cons_succ, Act.put, List.setIfInBounds_toArray, List.set_cons_zero, List.set_cons_succ]
                refine wpAnyH_take (i := 19) (v := ?v45) rfl (by kernel_rfl) (by kernel_rfl) (by kernel_rfl) (fun _ _ _ h => h) (Or.inl ⟨by rfl, ?hy45⟩) hHeld ?rst45
                case hy45 => (intro wx hSw; (try dsimp only at hSw); go_simp; try (with_reducible rfl))
                try simp only [List.getElem_toArray, List.getElem_cons_zero, List.getElem_cons_succ, Act.put, List.setIfInBounds_toArray, List.set_cons_zero, List.set_cons_succ]
                refine wpAnyH_done (by kernel_rfl) ?_ _
                go_wp2
                go_ret
                first | exact ⟨rfl, hb14.1.1⟩ | exact ⟨by simp, hb14.1.1⟩ | exact ⟨by simp [go_sem], hb14.1.1⟩
              · rcases hfin with ⟨rfl, rfl | rfl⟩
                all_goals
                  go_region_held3 (fun wx => (RC0 w gg gn gd fn fd un ud wx ∧ QB wx go p' QT) ∧ (wx.cell? ⟨w.heap.size + 1, 0, none⟩ = some (.int .i64 un) ∧ wx.cell? ⟨w.heap.size + 1, 1, none⟩ = some (.int .i64 ud)) ∧ (wx.cell? ⟨gg, 0, none⟩ = some (.int .i64 gn) ∧ wx.cell? ⟨gg, 1, none⟩ = some (.int .i64 gd)) ∧
                      (wx.cell? ⟨go, 0, none⟩ = some (.bool p'.s) ∧ wx.cell? ⟨go, 1, none⟩ = some (.slice p'.A p'.n p'.c) ∧ wx.cell? ⟨go, 2, none⟩ = some (.slice p'.B p'.m p'.d)))
                    (first | assumption | exact HSS.out _ (HCALL.out _ _ (And.left (by assumption)) (by assumption)) | exact HSS.out _ (HCALL.out _ _ HB2.out (ext_drew _)))
                    (first
                      | (go_at_call_of 34 (Value.int .i64 un); refine (O3.out _).mono ?_; rintro e w12 ⟨v12, rfl, hq12, hx12⟩; obtain ⟨p12, rfl, hp12⟩ := q_formV hq12; clear hq12; have hb12 := HCALL.out _ _ (And.left (by assumption)) hx12)
                      | (go_at_call 39; refine (HOR.out _ _ _ hb12.2.2 hp12).mono ?_; rintro e w13 ⟨rfl, hx13⟩; have hb13 := HCALL.out _ _ hb12 hx13)
                      | (go_at_call 22; refine (awake_any _).mono ?_; rintro e w14 ⟨rfl, hx14⟩; have hb14 := HCALL.out _ _ hb13 hx14))
                  all_goals
                    go_wp2
                    go_ret
                    first | exact ⟨rfl, hb14.1.1⟩ | exact ⟨by simp, hb14.1.1⟩ | exact ⟨by simp [go_sem], hb14.1.1⟩
            · rcases hfin with ⟨rfl, rfl | rfl⟩
              all_goals
                go_region_held3 (fun wx => (RC0 w gg gn gd fn fd un ud wx ∧ QB wx go p' QT) ∧ (wx.cell? ⟨w.heap.size + 1, 0, none⟩ = some (.int .i64 un) ∧ wx.cell? ⟨w.heap.size + 1, 1, none⟩ = some (.int .i64 ud)) ∧ (wx.cell? ⟨gg, 0, none⟩ = some (.int .i64 gn) ∧ wx.cell? ⟨gg, 1, none⟩ = some (.int .i64 gd)) ∧
                    (wx.cell? ⟨go, 0, none⟩ = some (.bool p'.s) ∧ wx.cell? ⟨go, 1, none⟩ = some (.slice p'.A p'.n p'.c) ∧ wx.cell? ⟨go, 2, none⟩ = some (.slice p'.B p'.m p'.d)))
                  (first | assumption | exact HSS.out _ (HCALL.out _ _ (And.left (by assumption)) (by assumption)) | exact HSS.out _ (HCALL.out _ _ HB2.out (ext_drew _)))
                  (first
                    | (go_at_call_of 34 (Value.int .i64 un); refine (O3.out _).mono ?_; rintro e w12 ⟨v12, rfl, hq12, hx12⟩; obtain ⟨p12, rfl, hp12⟩ := q_formV hq12; clear hq12; have hb12 := HCALL.out _ _ (And.left (by assumption)) hx12)
                    | (go_at_call 39; refine (HOR.out _ _ _ hb12.2.2 hp12).mono ?_; rintro e w13 ⟨rfl, hx13⟩; have hb13 := HCALL.out _ _ hb12 hx13)
                    | (go_at_call 22; refine (awake_any _).mono ?_; rintro e w14 ⟨rfl, hx14⟩; have hb14 := HCALL.out _ _ hb13 hx14))
                all_goals
                  go_wp2
                  go_ret
                  first | exact ⟨rfl, hb14.1.1⟩ | exact ⟨by simp, hb14.1.1⟩ | exact ⟨by simp [go_sem], hb14.1.1⟩
end Go.Proofs.Ythkoblnfeebafaa
