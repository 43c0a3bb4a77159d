/- Walk of the reference's between. Conditions: a fraction in lowest terms between 0 and 1, a bound below its denominator. -/
import Derived.Test.YthkoblnfeebafaaGh
import Derived.Deep.QuietTactic
import Derived.BigQuiet
namespace Go.Proofs.Ythkoblnfeebafaa
open Go.RowKit

/-- what between knows of its own blocks -/
def BT (w : World) (a b c e : Int) (wx : World) : Prop :=
  Below w.heap.size w wx ∧ Ce 23 wx w.heap.size (.int .i64 0) (.int .i64 0) ∧ Ce 23 wx (w.heap.size + 1) (.int .i64 0) (.int .i64 0) ∧ Ce 23 wx (w.heap.size + 1 + 1) (.int .i64 a) (.int .i64 b) ∧ Ce 23 wx (w.heap.size + 1 + 1 + 1) (.int .i64 c) (.int .i64 e)
theorem BT.call {w : World} {a b c e : Int} {wx wy : World} (h : BT w a b c e wx) (hb : Below wx.heap.size wx wy) : BT w a b c e wy := by
  obtain ⟨h1, h2, h3, h4, h5⟩ := h
  exact ⟨bext h1 hb (Nat.le_of_lt h2.facts.2.2), h2.ext hb, h3.ext hb, h4.ext hb, h5.ext hb⟩
theorem BT.lo {w : World} {a b c e : Int} {wx : World} (h : BT w a b c e wx) (x y : Int) :
    BT w x y c e ((wx.setCell ⟨w.heap.size + 1 + 1, 0, none⟩ (.int .i64 x)).setCell ⟨w.heap.size + 1 + 1, 1, none⟩ (.int .i64 y)) := by
  obtain ⟨h1, h2, h3, h4, h5⟩ := h
  exact ⟨below2 h1 (by omega) _ _, h2.set_ne' (by omega) _ _, h3.set_ne' (by omega) _ _, h4.set2 _ _, h5.set_ne' (by omega) _ _⟩
theorem BT.hi {w : World} {a b c e : Int} {wx : World} (h : BT w a b c e wx) (x y : Int) :
    BT w a b x y ((wx.setCell ⟨w.heap.size + 1 + 1 + 1, 0, none⟩ (.int .i64 x)).setCell ⟨w.heap.size + 1 + 1 + 1, 1, none⟩ (.int .i64 y)) := by
  obtain ⟨h1, h2, h3, h4, h5⟩ := h
  exact ⟨below2 h1 (by omega) _ _, h2.set_ne' (by omega) _ _, h3.set_ne' (by omega) _ _, h4.set_ne' (by omega) _ _, h5.set2 _ _⟩
theorem BT.start (w : World) : BT w 0 1 1 1 ((((w.alloc (.cells #[.int .i64 0, .int .i64 0] 23)).alloc (.cells #[.int .i64 0, .int .i64 0] 23)).alloc (.cells #[.int .i64 0, .int .i64 1] 23)).alloc (.cells #[.int .i64 1, .int .i64 1] 23)) := by
  have c1 := Ce.new (T := 23) w (.int .i64 0) (.int .i64 0)
  have c2 := Ce.new (T := 23) (w.alloc (.cells #[.int .i64 0, .int .i64 0] 23)) (.int .i64 0) (.int .i64 0)
  have c3 := Ce.new (T := 23) ((w.alloc (.cells #[.int .i64 0, .int .i64 0] 23)).alloc (.cells #[.int .i64 0, .int .i64 0] 23)) (.int .i64 0) (.int .i64 1)
  have c4 := Ce.new (T := 23) (((w.alloc (.cells #[.int .i64 0, .int .i64 0] 23)).alloc (.cells #[.int .i64 0, .int .i64 0] 23)).alloc (.cells #[.int .i64 0, .int .i64 1] 23)) (.int .i64 1) (.int .i64 1)
  simp only [World.size_alloc] at c2 c3 c4
  exact ⟨((((Below.refl _ _).alloc (Nat.le_refl _) _).alloc (by simp) _).alloc (by simp; omega) _).alloc (by simp; omega) _, ((c1.alloc _).alloc _).alloc _, (c2.alloc _).alloc _, c3.alloc _, c4⟩
def RetB (w : World) (p q d : Int) (x : Ending) (w' : World) : Prop := ∃ a b c e : Int, x = .returned (.tuple #[frv a b, frv c e]) ∧ Nb.In p q d a b c e ∧ d < b + e ∧ Below w.heap.size w w'

set_option maxRecDepth 100000 in
set_option maxHeartbeats 2000000 in
theorem between_any (p q d : Int) (w : World) (h1 : 1 ≤ p) (h2 : p < q) (h4 : q ≤ 1000000000) (h5 : 1 ≤ d) (hlt : d < q) (hg : Int.gcd p q = 1) :
    Calls Try.prog 100 #[.int .i64 p, .int .i64 q, .int .i64 d] w (RetB w p q d) := by
  have hst := Nb.start hg h5 hlt
  rw [Int.ediv_eq_zero_of_lt (by omega) h2] at hst
  have HST := Lib.hid hst
  have HG := Lib.hid hg
  have HB0 := Lib.hid (BT.start w)
  clear hst hg
  go_enter Try.func100, Try.ntmps100
  go_wp2
  generalize ((((w.alloc (.cells #[.int .i64 0, .int .i64 0] 23)).alloc (.cells #[.int .i64 0, .int .i64 0] 23)).alloc (.cells #[.int .i64 0, .int .i64 1] 23)).alloc (.cells #[.int .i64 1, .int .i64 1] 23)) = wl at *
  go_loopg [10, 11] (2 * d - 2).toNat (fun g _ _ wr => ∃ a b c e : Int, g = (2 * d - (b + e)).toNat ∧ Nb.In p q d a b c e ∧ BT w a b c e wr)
  case atStart => exact ⟨0, 1, 0 + 1, 1, rfl, HST.out, HB0.out⟩
  case round =>
    obtain ⟨a, b, c, e, hgk, hin, hnb⟩ := hrel
    have HGK := Lib.hid hgk
    have HIN := Lib.hid hin
    have HN := Lib.hid hnb
    obtain ⟨p1, p2⟩ := hin.lo_bd (M := 1000000000) hlt (by omega) (by omega)
    obtain ⟨p3, p4⟩ := hin.hi_bd (M := 1000000000) hlt (by omega) (by omega)
    obtain ⟨p5, p6⟩ := hin.x_le
    have p7 := hin.x0
    have p8 := hin.y0
    have p9 := hin.b1
    have p10 := hin.e1
    have p11 := hin.bd
    have p12 := hin.ed
    rw [Int.mul_comm p b] at p5 p7
    rw [Int.mul_comm p e] at p6 p8
    obtain ⟨m1, m1'⟩ := mul_bd2 (x := b) (y := p) (by omega) (by omega) (by omega) (by omega)
    obtain ⟨m2, m2'⟩ := mul_bd2 (x := a) (y := q) p1 p2 (by omega) (by omega)
    obtain ⟨m3, m3'⟩ := mul_bd2 (x := c) (y := q) p3 p4 (by omega) (by omega)
    obtain ⟨m4, m4'⟩ := mul_bd2 (x := e) (y := p) (by omega) (by omega) (by omega) (by omega)
    have hup := fun k hk h1 h2 => hin.up HG.out hlt (k := k) hk h1 h2
    rw [Int.mul_comm p b, Int.mul_comm p e] at hup
    have HUP := Lib.hid hup
    obtain ⟨_, c1, c2, c3, c4⟩ := hnb
    obtain ⟨r1, r2, r3⟩ := c1.facts
    obtain ⟨s1, s2, s3⟩ := c2.facts
    obtain ⟨t1, t2, t3⟩ := c3.facts
    obtain ⟨v1, v2, v3⟩ := c4.facts
    clear hgk hin c1 c2 c3 c4 hup
    go_upto_region 2 with (fail)
    go_quiet (fail)
    go_upto_region 3 with (fail)
    generalize hxd : b * p - a * q = x at *
    generalize hyd : c * q - e * p = y at *
    have HXD := Lib.hid hxd
    have HYD := Lib.hid hyd
    clear hxd hyd
    obtain ⟨K, hK⟩ : ∃ K, K = if (d - b) / e < x / y then (d - b) / e else x / y := ⟨_, rfl⟩
    rw [← hK]
    have z1 : 0 ≤ x / y := Int.ediv_nonneg (by omega) (by omega)
    have z2 : 0 ≤ (d - b) / e := Int.ediv_nonneg (by omega) (by omega)
    have z3 : x / y ≤ x := Int.ediv_le_self _ (by omega)
    have hk0 : 0 ≤ K := by rw [hK]; split <;> omega
    have hk1 : K ≤ x / y := by rw [hK]; split <;> omega
    have hk2 : K ≤ (d - b) / e := by rw [hK]; split <;> omega
    have hk3 : K = 0 → x < y ∨ d < b + e := fun h0 => by
      refine Decidable.or_iff_not_imp_right.2 fun hbe => Int.not_le.1 fun hle => ?_
      have q1 : 1 ≤ x / y := (Int.le_ediv_iff_mul_le (by omega)).2 (by omega)
      have q2 : 1 ≤ (d - b) / e := (Int.le_ediv_iff_mul_le (by omega)).2 (by omega)
      rw [hK] at h0
      split at h0 <;> omega
    have hin1 := HUP.out K hk0 hk1 hk2
    have hkb : K ≤ 1000000000 := by omega
    have HK3 := Lib.hid hk3
    clear hK hk1 hk2 z1 z2 z3 hk3 HUP m1 m1' m2 m2' m3 m3' m4 m4'
    obtain ⟨mk3, mk4⟩ := mul_bd2 (x := K) (y := c) (by omega) hkb p3 p4
    obtain ⟨mk5, mk6⟩ := mul_bd2 (x := K) (y := e) (by omega) hkb (by omega) (by omega)
    have kz : 0 ≤ K * e := Int.mul_nonneg hk0 (by omega)
    have hke : K = 0 ∨ 1 ≤ K * e := by
      rcases Int.lt_or_le 0 K with h | h
      · have : 1 * 1 ≤ K * e := Int.mul_le_mul (by omega) p10 (by omega) (by omega)
        exact .inr (by omega)
      · exact .inl (by omega)
    have HIN1 := Lib.hid hin1
    have hlow := hin1.bd
    have HN1 := Lib.hid ((HN.out.call (ext_drewN _ nq)).lo (a + K * c) (b + K * e))
    clear hin1
    go_upto_region 4 with (fail)
    have hN1 := HN1.out
    obtain ⟨a1, ha1⟩ : ∃ a1, a1 = a + K * c := ⟨_, rfl⟩
    obtain ⟨b1, hb1⟩ : ∃ b1, b1 = b + K * e := ⟨_, rfl⟩
    rw [← ha1, ← hb1] at hN1 HIN1
    rw [← hb1] at hlow
    simp only [← ha1, ← hb1]
    have HA1 := Lib.hid ha1
    have HB1 := Lib.hid hb1
    clear HN1 HN
    generalize World.setCell (World.setCell (World.drewN _ _) _ _) _ _ = w6 at *
    have HN6 := Lib.hid hN1
    clear r1 r2 r3 s1 s2 s3 t1 t2 t3 v1 v2 v3
    obtain ⟨_, c1, c2, c3, c4⟩ := hN1
    obtain ⟨r1, r2, r3⟩ := c1.facts
    obtain ⟨s1, s2, s3⟩ := c2.facts
    obtain ⟨t1, t2, t3⟩ := c3.facts
    obtain ⟨v1, v2, v3⟩ := c4.facts
    clear c1 c2 c3 c4
    have hbb : b ≤ b1 := by omega
    have hkb1 : K = 0 ∨ b + 1 ≤ b1 := by omega
    have hx0 : K = 0 → b1 * p - a1 * q = x := fun h => by
      rw [HA1.out, HB1.out, h, Int.zero_mul, Int.zero_mul, Int.add_zero, Int.add_zero]; exact HXD.out
    have HX0 := Lib.hid hx0
    clear ha1 hb1 mk3 mk4 mk5 mk6 kz hke hx0 p7 p5
    have i1 := HIN1.out
    obtain ⟨p1, p2⟩ := i1.lo_bd (M := 1000000000) hlt (by omega) (by omega)
    obtain ⟨p5, p6⟩ := i1.x_le
    have p7 := i1.x0
    rw [Int.mul_comm p b1] at p5 p7
    rw [Int.mul_comm p e] at p6
    obtain ⟨m1, m1'⟩ := mul_bd2 (x := b1) (y := p) (by omega) (by omega) (by omega) (by omega)
    obtain ⟨m2, m2'⟩ := mul_bd2 (x := a1) (y := q) p1 p2 (by omega) (by omega)
    obtain ⟨m3, m3'⟩ := mul_bd2 (x := c) (y := q) p3 p4 (by omega) (by omega)
    obtain ⟨m4, m4'⟩ := mul_bd2 (x := e) (y := p) (by omega) (by omega) (by omega) (by omega)
    have hdn := fun k hk h1 h2 => i1.down HG.out hlt (k := k) hk h1 h2
    rw [Int.mul_comm p b1, Int.mul_comm p e] at hdn
    have hyd' : c * q - e * p = y := HYD.out
    rw [← hyd'] at p8
    have HDN := Lib.hid hdn
    clear i1 hdn hyd'
    go_quiet (fail)
    go_upto_region 5 with (fail)
    have hyd' : c * q - e * p = y := HYD.out
    rw [hyd'] at HDN p6 p8
    simp only [hyd']
    clear hyd'
    generalize hx1 : b1 * p - a1 * q = x1 at *
    obtain ⟨L, hL⟩ : ∃ L, L = if (d - e) / b1 < y / x1 then (d - e) / b1 else y / x1 := ⟨_, rfl⟩
    rw [← hL]
    have z1 : 0 ≤ y / x1 := Int.ediv_nonneg (by omega) (by omega)
    have z2 : 0 ≤ (d - e) / b1 := Int.ediv_nonneg (by omega) (by omega)
    have z3 : y / x1 ≤ y := Int.ediv_le_self _ (by omega)
    have hl0 : 0 ≤ L := by rw [hL]; split <;> omega
    have hl1 : L ≤ y / x1 := by rw [hL]; split <;> omega
    have hl2 : L ≤ (d - e) / b1 := by rw [hL]; split <;> omega
    have hl3 : L = 0 → y < x1 ∨ d < b1 + e := fun h0 => by
      refine Decidable.or_iff_not_imp_right.2 fun hbe => Int.not_le.1 fun hle => ?_
      have q1 : 1 ≤ y / x1 := (Int.le_ediv_iff_mul_le (by omega)).2 (by omega)
      have q2 : 1 ≤ (d - e) / b1 := (Int.le_ediv_iff_mul_le (by omega)).2 (by omega)
      rw [hL] at h0
      split at h0 <;> omega
    have hin2 := HDN.out L hl0 hl1 hl2
    have hlb : L ≤ 1000000000 := by omega
    have hend : K = 0 → L = 0 → d < b + e := fun h0 h0' => by
      have e1 := HX0.out h0
      have e2 := HK3.out h0
      have e3 := hl3 h0'
      have e4 : b1 = b := by rw [HB1.out, h0, Int.zero_mul, Int.add_zero]
      omega
    have HEND := Lib.hid hend
    clear hL hl1 hl2 z1 z2 z3 hl3 hend HX0 HK3 HDN
    obtain ⟨ml3, ml4⟩ := mul_bd2 (x := L) (y := a1) (by omega) hlb p1 p2
    obtain ⟨ml5, ml6⟩ := mul_bd2 (x := L) (y := b1) (by omega) hlb (by omega) (by omega)
    have lz : 0 ≤ L * b1 := Int.mul_nonneg hl0 (by omega)
    have hle1 : L = 0 ∨ 1 ≤ L * b1 := by
      rcases Int.lt_or_le 0 L with h | h
      · have : 1 * 1 ≤ L * b1 := Int.mul_le_mul (by omega) (by omega) (by omega) (by omega)
        exact .inr (by omega)
      · exact .inl (by omega)
    have hbd1 := hin2.bd
    have hed1 := hin2.ed
    have HM := Lib.hid (show (K = 0 ∧ L = 0) ∨ (b + e < b1 + (e + L * b1) ∧ b1 + (e + L * b1) ≤ 2 * d) from by omega)
    have HIN2 := Lib.hid hin2
    have HN8 := Lib.hid ((HN6.out.call (ext_drewN _ nq)).hi (c + L * a1) (e + L * b1))
    clear hin2 hle1 hkb1 hbd1 m1 m1' m2 m2' m3 m3' m4 m4' p5 p6 p7 p8 hx1
    go_upto_region 6 with (fail)
    have hN8 := HN8.out
    obtain ⟨cc, hcc⟩ : ∃ cc, cc = c + L * a1 := ⟨_, rfl⟩
    obtain ⟨ee, hee⟩ : ∃ ee, ee = e + L * b1 := ⟨_, rfl⟩
    rw [← hcc, ← hee] at hN8 HIN2
    rw [← hee] at HM
    simp only [← hcc, ← hee]
    clear HN8 HN6
    obtain ⟨w8, hw8⟩ : ∃ w8, w8 = ((w6.drewN nq).setCell ⟨w.heap.size + 1 + 1 + 1, 0, none⟩ (.int .i64 cc)).setCell ⟨w.heap.size + 1 + 1 + 1, 1, none⟩ (.int .i64 ee) := ⟨_, rfl⟩
    rw [← hw8] at hN8
    rw [← hw8]
    clear hw8
    have HEE := Lib.hid (show e ≤ ee by omega)
    have HW8 := Lib.hid hN8
    clear r1 r2 r3 s1 s2 s3 t1 t2 t3 v1 v2 v3
    obtain ⟨_, c1, c2, c3, c4⟩ := hN8
    obtain ⟨r1, r2, r3⟩ := c1.facts
    obtain ⟨s1, s2, s3⟩ := c2.facts
    obtain ⟨t1, t2, t3⟩ := c3.facts
    obtain ⟨v1, v2, v3⟩ := c4.facts
    clear c1 c2 c3 c4 ml3 ml4 ml5 ml6 lz hed1 hcc hee hlb hkb p1 p2 p3 p4
    by_cases hK0 : K = 0
    · by_cases hL0 : L = 0
      · have hde : d < b1 + ee := by
          have h1 := HEND.out hK0 hL0
          have h2 := HB1.out
          have h3 := HEE.out
          rw [hK0, Int.zero_mul, Int.add_zero] at h2
          omega
        subst hK0 hL0
        go_upto_region 7 with (fail)
        go_region
        all_goals
          go_wp2
          refine bodyPost_ret (v := .tuple #[.agg #[.int .i64 a1, .int .i64 b1], .agg #[.int .i64 cc, .int .i64 ee]]) (by simp [results, Try.results100, go_sem, r1, s1]) rfl ?_
          exact ⟨a1, b1, cc, ee, rfl, HIN2.out, by omega, by repeat (first | exact HW8.out.1 | refine Below.drew ?_ | refine Below.setCell ?_ (by simp; try omega) _)⟩
      · go_wp2
        go_roundg (2 * d - (b1 + ee)).toNat
        case measure => have := HGK.out; have := HM.out; omega
        case rel => exact ⟨a1, b1, cc, ee, rfl, HIN2.out, HW8.out⟩
    · go_wp2
      go_roundg (2 * d - (b1 + ee)).toNat
      case measure => have := HGK.out; have := HM.out; omega
      case rel => exact ⟨a1, b1, cc, ee, rfl, HIN2.out, HW8.out⟩
end Go.Proofs.Ythkoblnfeebafaa
