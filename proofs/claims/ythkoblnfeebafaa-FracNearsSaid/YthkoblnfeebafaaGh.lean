/- Walks of frac's neighbours. Conditions: a valid fraction, a bound. -/
import Derived.Test.YthkoblnfeebafaaGa
import Derived.Test.YthkoblnfeebafaaFo
namespace Go.Proofs.Ythkoblnfeebafaa
open Go.RowKit

/-- a block of four cells -/
def C4 (T : TypeId) (w : World) (g : Nat) (x y z u : Value) : Prop := w.heap[g]? = some (.cells #[x, y, z, u] T (0, 0))
theorem C4.facts {T : TypeId} {w : World} {g : Nat} {x y z u : Value} (h : C4 T w g x y z u) : (∀ i, w.cell? ⟨g, i, none⟩ = #[x, y, z, u][i]?) ∧ (∀ i, w.frozen? ⟨g, i, none⟩ = false) ∧ g < w.heap.size :=
  ⟨fun i => cell_of_row w g i _ T (0, 0) h, fun i => frozen_of_row w g i _ T h, lt_of_block h⟩
theorem C4.ext {T : TypeId} {w w' : World} {g : Nat} {x y z u : Value} (h : C4 T w g x y z u) (hb : Below w.heap.size w w') : C4 T w' g x y z u := (hb.block g (lt_of_block h)).trans h
theorem C4.new {T : TypeId} (w : World) (x y z u : Value) : C4 T (w.alloc (.cells #[x, y, z, u] T)) w.heap.size x y z u := by simpa [C4] using heap_alloc_new w _
theorem C4.lo {T : TypeId} {w : World} {g : Nat} {a b c d : Value} (h : C4 T w g a b c d) (x y : Value) : C4 T ((w.setCell ⟨g, 0, none⟩ x).setCell ⟨g, 1, none⟩ y) g x y c d := by
  have h1 := heap_setCell_same w g 0 _ T x h
  exact heap_setCell_same _ g 1 _ T y h1
theorem C4.hi {T : TypeId} {w : World} {g : Nat} {a b c d : Value} (h : C4 T w g a b c d) (x y : Value) : C4 T ((w.setCell ⟨g, 2, none⟩ x).setCell ⟨g, 3, none⟩ y) g a b x y := by
  have h1 := heap_setCell_same w g 2 _ T x h
  exact heap_setCell_same _ g 3 _ T y h1
/-- two cells of another block are written -/
theorem Ce.far {T : TypeId} {w : World} {g k : Nat} {x y : Value} (h : Ce T w g x y) (hk : g ≠ k) (i j : Nat) (a b : Value) : Ce T ((w.setCell ⟨k, i, none⟩ a).setCell ⟨k, j, none⟩ b) g x y :=
  (heap_setCell_other _ _ g _ hk).trans ((heap_setCell_other _ _ g _ hk).trans h)
theorem below_far {B : Nat} {w0 w : World} {g : Nat} (h : Below B w0 w) (hB : B ≤ g) (i j : Nat) (x y : Value) : Below B w0 ((w.setCell ⟨g, i, none⟩ x).setCell ⟨g, j, none⟩ y) := (h.setCell hB _).setCell hB _

/-- the pair that neighbours returns -/
def Around (n D d a b c e : Int) : Prop := (D ≤ d ∧ a = n ∧ b = D ∧ c = n ∧ e = D) ∨ (d < D ∧ Nb.In n D d a b c e ∧ d < b + e)
def RetN (w : World) (n D d : Int) (x : Ending) (w' : World) : Prop := ∃ a b c e : Int, x = .returned (.tuple #[frv a b, frv c e]) ∧ Around n D d a b c e ∧ Below w.heap.size w w'

/-- what neighbours knows of its own blocks -/
def NBd (w : World) (n D : Int) (gw : Nat) (a b c e : Int) (wx : World) : Prop :=
  Below w.heap.size w wx ∧ Ce 23 wx w.heap.size (.int .i64 n) (.int .i64 D) ∧ Ce 23 wx (w.heap.size + 1) (.int .i64 0) (.int .i64 0) ∧ Ce 23 wx (w.heap.size + 1 + 1) (.int .i64 0) (.int .i64 0) ∧
    C4 96 wx gw (.int .i64 a) (.int .i64 b) (.int .i64 c) (.int .i64 e)
theorem NBd.call {w : World} {n D : Int} {gw : Nat} {a b c e : Int} {wx wy : World} (h : NBd w n D gw a b c e wx) (hb : Below wx.heap.size wx wy) : NBd w n D gw a b c e wy := by
  obtain ⟨h1, h2, h3, h4, h5⟩ := h
  exact ⟨bext h1 hb (Nat.le_of_lt h2.facts.2.2), h2.ext hb, h3.ext hb, h4.ext hb, h5.ext hb⟩
theorem NBd.lo {w : World} {n D : Int} {gw : Nat} {a b c e : Int} {wx : World} (h : NBd w n D gw a b c e wx) (hg : w.heap.size + 1 + 1 < gw) (x y : Int) :
    NBd w n D gw x y c e ((wx.setCell ⟨gw, 0, none⟩ (.int .i64 x)).setCell ⟨gw, 1, none⟩ (.int .i64 y)) := by
  obtain ⟨h1, h2, h3, h4, h5⟩ := h
  exact ⟨below_far h1 (by omega) _ _ _ _, h2.far (by omega) _ _ _ _, h3.far (by omega) _ _ _ _, h4.far (by omega) _ _ _ _, h5.lo _ _⟩
theorem NBd.hi {w : World} {n D : Int} {gw : Nat} {a b c e : Int} {wx : World} (h : NBd w n D gw a b c e wx) (hg : w.heap.size + 1 + 1 < gw) (x y : Int) :
    NBd w n D gw a b x y ((wx.setCell ⟨gw, 2, none⟩ (.int .i64 x)).setCell ⟨gw, 3, none⟩ (.int .i64 y)) := by
  obtain ⟨h1, h2, h3, h4, h5⟩ := h
  exact ⟨below_far h1 (by omega) _ _ _ _, h2.far (by omega) _ _ _ _, h3.far (by omega) _ _ _ _, h4.far (by omega) _ _ _ _, h5.hi _ _⟩

set_option maxRecDepth 100000 in
set_option maxHeartbeats 2000000 in
theorem neighbours_any (n D d : Int) (w : World) (h1 : -1000000000 ≤ n) (h2 : n ≤ 1000000000) (h3 : 1 ≤ D) (h4 : D ≤ 1000000000) (h5 : 1 ≤ d) (h6 : d ≤ 1000000000) (hg : Int.gcd n D = 1) :
    Calls Try.prog 90 #[frv n D, .int .i64 d] w (RetN w n D d) := by
  unfold frv
  by_cases hle : D ≤ d
  · have HA := Lib.hid (show Around n D d n D n D from .inl ⟨hle, rfl, rfl, rfl, rfl⟩)
    clear hg
    go_enter Try.func90, Try.ntmps90
    go_wp2
    go_region
    all_goals
      go_wp2
      refine bodyPost_ret (v := .tuple #[.agg #[.int .i64 n, .int .i64 D], .agg #[.int .i64 n, .int .i64 D]]) (by simp [results, Try.results90, go_sem]) rfl ?_
      exact ⟨n, D, n, D, rfl, HA.out, by repeat (first | exact Below.refl _ _ | refine Below.alloc ?_ (by simp; try omega) _ | refine bdrewN ?_ _ | refine Below.drew ?_ | refine Below.setCell ?_ (by simp; try omega) _)⟩
  · have hlt : d < D := by omega
    have hst := Nb.start hg h5 hlt
    obtain ⟨q1, q2⟩ := div_bd (n := n) (d := D) (B := 1000000000) h3 h1 h2 (by omega)
    have HFL := Lib.hid (fun W => floor_any n D W (by omega) (by omega) h3 (by omega))
    have HO := Lib.hid (fun W => of_ratio n D W)
    unfold frv at HO
    have HG := Lib.hid hg
    generalize n / D = q at *
    have HST := Lib.hid hst
    clear hg hst
    go_enter Try.func90, Try.ntmps90
    go_upto_region 5 with (first
      | (go_at_call 91; refine (HO.out _).mono ?_; rintro e w3 ⟨rfl, hx3⟩; obtain ⟨k1, k2, k3, k4, k5⟩ := three_cells hx3)
      | (go_at_call 96; refine (HFL.out _).mono ?_; rintro e w4 ⟨rfl, hx4⟩; have E4 := ext_trans hx3 hx4; obtain ⟨k1, k2, k3, k4, k5⟩ := three_cells E4))
    have hNB : NBd w n D w4.heap.size q 1 (q + 1) 1 (w4.alloc (.cells #[.int .i64 q, .int .i64 1, .int .i64 (q + 1), .int .i64 1] 96)) := by
      have x1 := (Below.refl w4.heap.size w4).alloc (Nat.le_refl _) (.cells #[.int .i64 q, .int .i64 1, .int .i64 (q + 1), .int .i64 1] 96)
      have p0 := (((Ce.new (T := 23) w (.int .i64 n) (.int .i64 D)).alloc (.cells #[.int .i64 0, .int .i64 0] 23)).alloc (.cells #[.int .i64 0, .int .i64 0] 23)).ext E4
      have p1 := ((Ce.new (T := 23) (w.alloc (.cells #[.int .i64 n, .int .i64 D] 23)) (.int .i64 0) (.int .i64 0)).alloc (.cells #[.int .i64 0, .int .i64 0] 23)).ext E4
      have p2 := (Ce.new (T := 23) ((w.alloc (.cells #[.int .i64 n, .int .i64 D] 23)).alloc (.cells #[.int .i64 0, .int .i64 0] 23)) (.int .i64 0) (.int .i64 0)).ext E4
      rw [show (w.alloc (.cells #[.int .i64 n, .int .i64 D] 23)).heap.size = w.heap.size + 1 by simp] at p1
      rw [show ((w.alloc (.cells #[.int .i64 n, .int .i64 D] 23)).alloc (.cells #[.int .i64 0, .int .i64 0] 23)).heap.size = w.heap.size + 1 + 1 by simp] at p2
      have B0 : Below w.heap.size w (((w.alloc (.cells #[.int .i64 n, .int .i64 D] 23)).alloc (.cells #[.int .i64 0, .int .i64 0] 23)).alloc (.cells #[.int .i64 0, .int .i64 0] 23)) := (((Below.refl _ _).alloc (Nat.le_refl _) _).alloc (by simp) _).alloc (by simp; omega) _
      exact ⟨ext_trans (ext_trans B0 E4) x1, p0.ext x1, p1.ext x1, p2.ext x1, C4.new _ _ _ _ _⟩
    have hgw : w.heap.size + 1 + 1 < w4.heap.size := k5
    generalize w4.alloc (.cells #[.int .i64 q, .int .i64 1, .int .i64 (q + 1), .int .i64 1] 96) = wl at *
    generalize w4.heap.size = gw at *
    clear k1 k2 k3 k4 k5 hx3 hx4 E4
    have HNB := Lib.hid hNB
    clear hNB
    go_loopg [9, 10, 11] (2 * d - 2).toNat (fun g _ _ _ wr => ∃ a b c e : Int, g = (2 * d - (b + e)).toNat ∧ Nb.In n D d a b c e ∧ NBd w n D gw a b c e wr)
    case atStart => exact ⟨q, 1, q + 1, 1, rfl, HST.out, HNB.out⟩
    case round =>
      obtain ⟨a, b, c, e, hgk, hin, hnb⟩ := hrel
      have HGK := Lib.hid hgk
      have HIN := Lib.hid hin
      have HN := Lib.hid hnb
      obtain ⟨p1, p2⟩ := hin.lo_bd hlt h1 h2
      obtain ⟨p3, p4⟩ := hin.hi_bd hlt h1 h2
      obtain ⟨p5, p6⟩ := hin.x_le
      have p7 := hin.x0
      have p8 := hin.y0
      have p9 := hin.b1
      have p10 := hin.e1
      have p11 := hin.bd
      have p12 := hin.ed
      obtain ⟨_, c1, c2, c3, c4⟩ := hnb
      obtain ⟨r1, r2, r3⟩ := c1.facts
      obtain ⟨s1, s2, s3⟩ := c2.facts
      obtain ⟨t1, t2, t3⟩ := c3.facts
      obtain ⟨v1, v2, v3⟩ := c4.facts
      by_cases hbe : b + e ≤ d
      · have m1 := mul_bd2 (x := n) (y := b) h1 h2 (by omega) (by omega)
        have m2 := mul_bd2 (x := a) (y := D) p1 p2 (by omega) (by omega)
        have m3 := mul_bd2 (x := c) (y := D) p3 p4 (by omega) (by omega)
        have m4 := mul_bd2 (x := n) (y := e) h1 h2 (by omega) (by omega)
        have HOFF := Lib.hid (fun W => off_any n D a b c e W m1.1 m1.2 (by omega) (by omega) (by omega) (by omega) m4.1 m4.2)
        have hup := fun k hk h1 h2 => hin.up HG.out hlt (k := k) hk h1 h2
        have HUP := Lib.hid hup
        unfold frv at HOFF
        generalize hxd : n * b - a * D = x at *
        generalize hyd : c * D - n * e = y at *
        have HXD := Lib.hid hxd
        have HYD := Lib.hid hyd
        clear m1 m2 m3 m4 hgk hin c1 c2 c3 c4 hup hxd hyd
        go_upto_region 7 with (go_at_call 98; refine (HOFF.out _).mono ?_; rintro e1 w5 ⟨rfl, hx5⟩; have hnb := HN.out.call hx5; obtain ⟨_, c1, c2, c3, c4⟩ := hnb; obtain ⟨r1, r2, r3⟩ := c1.facts; obtain ⟨s1, s2, s3⟩ := c2.facts; obtain ⟨t1, t2, t3⟩ := c3.facts; obtain ⟨v1, v2, v3⟩ := c4.facts; clear c1 c2 c3 c4)
        go_region
        go_upto_region 8 with (fail)
        obtain ⟨K, hK⟩ : ∃ K, K = if (d - b) / e < x / y then (d - b) / e else x / y := ⟨_, rfl⟩
        rw [← hK]
        have z1 : 0 ≤ x / y := Int.ediv_nonneg (by omega) (by omega)
        have z2 : 0 ≤ (d - b) / e := Int.ediv_nonneg (by omega) (by omega)
        have z3 : x / y ≤ x := Int.ediv_le_self _ (by omega)
        have hk0 : 0 ≤ K := by rw [hK]; split <;> omega
        have hk1 : K ≤ x / y := by rw [hK]; split <;> omega
        have hk2 : K ≤ (d - b) / e := by rw [hK]; split <;> omega
        have hk3 : K = 0 → x < y := fun h0 => by
          refine Int.not_le.1 fun hle => ?_
          have q1 : 1 ≤ x / y := (Int.le_ediv_iff_mul_le (by omega)).2 (by omega)
          have q2 : 1 ≤ (d - b) / e := (Int.le_ediv_iff_mul_le (by omega)).2 (by omega)
          rw [hK] at h0
          split at h0 <;> omega
        have hin1 := HUP.out K hk0 hk1 hk2
        have hkb : K ≤ 1000000000 := by omega
        have HK3 := Lib.hid hk3
        clear hK hk1 hk2 z1 z2 z3 hk3 HUP
        have mk1 := mul_bd2 (x := K) (y := c) (by omega) hkb p3 p4
        have mk2 := mul_bd2 (x := K) (y := e) (by omega) hkb (by omega) (by omega)
        have kz : 0 ≤ K * e := Int.mul_nonneg hk0 (by omega)
        have hke : K = 0 ∨ 1 ≤ K * e := by
          rcases Int.lt_or_le 0 K with h | h
          · have : 1 * 1 ≤ K * e := Int.mul_le_mul (by omega) p10 (by omega) (by omega)
            exact .inr (by omega)
          · exact .inl (by omega)
        obtain ⟨mk3, mk4⟩ := mk1
        obtain ⟨mk5, mk6⟩ := mk2
        have HX5 := Lib.hid hx5
        have HN5 := Lib.hid (HN.out.call hx5)
        clear hx5
        have HIN1 := Lib.hid hin1
        have hlow := hin1.bd
        have hN1 := (HN5.out.lo hgw (a + K * c) (b + K * e)).call (ext_drew _)
        have HN1 := Lib.hid hN1
        clear hin1 hN1
        go_upto_region 9 with (fail)
        have hN1 := HN1.out
        obtain ⟨a1, ha1⟩ : ∃ a1, a1 = a + K * c := ⟨_, rfl⟩
        obtain ⟨b1, hb1⟩ : ∃ b1, b1 = b + K * e := ⟨_, rfl⟩
        rw [← ha1, ← hb1] at hN1 HIN1
        rw [← hb1] at hlow
        simp only [← ha1, ← hb1]
        have HA1 := Lib.hid ha1
        have HB1 := Lib.hid hb1
        clear HN1 HN5
        generalize World.drew _ = w6 at *
        have HN6 := Lib.hid hN1
        clear r1 r2 r3 s1 s2 s3 t1 t2 t3 v1 v2 v3
        obtain ⟨_, c1, c2, c3, c4⟩ := hN1
        obtain ⟨r1, r2, r3⟩ := c1.facts
        obtain ⟨s1, s2, s3⟩ := c2.facts
        obtain ⟨t1, t2, t3⟩ := c3.facts
        obtain ⟨v1, v2, v3⟩ := c4.facts
        clear c1 c2 c3 c4
        have hbb : b ≤ b1 := by omega
        have hkb1 : K = 0 ∨ b + 1 ≤ b1 := by omega
        clear ha1 hb1
        by_cases hbe1 : d < b1 + e
        · clear mk3 mk4 mk5 mk6 kz hke
          go_upto_region 13 with (fail)
          go_region
          all_goals
            go_wp2
            refine bodyPost_ret (v := .tuple #[.agg #[.int .i64 a1, .int .i64 b1], .agg #[.int .i64 c, .int .i64 e]]) (by simp [results, Try.results90, go_sem, s1, t1]) rfl ?_
            exact ⟨a1, b1, c, e, rfl, .inr ⟨hlt, HIN1.out, by omega⟩, by repeat (first | exact HN6.out.1 | refine Below.drew ?_ | refine Below.setCell ?_ (by simp; try omega) _)⟩
        · have i1 := HIN1.out
          obtain ⟨p1, p2⟩ := i1.lo_bd hlt h1 h2
          obtain ⟨p5, p6⟩ := i1.x_le
          have p7 := i1.x0
          have m1 := mul_bd2 (x := n) (y := b1) h1 h2 (by omega) (by omega)
          have m2 := mul_bd2 (x := a1) (y := D) p1 p2 (by omega) (by omega)
          have m3 := mul_bd2 (x := c) (y := D) p3 p4 (by omega) (by omega)
          have m4 := mul_bd2 (x := n) (y := e) h1 h2 (by omega) (by omega)
          have HOFF2 := Lib.hid (fun W => off_any n D a1 b1 c e W m1.1 m1.2 (by omega) (by omega) (by omega) (by omega) m4.1 m4.2)
          have hdn := fun k hk h1 h2 => i1.down HG.out hlt (k := k) hk h1 h2
          have hx0 : K = 0 → n * b1 - a1 * D = x := fun h => by
            rw [HA1.out, HB1.out, h, Int.zero_mul, Int.zero_mul, Int.add_zero, Int.add_zero]; exact HXD.out
          have hyd' : c * D - n * e = y := HYD.out
          rw [hyd'] at HOFF2 hdn p6
          generalize n * b1 - a1 * D = x1 at *
          have HDN := Lib.hid hdn
          have HX0 := Lib.hid hx0
          unfold frv at HOFF2
          clear m1 m2 m3 m4 i1 hdn hx0 mk3 mk4 mk5 mk6 hyd'
          have HX0c := HK3.out
          go_upto_region 11 with (go_at_call 98; refine (HOFF2.out _).mono ?_; rintro e1 w7 ⟨rfl, hx7⟩; have hnb := HN6.out.call hx7; have HN7 := Lib.hid hnb; obtain ⟨_, c1, c2, c3, c4⟩ := hnb; obtain ⟨r1, r2, r3⟩ := c1.facts; obtain ⟨s1, s2, s3⟩ := c2.facts; obtain ⟨t1, t2, t3⟩ := c3.facts; obtain ⟨v1, v2, v3⟩ := c4.facts; clear c1 c2 c3 c4)
          clear HX0c
          go_region
          go_upto_region 12 with (fail)
          obtain ⟨L, hL⟩ : ∃ L, L = if (d - e) / b1 < (y - 1) / x1 then (d - e) / b1 else (y - 1) / x1 := ⟨_, rfl⟩
          rw [← hL]
          have z1 : 0 ≤ (y - 1) / x1 := Int.ediv_nonneg (by omega) (by omega)
          have z2 : 0 ≤ (d - e) / b1 := Int.ediv_nonneg (by omega) (by omega)
          have z3 : (y - 1) / x1 ≤ y - 1 := Int.ediv_le_self _ (by omega)
          have hl0 : 0 ≤ L := by rw [hL]; split <;> omega
          have hl1 : L ≤ (y - 1) / x1 := by rw [hL]; split <;> omega
          have hl2 : L ≤ (d - e) / b1 := by rw [hL]; split <;> omega
          have hl3 : K = 0 → 1 ≤ L := fun h0 => by
            have hx := HX0.out h0
            have hxy := HK3.out h0
            have q1 : 1 ≤ (y - 1) / x1 := (Int.le_ediv_iff_mul_le (by omega)).2 (by omega)
            have q2 : 1 ≤ (d - e) / b1 := (Int.le_ediv_iff_mul_le (by omega)).2 (by omega)
            rw [hL]; split <;> omega
          have hin2 := HDN.out L hl0 (Nb.pred_div (by omega) hl1) hl2
          have hlb : L ≤ 1000000000 := by omega
          clear hL hl1 hl2 z1 z2 z3
          have ml1 := mul_bd2 (x := L) (y := a1) (by omega) hlb p1 p2
          have ml2 := mul_bd2 (x := L) (y := b1) (by omega) hlb (by omega) (by omega)
          have lz : 0 ≤ L * b1 := Int.mul_nonneg hl0 (by omega)
          have hle1 : L = 0 ∨ 1 ≤ L * b1 := by
            rcases Int.lt_or_le 0 L with h | h
            · have : 1 * 1 ≤ L * b1 := Int.mul_le_mul (by omega) (by omega) (by omega) (by omega)
              exact .inr (by omega)
            · exact .inl (by omega)
          obtain ⟨ml3, ml4⟩ := ml1
          obtain ⟨ml5, ml6⟩ := ml2
          have hbd1 := hin2.bd
          have hed1 := hin2.ed
          have hmeas : b + e < b1 + (e + L * b1) := by omega
          have HM := Lib.hid (show b + e < b1 + (e + L * b1) ∧ b1 + (e + L * b1) ≤ 2 * d from ⟨hmeas, by omega⟩)
          have HIN2 := Lib.hid hin2
          have HN8 := Lib.hid ((HN7.out.hi hgw (c + L * a1) (e + L * b1)).call (ext_drew _))
          clear hl3 hin2 hmeas hle1 hkb1 hbd1 HX0 HK3 HDN hx7
          go_wp2
          go_roundg (2 * d - (b1 + (e + L * b1))).toNat
          case measure => have := HGK.out; have := HM.out; omega
          case rel => exact ⟨a1, b1, c + L * a1, e + L * b1, rfl, HIN2.out, HN8.out⟩
      · clear c1 c2 c3 c4 hgk hin
        go_upto_region 13 with (fail)
        go_region
        all_goals
          go_wp2
          refine bodyPost_ret (v := .tuple #[.agg #[.int .i64 a, .int .i64 b], .agg #[.int .i64 c, .int .i64 e]]) (by simp [results, Try.results90, go_sem, s1, t1]) rfl ?_
          exact ⟨a, b, c, e, rfl, .inr ⟨hlt, HIN.out, by omega⟩, by repeat (first | exact HN.out.1 | refine Below.drew ?_ | refine Below.setCell ?_ (by simp; try omega) _)⟩
end Go.Proofs.Ythkoblnfeebafaa
