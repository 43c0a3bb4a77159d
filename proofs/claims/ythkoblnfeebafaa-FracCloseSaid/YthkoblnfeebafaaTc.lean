/- A block of three cells that holds a rational, carried over calls, new blocks and stores. -/
import Derived.Test.YthkoblnfeebafaaTb
import Derived.Outline
namespace Go.Proofs.Ythkoblnfeebafaa
open Go.RowKit

/-- block g of the world holds the three values -/
def C3 (T : TypeId) (w : World) (g : Nat) (x y z : Value) : Prop := w.heap[g]? = some (.cells #[x, y, z] T (0, 0))
theorem C3.facts {T : TypeId} {w : World} {g : Nat} {x y z : Value} (h : C3 T w g x y z) : (∀ i, w.cell? ⟨g, i, none⟩ = #[x, y, z][i]?) ∧ (∀ i, w.frozen? ⟨g, i, none⟩ = false) ∧ g < w.heap.size :=
  ⟨fun i => cell_of_row w g i _ T (0, 0) h, fun i => frozen_of_row w g i _ T h, lt_of_block h⟩
theorem C3.ext {T : TypeId} {w w' : World} {g : Nat} {x y z : Value} (h : C3 T w g x y z) (hb : Below w.heap.size w w') : C3 T w' g x y z := (hb.block g (lt_of_block h)).trans h
theorem C3.drew {T : TypeId} {w : World} {g : Nat} {x y z : Value} (h : C3 T w g x y z) : C3 T w.drew g x y z := h
theorem C3.typ {T : TypeId} {w : World} {g : Nat} {x y z : Value} (h : C3 T w g x y z) : Typ w g T := ⟨_, h⟩
theorem C3.res {T : TypeId} {w : World} {g : Nat} {x y z : Value} (h : C3 T w g x y z) : Res3 T w g := ⟨x, y, z, h⟩
theorem C3.alloc {T : TypeId} {w : World} {g : Nat} {x y z : Value} (h : C3 T w g x y z) (o : Obj) : C3 T (w.alloc o) g x y z := h.ext ((Below.refl _ _).alloc (Nat.le_refl _) _)
theorem C3.new {T : TypeId} (w : World) (x y z : Value) : C3 T (w.alloc (.cells #[x, y, z] T)) w.heap.size x y z := by simpa [C3] using heap_alloc_new w _
theorem C3.set3 {T : TypeId} {w : World} {g : Nat} {a b c : Value} (h : C3 T w g a b c) (x y z : Value) : C3 T (((w.setCell ⟨g, 0, none⟩ x).setCell ⟨g, 1, none⟩ y).setCell ⟨g, 2, none⟩ z) g x y z := by
  have h1 := heap_setCell_same w g 0 _ T x h
  have h2 := heap_setCell_same _ g 1 _ T y h1
  exact heap_setCell_same _ g 2 _ T z h2
theorem C3.set_ne {T : TypeId} {w : World} {g k : Nat} {x y z : Value} (h : C3 T w g x y z) (hk : g ≠ k) (a b c : Value) : C3 T (((w.setCell ⟨k, 0, none⟩ a).setCell ⟨k, 1, none⟩ b).setCell ⟨k, 2, none⟩ c) g x y z :=
  (heap_setCell_other _ _ g _ hk).trans ((heap_setCell_other _ _ g _ hk).trans ((heap_setCell_other _ _ g _ hk).trans h))
theorem C3.set2_ne {T : TypeId} {w : World} {g k : Nat} {x y z : Value} (h : C3 T w g x y z) (hk : g ≠ k) (a b : Value) : C3 T ((w.setCell ⟨k, 0, none⟩ a).setCell ⟨k, 1, none⟩ b) g x y z :=
  (heap_setCell_other _ _ g _ hk).trans ((heap_setCell_other _ _ g _ hk).trans h)
theorem Ce.set3_ne {T : TypeId} {w : World} {g k : Nat} {x y : Value} (h : Ce T w g x y) (hk : g ≠ k) (a b c : Value) : Ce T (((w.setCell ⟨k, 0, none⟩ a).setCell ⟨k, 1, none⟩ b).setCell ⟨k, 2, none⟩ c) g x y :=
  (heap_setCell_other _ _ g _ hk).trans ((heap_setCell_other _ _ g _ hk).trans ((heap_setCell_other _ _ g _ hk).trans h))
theorem inv_ok {q : Rat} (h : 0 < q) (hq : QOk q) : QOk (((1 : Int) : Rat) / q) := by
  have hn := rat_num_pos h
  have e : ((1 : Int) : Rat) / q = mkRat q.den q.num.natAbs := by
    have h1 := Q.div_mk ((1 : Int) : Rat) q
    rw [h1, Rat.num_intCast, Rat.den_intCast]
    unfold Q.mk
    have : decide (q.num < 0) = false := decide_eq_false (by omega)
    rw [this]
    simp
  obtain ⟨m1, m2⟩ := mkRat_le q.den q.num.natAbs (by omega)
  rw [← e] at m1 m2
  rw [Int.natAbs_natCast] at m1
  exact ⟨Nat.le_trans (Num.len_mono m1) hq.2, Nat.le_trans (Num.len_mono m2) hq.1⟩
/-- what the loop's region keeps -/
def FS (w : World) (ga : Nat) (w' : World) : Prop := Below w.heap.size w w' ∧ Ce 23 w' w.heap.size (.int .i64 0) (.int .i64 0) ∧ Res3 44 w' ga
theorem FS.call {w wx w1 : World} {ga : Nat} (h : FS w ga wx) (hb : Below wx.heap.size wx w1) : FS w ga w1 := ⟨bext h.1 hb (Nat.le_of_lt h.2.1.facts.2.2), h.2.1.ext hb, h.2.2.ext hb⟩
theorem FS.drew {w wx : World} {ga : Nat} (h : FS w ga wx) : FS w ga wx.drew := h.call (ext_drew _)
theorem FS.store {w wx : World} {ga : Nat} (h : FS w ga wx) (hg : w.heap.size < ga) (x y z : Value) : FS w ga (((wx.setCell ⟨ga, 0, none⟩ x).setCell ⟨ga, 1, none⟩ y).setCell ⟨ga, 2, none⟩ z) :=
  ⟨below3 h.1 (Nat.le_of_lt hg) _ _ _, h.2.1.set3_ne (Nat.ne_of_lt hg) _ _ _, h.2.2.set3 _ _ _⟩
theorem QAt.drew {w : World} {v : Value} {q : Rat} (h : QAt w v q) : QAt w.drew v q := h.ext (ext_drew _)

set_option maxRecDepth 100000 in
set_option maxHeartbeats 2000000 in
theorem rfromterms_any (A : Option Addr) (cap : Nat) (l : List Int) (w : World) (hl : l.length ≤ cap) (_hcap : cap ≤ 9223372036854775807) (h : ISl w A l) (hi : ∀ x ∈ l, IsI x) :
    Calls Try.prog 31 #[.slice A l.length cap] w (RetA w (rtA l)) := by
  have HI := Lib.hid hi
  have H := Lib.hid h
  clear h
  by_cases h64 : 64 < l.length
  · rw [rtA_long h64]
    clear hi
    go_enter Try.func31, Try.ntmps31
    go_wp2
    refine bodyPost_ret (v := .tuple #[.agg #[.int .i64 0, .int .i64 0], .int .i64 3]) (by simp [results, Try.results31, go_sem]) rfl ?_
    exact ⟨rfl, (Below.refl _ _).alloc (Nat.le_refl _) _⟩
  have HBD := Lib.hid (rtA_bad h64)
  have HOK := Lib.hid (rtA_ok h64)
  generalize rtA l = res at *
  by_cases h0 : l = []
  · subst h0
    rw [HBD.out (.inr rfl)]
    clear hi
    go_enter Try.func31, Try.ntmps31
    go_wp2
    refine bodyPost_ret (v := .tuple #[.agg #[.int .i64 0, .int .i64 0], .int .i64 2]) (by simp [results, Try.results31, go_sem]) rfl ?_
    exact ⟨rfl, (Below.refl _ _).alloc (Nat.le_refl _) _⟩
  have HOKV := Lib.hid (fun (hb : ¬ Bad l) m hm => val_ok hb hi (by omega) (m := m) hm)
  obtain ⟨n, hn⟩ : ∃ n, l.length = n + 1 := ⟨l.length - 1, by have := List.length_pos_iff.2 h0; omega⟩
  have HN := Lib.hid hn
  have hf := H.out
  rcases hf with hf | ⟨b, off, rfl, hblt, hc⟩
  · exact absurd hf h0
  have HCL := Lib.hid hc
  have hlast := hc n (by omega)
  have ilast := hi l[n] (List.getElem_mem _)
  have hz : ∃ z, (∃ h : n < l.length, l[n] = z) ∧ w.cell? ⟨b, off + n, none⟩ = some (.int .i64 z) ∧ IsI z := ⟨l[n], ⟨by omega, rfl⟩, hlast, ilast⟩
  clear hlast ilast
  obtain ⟨z, hz, hlast, ilast⟩ := hz
  rw [hn]
  have HZ := Lib.hid hz
  have HIL := Lib.hid ilast
  have HL0 := Lib.hid h0
  rw [hn] at hl h64
  clear hn hc hi hz ilast h0
  obtain ⟨wl, hwl⟩ : ∃ wl, wl = w.alloc (.cells #[.int .i64 0, .int .i64 0] 23) := ⟨_, rfl⟩
  have R0 : Ce 23 wl w.heap.size (.int .i64 0) (.int .i64 0) := by rw [hwl]; exact Ce.new _ _ _
  have B0 : Below w.heap.size w wl := by rw [hwl]; exact (Below.refl _ _).alloc (Nat.le_refl _) _
  have hlast1 : ∀ x, (w.alloc x).cell? ⟨b, off + n, none⟩ = some (.int .i64 z) := fun x => ((((Below.refl _ _).alloc (Nat.le_refl _) x) : Below w.heap.size w (w.alloc x)).cell (p := ⟨b, off + n, none⟩) hblt).trans hlast
  obtain ⟨r1, r2, r3⟩ := R0.facts
  have HB0 := Lib.hid B0
  have HR0 := Lib.hid R0
  have HWL := Lib.hid hwl
  have HLAST := Lib.hid hlast1
  have g1 : (0 : Int) < (n : Int) + 1 := by omega
  clear hwl B0 R0 hlast
  by_cases hb1 : 0 < n ∧ z = 1
  · obtain ⟨hn0, rfl⟩ := hb1
    rw [HBD.out (.inl ⟨n, by have := HN.out; omega, hn0,   .inr ⟨HZ.out.2, by have := HN.out; omega⟩⟩)]
    go_enter Try.func31, Try.ntmps31
    go_wp2
    · refine bodyPost_ret (v := .tuple #[.agg #[.int .i64 0, .int .i64 0], .int .i64 2]) (by simp [results, Try.results31, go_sem]) rfl ?_
      exact ⟨rfl, (Below.refl _ _).alloc (Nat.le_refl _) _⟩
  · rcases Nat.eq_zero_or_pos n with hn0 | hn0
    · subst hn0
      have hnb : ¬ Bad l := by
        rintro ⟨j, h1, h2, h3⟩
        have := HN.out
        omega
      have hres := HOK.out (by rintro (h | h); exact hnb h; exact HL0.out h)
      have hval : Cf.val l = ((z : Int) : Rat) := by
        have h1 := val_last (l := l) (m := 0) (by have := HN.out; omega)
        rw [List.drop_zero] at h1
        rw [h1, HZ.out.2]
      rw [hval] at hres
      rw [hres]
      have hint := fun W => int_any z W HIL.out.1 HIL.out.2
      have hans := fun v W (x : QAt W v (z : Rat)) => answer_any v _ W x
      have HINT := Lib.hid hint
      have HANS := Lib.hid hans
      clear hnb hint hans hres hval
      generalize ans (z : Rat) = a at *
      unfold RetA frv at HANS
      clear hb1 g1
      go_enter Try.func31, Try.ntmps31
      go_upto_region 6 with (fail)
      all_goals
        rw [← HWL.out]
        clear hlast1
        go_loopg [33] 0 (fun g i wr => i = .int .i64 0 ∧ wr = wl)
        case atStart => exact ⟨rfl, rfl⟩
        case round =>
          obtain ⟨rfl, rfl⟩ := hrel
          have hle : wr.cell? ⟨b, off, none⟩ = some (.int .i64 z) := (HB0.out.cell (p := ⟨b, off, none⟩) hblt).trans (by rw [← HZ.out.2]; exact HCL.out 0 HZ.out.1)
          go_wp2_with (go_at_call 80; refine (HINT.out _).mono ?_; rintro e w3 ⟨v3, rfl, hq3, hx3⟩; obtain ⟨s3, A3, n3, c3, B3, m3, d3, rfl⟩ := q_form hq3; have R3 := HR0.out.ext hx3; have B3' := ext_trans HB0.out hx3)
          have C4 := C3.new (T := 44) w3 (.bool s3) (.slice A3 n3 c3) (.slice B3 m3 d3)
          have R4 := R3.alloc (.cells #[.bool s3, .slice A3 n3 c3, .slice B3 m3 d3] 44)
          have Q4 := hq3.ext ((Below.refl _ _).alloc (Nat.le_refl _) (.cells #[.bool s3, .slice A3 n3 c3, .slice B3 m3 d3] 44))
          have B4 := ext_trans B3' ((Below.refl _ _).alloc (Nat.le_refl _) (.cells #[.bool s3, .slice A3 n3 c3, .slice B3 m3 d3] 44))
          generalize w3.alloc _ = w4 at *
          generalize w3.heap.size = ga at *
          have HR4 := Lib.hid R4
          have HC4 := Lib.hid C4
          have HQ4 := Lib.hid Q4
          have HB4 := Lib.hid B4
          clear R4 C4 Q4 B4 R3 hq3 hx3 B3' r1 r2 r3 hle
          obtain ⟨r1, r2, r3⟩ := HR4.out.facts
          obtain ⟨s1, s2, s4⟩ := HC4.out.facts
          go_loopg [7] 0 (fun g i wr => i = .int .i64 (-1) ∧ wr = w4)
          case atStart => exact ⟨rfl, rfl⟩
          case round =>
            obtain ⟨rfl, rfl⟩ := hrel
            go_wp2_with (go_at_call 79; refine (HANS.out _ _ HQ4.out).mono ?_; rintro e w5 ⟨rfl, hx5⟩; have R5 := HR4.out.ext hx5; obtain ⟨k1, k2, k3⟩ := R5.facts; have B5 := ext_trans HB4.out hx5)
            refine bodyPost_ret (v := .tuple #[.agg #[.int .i64 a.1, .int .i64 a.2.1], .int .i64 a.2.2]) (by simp [results, Try.results31, go_sem, k1]) rfl ?_
            exact ⟨rfl, below2 B5 (Nat.le_refl _) _ _⟩
    · have hzz : z ≠ 1 := fun h1 => hb1 ⟨hn0, h1⟩
      have e1 : ((n : Int) + 1 == 0) = false := by simp; omega
      have e2 : (1 : Int) < (n : Int) + 1 := by omega
      have e3 : (z == 1) = false := by simpa using hzz
      have HZ1 := Lib.hid hzz
      clear hb1 hzz
      go_enter Try.func31, Try.ntmps31
      go_upto_region 6 with (fail)
      rw [← HWL.out]
      clear hlast1 e1 e3
      go_loopg [5, 33] n (fun g _ i wr => ∃ k : Nat, i = .int .i64 k ∧ k ≤ n ∧ g = n - k ∧ (∀ j, j ≤ k → 0 < j → ∃ h : j < l.length, 1 ≤ l[j]) ∧ wr = wl)
      case atStart => exact ⟨0, rfl, by omega, by omega, fun j h h0 => absurd h (by omega), rfl⟩
      case round =>
        obtain ⟨k, rfl, hk, hg, hall, rfl⟩ := hrel
        have HG := Lib.hid hg
        have HALL := Lib.hid hall
        clear hg hall
        by_cases hlt : k < n
        · have c1 := (HB0.out.cell (p := ⟨b, off + (k + 1), none⟩) hblt).trans (HCL.out (k + 1) (by have := HN.out; omega))
          have hy : ∃ y, (∃ h : k + 1 < l.length, l[k + 1] = y) ∧ wr.cell? ⟨b, off + 1 + k, none⟩ = some (.int .i64 y) :=
            ⟨_, ⟨by have := HN.out; omega, rfl⟩, by rw [show off + 1 + k = off + (k + 1) by omega]; exact c1⟩
          clear c1
          obtain ⟨y, hy, c1⟩ := hy
          have HY := Lib.hid hy
          clear hy
          by_cases hy1 : y < 1
          · go_wp2
            refine bodyPost_ret (v := .tuple #[.agg #[.int .i64 0, .int .i64 0], .int .i64 2]) (by simp [results, Try.results31, go_sem, r1]) rfl ?_
            rw [HBD.out (.inl ⟨k + 1, HY.out.1, by omega, .inl (by have := HY.out.2; omega)⟩)]
            exact ⟨rfl, below2 HB0.out (Nat.le_refl _) _ _⟩
          · go_wp2
            go_roundg (n - (k + 1))
            case measure => have := HG.out; omega
            case rel =>
              refine ⟨k + 1, by go_num, by omega, rfl, fun j hj hj0 => ?_, rfl⟩
              by_cases hjk : j = k + 1
              · subst hjk
                exact ⟨HY.out.1, by have := HY.out.2; omega⟩
              · exact HALL.out j (by omega) hj0
        · obtain rfl : k = n := by omega
          have hnb : ¬ Bad l := by
            rintro ⟨j, h1, h2, h3⟩
            obtain ⟨h4, h5⟩ := HALL.out j (by have := HN.out; omega) h2
            rcases h3 with h3 | ⟨h3, h6⟩
            · omega
            · have h7 := HN.out
              obtain rfl : j = k := by omega
              have h8 := HZ.out.2
              exact HZ1.out (by rw [← h8, h3])
          have hres := HOK.out (by rintro (h | h); exact hnb h; exact HL0.out h)
          have HNB := Lib.hid hnb
          have HRES := Lib.hid hres
          have hle : wr.cell? ⟨b, off + k, none⟩ = some (.int .i64 z) := (HB0.out.cell (p := ⟨b, off + k, none⟩) hblt).trans (by rw [← HZ.out.2]; exact HCL.out k HZ.out.1)
          have hint := fun W => int_any z W HIL.out.1 HIL.out.2
          have HINT := Lib.hid hint
          clear hnb hint hres
          go_wp2_with (go_at_call 80; refine (HINT.out _).mono ?_; rintro e w3 ⟨v3, rfl, hq3, hx3⟩; obtain ⟨s3, A3, n3, c3, B3, m3, d3, rfl⟩ := q_form hq3; have R3 := HR0.out.ext hx3; have B3' := ext_trans HB0.out hx3)
          have C4 := C3.new (T := 44) w3 (.bool s3) (.slice A3 n3 c3) (.slice B3 m3 d3)
          have R4 := R3.alloc (.cells #[.bool s3, .slice A3 n3 c3, .slice B3 m3 d3] 44)
          have Q4 := hq3.ext ((Below.refl _ _).alloc (Nat.le_refl _) (.cells #[.bool s3, .slice A3 n3 c3, .slice B3 m3 d3] 44))
          have B4 := ext_trans B3' ((Below.refl _ _).alloc (Nat.le_refl _) (.cells #[.bool s3, .slice A3 n3 c3, .slice B3 m3 d3] 44))
          have hga : w.heap.size < w3.heap.size := by have := hx3.size; omega
          generalize w3.alloc _ = w4 at *
          generalize w3.heap.size = ga at *
          have hv : Cf.val (l.drop k) = (z : Rat) := by
            rw [val_last (by have := HN.out; omega), HZ.out.2]
          rw [← hv] at Q4
          have HR4 := Lib.hid R4
          have HC4 := Lib.hid C4
          have HQ4 := Lib.hid Q4
          have HB4 := Lib.hid B4
          clear R4 C4 Q4 B4 R3 hq3 hx3 B3' r1 r2 r3 hle hv hlt
          go_loopg [7] k (fun g i wr => ∃ (m : Nat) (s : Bool) (A : Option Addr) (n' c : Nat) (A' : Option Addr) (m' c' : Nat), m ≤ k ∧ i = .int .i64 ((m : Int) - 1) ∧ g = m ∧ Below w.heap.size w wr ∧ Ce 23 wr w.heap.size (.int .i64 0) (.int .i64 0) ∧
            C3 44 wr ga (.bool s) (.slice A n' c) (.slice A' m' c') ∧ QAt wr (.agg #[.bool s, .slice A n' c, .slice A' m' c']) (Cf.val (l.drop m)))
          case atStart => exact ⟨k, s3, A3, n3, c3, B3, m3, d3, Nat.le_refl _, by go_num, rfl, HB4.out, HR4.out, HC4.out, HQ4.out⟩
          case round =>
            obtain ⟨m, s, A, n', c, A', m', c', hm, rfl, hg, hb, hr, hc, hq⟩ := hrel
            obtain ⟨r1, r2, r3⟩ := hr.facts
            obtain ⟨s1, s2, s4⟩ := hc.facts
            have HQ := Lib.hid hq
            have HB := Lib.hid hb
            have HR := Lib.hid hr
            have HC := Lib.hid hc
            have HGG := Lib.hid hg
            clear hq hg
            cases m with
            | zero =>
              have e1 : ((0 : Nat) : Int) - 1 = -1 := rfl
              rw [e1]
              clear e1
              have hans := fun v W (x : QAt W v (Cf.val (l.drop 0))) => answer_any v _ W x
              rw [List.drop_zero, ← HRES.out] at hans
              have hq0 := HQ.out
              rw [List.drop_zero] at hq0
              unfold RetA frv at hans
              have HANS := Lib.hid hans
              have HQ0 := Lib.hid hq0
              clear hans hq0
              go_wp2_with (go_at_call 79; refine (HANS.out _ _ HQ0.out).mono ?_; rintro e w5 ⟨rfl, hx5⟩; have R5 := hr.ext hx5; obtain ⟨k1, k2, k3⟩ := R5.facts; have B5 := ext_trans hb hx5)
              refine bodyPost_ret (v := .tuple #[.agg #[.int .i64 res.1, .int .i64 res.2.1], .int .i64 res.2.2]) (by simp [results, Try.results31, go_sem, k1]) rfl ?_
              exact ⟨rfl, below2 B5 (Nat.le_refl _) _ _⟩
            | succ m =>
              have e1 : ((m + 1 : Nat) : Int) - 1 = (m : Int) := by omega
              rw [e1]
              clear e1
              have hN := HN.out
              have hcy : ∃ y, (∃ h : m < l.length, l[m] = y) ∧ w.cell? ⟨b, off + m, none⟩ = some (.int .i64 y) ∧ IsI y :=
                ⟨_, ⟨by omega, rfl⟩, HCL.out m (by omega), HI.out _ (List.getElem_mem _)⟩
              obtain ⟨y, ⟨hy0, hy⟩, hyc, hyi⟩ := hcy
              have hval : Cf.val (l.drop m) = ((y : Int) : Rat) + ((1 : Int) : Rat) / Cf.val (l.drop (m + 1)) := by
                rw [val_step (by omega), hy]
              have hpos := val_drop_pos (m := m + 1) HNB.out (by omega) (by omega)
              have hne : Cf.val (l.drop (m + 1)) ≠ 0 := fun h0 => by rw [h0] at hpos; exact absurd hpos (by decide)
              have zq := HOKV.out HNB.out (m + 1) (by omega)
              have hdg := val_dg HNB.out HI.out (k - (m + 1)) (m + 1) (by omega) (by omega)
              generalize Cf.val (l.drop (m + 1)) = q at *
              have z1 := qok_int hyi.1 hyi.2
              have z0 := qok_int (n := 1) (by decide) (by decide)
              have zo : QOk (((1 : Int) : Rat) / q) := inv_ok hpos zq
              have HI1 := Lib.hid (fun W => int_any y W hyi.1 hyi.2)
              have HI0 := Lib.hid (fun W => int_any 1 W (by decide) (by decide))
              have HOV := Lib.hid (fun va vb W (x : QAt W va ((1 : Int) : Rat)) (y : QAt W vb q) => over_any va vb _ q W x y z0 zq hne)
              have HPL := Lib.hid (fun va vb W (x : QAt W va ((y : Int) : Rat)) (y' : QAt W vb (((1 : Int) : Rat) / q)) => plus_q va vb _ _ W x y' z1 zo)
              have HVAL := Lib.hid hval
              have hSS : ∀ w', FS w ga w' → (FS w ga w' ∧ w'.cell? ⟨b, off + m, none⟩ = some (.int .i64 y)) := fun w' h => ⟨h, (h.1.cell (p := ⟨b, off + m, none⟩) hblt).trans hyc⟩
              have HSS := Lib.hid hSS
              have HF := Lib.hid (show FS w ga wr from ⟨hb, hr, hc.res⟩)
              have hqo := HQ.out
              have m1 : (0 : Int) ≤ (m : Int) := by omega
              have m2 : (m : Int) < (k : Int) + 1 := by omega
              clear hval hpos hne zq hdg z1 z0 zo hyc hyi hSS hb hr HQ HB HR HC r1 r2 r3 hN hy hy0
              go_wp2
              have hcy := (HSS.out _ HF.out).2
              have HFc := HF.out
              go_region_with
                (first
                  | (go_at_call_of 80 (Value.int .i64 y); refine (HI1.out _).mono ?_; rintro e w3 ⟨v3, rfl, hq3, hx3⟩; obtain ⟨s3, A3, n3, c3, B3, m3, d3, rfl⟩ := q_form hq3; have HFc := (by first | exact HFc.call hx3 | exact HFc.drew.call hx3 : FS w ga w3); have hcy := (HSS.out _ HFc).2; have hqo := (by first | exact hqo.ext hx3 | exact hqo.drew.ext hx3 : QAt w3 _ q); have hc := (by first | exact hc.ext hx3 | exact hc.drew.ext hx3 : C3 44 w3 ga _ _ _); obtain ⟨s1, s2, s4⟩ := hc.facts)
                  | (go_at_call_of 80 (Value.int .i64 1); refine (HI0.out _).mono ?_; rintro e w5 ⟨v5, rfl, hq5, hx5⟩; obtain ⟨s5, A5, n5, c5, B5, m5, d5, rfl⟩ := q_form hq5; have HFc := (by first | exact HFc.call hx5 | exact HFc.drew.call hx5 : FS w ga w5); have hcy := (HSS.out _ HFc).2; have hqo := (by first | exact hqo.ext hx5 | exact hqo.drew.ext hx5 : QAt w5 _ q); have hc := (by first | exact hc.ext hx5 | exact hc.drew.ext hx5 : C3 44 w5 ga _ _ _); obtain ⟨s1, s2, s4⟩ := hc.facts)
                  | (go_at_call 38; refine (HOV.out _ _ _ ?_ hqo).mono ?_; (first | exact hq5 | exact hq5.ext (by assumption)); rintro e w6 ⟨v6, rfl, hq6, hx6⟩; obtain ⟨s6, A6, n6, c6, B6, m6, d6, rfl⟩ := q_form hq6; have HFc := HFc.call hx6; have hc := hc.ext hx6; obtain ⟨s1, s2, s4⟩ := hc.facts)
                  | (go_at_call 40; refine (HPL.out _ _ _ ?_ ?_).mono ?_; (first | exact hq3.ext hx6 | exact (hq3.ext hx5).ext hx6); (first | exact hq6 | exact hq6.ext hx3); rintro e w7 ⟨v7, rfl, hq7, hx7⟩; obtain ⟨s7, A7, n7, c7, B7, m7, d7, rfl⟩ := q_form hq7; have hc := hc.ext hx7; obtain ⟨s1, s2, s4⟩ := hc.facts; have HF7 := HFc.call hx7))
              all_goals
                have HF8 := Lib.hid (HF7.store hga (.bool s7) (.slice A7 n7 c7) (.slice B7 m7 d7))
                have HC8 := Lib.hid (hc.set3 (.bool s7) (.slice A7 n7 c7) (.slice B7 m7 d7))
                rw [← HVAL.out] at hq7
                have HQ8 := Lib.hid (hq7.off3 hc.typ (by decide) (.bool s7) (.slice A7 n7 c7) (.slice B7 m7 d7))
                clear hq7 hc s1 s2 s4 HF7
                go_wp2
                go_roundg m
                case measure => have := HGG.out; omega
                case rel => exact ⟨m, s7, A7, n7, c7, B7, m7, d7, by omega, by go_num, rfl, HF8.out.1, HF8.out.2.1, HC8.out, HQ8.out⟩
end Go.Proofs.Ythkoblnfeebafaa
