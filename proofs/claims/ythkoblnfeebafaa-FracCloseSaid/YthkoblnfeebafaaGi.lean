/- The reference's Round, RoundTo walked. Conditions: the arguments are within their kinds. -/
import Derived.Test.YthkoblnfeebafaaGf
namespace Go.Proofs.Ythkoblnfeebafaa
open Go.RowKit

theorem mod_parts {m : Int} (h : modB m = true) : 0 ≤ m ∧ m ≤ 4 := by
  unfold modB at h
  rw [Bool.and_eq_true] at h
  exact ⟨of_decide_eq_true h.1, of_decide_eq_true h.2⟩
theorem rat_le {n d : Int} (hd : 1 ≤ d) : (rat n d).num.natAbs ≤ n.natAbs ∧ (rat n d).den ≤ d.natAbs := by
  have e : rat n d = mkRat n d.natAbs := by
    unfold rat
    rw [Rat.mkRat_eq_div, ← Rat.intCast_natCast]
    congr 2; omega
  rw [e]
  exact mkRat_le n d.natAbs (by omega)
theorem rnd_bd {q : Rat} {m B : Int} (h1 : -B ≤ q.num) (h2 : q.num ≤ B) (hB : 0 ≤ B) : -B ≤ rndQ q m ∧ rndQ q m ≤ B + 1 := by
  have := rnd_near q.num q.den (q.num / q.den) (q.num % q.den) m
  obtain ⟨a, b⟩ := div_bd (n := q.num) (d := q.den) (B := B) (den_one q) h1 h2 hB
  unfold rndQ
  omega
theorem rat_vld {n d : Int} (h : Vld n d) : (rat n d).num = n ∧ ((rat n d).den : Int) = d := rat_one h.1 h.2.2.2.2

set_option maxRecDepth 100000 in
set_option maxHeartbeats 1000000 in
theorem rround_fn (n d m : Int) (w : World) (hn : IsI n) (hd : IsI d) : Calls Try.prog 51 #[frv n d, .int .i64 m] w (RetI2 w (rdA n d m)) := by
  have HV := Lib.hid (fun W => rvalid_any n d W hn hd)
  unfold rdA frv
  cases hv : vldB n d
  · rw [if_neg (by simp)]
    rw [hv] at HV
    clear hv hn hd
    go_enter Try.func51, Try.ntmps51
    go_wp2_with (go_at_call 21; refine (HV.out _).mono ?_; rintro e w1 ⟨rfl, hx1⟩; obtain ⟨k1, k2, k3⟩ := new_cell hx1)
    go_ret2
    exact ⟨rfl, ext_trans ((Below.refl _ _).alloc (Nat.le_refl _) _) hx1⟩
  · rw [hv] at HV
    by_cases h0 : 0 ≤ m
    · by_cases h4 : m ≤ 4
      · have hm : modB m = true := by unfold modB; simp [h0, h4]
        rw [if_pos (by simp [hm])]
        obtain ⟨a1, a2, a3, a4, a5⟩ := of_decide_eq_true hv
        obtain ⟨r1, r2⟩ := rat_vld ⟨a1, a2, a3, a4, a5⟩
        have hr : rndV n d (n / d) (n % d) m = rndQ (rat n d) m := rnd_scale a1
        rw [hr]
        obtain ⟨b1, b2⟩ := rnd_bd (q := rat n d) (m := m) (B := 1000000000) (by omega) (by omega) (by omega)
        have hof : ∀ W, Calls Try.prog 34 #[.agg #[.int .i64 n, .int .i64 d]] W (RetQ W (rat n d)) := fun W => of_any n d W (by omega) (by omega) (by omega) (by omega) (by omega)
        have hrd := fun v W (x : QAt W v (rat n d)) => rounded_any v (rat n d) m W x (by omega) (by omega) h0 h4
        generalize rndQ (rat n d) m = x at *
        have hwh := fun v W (h : QAt W v (x : Rat)) => whole_yes v (x : Rat) W h (by rw [Rat.den_intCast]) (by rw [Rat.num_intCast]; omega)
        rw [Rat.num_intCast] at hwh
        have HOF := Lib.hid hof
        have HRD := Lib.hid hrd
        have HWH := Lib.hid hwh
        clear hof hrd hwh hr r1 r2 a5 hn hd hv hm a1 a2 a3 a4 b1 b2
        go_enter Try.func51, Try.ntmps51
        go_wp2_with (first
          | (go_at_call 21; refine (HV.out _).mono ?_; rintro e w1 ⟨rfl, hx1⟩; obtain ⟨k1, k2, k3⟩ := new_cell hx1)
          | (go_at_call 34; refine (HOF.out _).mono ?_; rintro e w2 ⟨v2, rfl, hq2, hx2⟩; obtain ⟨p2, rfl, hp2⟩ := q_formV hq2; clear hq2)
          | (go_at_call 92; refine (HRD.out _ _ hp2).mono ?_; rintro e w3 ⟨v3, rfl, hq3, hx3⟩; obtain ⟨p3, rfl, hp3⟩ := q_formV hq3; clear hq3)
          | (go_at_call 37; refine (HWH.out _ _ hp3).mono ?_; rintro e w4 ⟨rfl, hx4⟩))
        go_ret2
        exact ⟨rfl, ext_trans (ext_trans (ext_trans (ext_trans ((Below.refl _ _).alloc (Nat.le_refl _) _) hx1) hx2) hx3) hx4⟩
      · have hm : modB m = false := by unfold modB; simp [h4]
        rw [if_neg (by simp [hm])]
        have h5 : 4 < m := by omega
        clear hv hn hd hm
        go_enter Try.func51, Try.ntmps51
        go_wp2_with (go_at_call 21; refine (HV.out _).mono ?_; rintro e w1 ⟨rfl, hx1⟩; obtain ⟨k1, k2, k3⟩ := new_cell hx1)
        go_ret2
        exact ⟨rfl, ext_trans ((Below.refl _ _).alloc (Nat.le_refl _) _) hx1⟩
    · have hm : modB m = false := by unfold modB; simp [h0]
      rw [if_neg (by simp [hm])]
      have h5 : m < 0 := by omega
      clear hv hn hd hm
      go_enter Try.func51, Try.ntmps51
      go_wp2_with (go_at_call 21; refine (HV.out _).mono ?_; rintro e w1 ⟨rfl, hx1⟩; obtain ⟨k1, k2, k3⟩ := new_cell hx1)
      go_ret2
      exact ⟨rfl, ext_trans ((Below.refl _ _).alloc (Nat.le_refl _) _) hx1⟩

theorem div_rat2 {an ad bn bd : Int} (h1 : 1 ≤ ad) (h2 : 1 ≤ bd) (h3 : 1 ≤ bn) : rat an ad / rat bn bd = rat (an * bd) (ad * bn) := by
  have e1 := cast_ne h1
  have e2 := cast_ne h2
  have e3 := cast_ne h3
  unfold rat
  rw [Rat.intCast_mul, Rat.intCast_mul]
  grind
set_option maxRecDepth 100000 in
set_option maxHeartbeats 2000000 in
theorem rroundto_any (fn fd un ud m : Int) (w : World) (ha1 : IsI fn) (ha2 : IsI fd) (hb1 : IsI un) (hb2 : IsI ud) :
    Calls Try.prog 52 #[frv fn fd, frv un ud, .int .i64 m] w (RetA w (rtoA fn fd un ud m)) := by
  have h1 := fun W => rvalid_any fn fd W ha1 ha2
  have h2 := fun W => rvalid_any un ud W hb1 hb2
  have hx0 : ∀ x y z, Below w.heap.size w (((w.alloc x).alloc y).alloc z) := fun x y z => (((Below.refl _ _).alloc (Nat.le_refl _) _).alloc (by simp) _).alloc (by simp; omega) _
  have HX0 := Lib.hid hx0
  clear hx0
  unfold frv rtoA at *
  cases hv : vldB fn fd
  · rw [if_neg (by simp)]
    rw [hv] at h1
    have H1 := Lib.hid h1
    clear h1 h2 hv ha1 ha2 hb1 hb2
    go_enter Try.func52, Try.ntmps52
    go_wp2_with (go_at_call 21; refine (H1.out _).mono ?_; rintro e w1 ⟨rfl, hx1⟩; obtain ⟨k1, k2, k3, k4, k5⟩ := three_cells hx1)
    refine bodyPost_ret (v := .tuple #[.agg #[.int .i64 0, .int .i64 0], .int .i64 2]) (by simp [results, Try.results52, go_sem, k3]) rfl ?_
    exact ⟨rfl, below2 (ext_trans (HX0.out _ _ _) hx1) (by omega) _ _⟩
  cases hv2 : vldB un ud
  · rw [if_neg (by simp)]
    rw [hv] at h1
    rw [hv2] at h2
    have H1 := Lib.hid h1
    have H2 := Lib.hid h2
    clear h1 h2 hv hv2 ha1 ha2 hb1 hb2
    go_enter Try.func52, Try.ntmps52
    go_wp2_with (first
      | (go_at_call_of 21 (Value.int .i64 fn); refine (H1.out _).mono ?_; rintro e w1 ⟨rfl, hx1⟩; obtain ⟨k1, k2, k3, k4, k5⟩ := three_cells hx1)
      | (go_at_call_of 21 (Value.int .i64 un); refine (H2.out _).mono ?_; rintro e w2 ⟨rfl, hx2⟩; have E2 := ext_trans hx1 hx2; obtain ⟨k1, k2, k3, k4, k5⟩ := three_cells E2))
    refine bodyPost_ret (v := .tuple #[.agg #[.int .i64 0, .int .i64 0], .int .i64 2]) (by simp [results, Try.results52, go_sem, k3]) rfl ?_
    exact ⟨rfl, below2 (ext_trans (HX0.out _ _ _) E2) (by omega) _ _⟩
  rw [hv] at h1
  rw [hv2] at h2
  have H1 := Lib.hid h1
  have H2 := Lib.hid h2
  clear h1 h2 ha1 ha2 hb1 hb2
  by_cases hbad : un ≤ 0 ∨ m < 0 ∨ 4 < m
  · rw [if_neg (by unfold modB; simp; omega)]
    clear hv hv2
    have hcase : un ≤ 0 ∨ (0 < un ∧ m < 0) ∨ (0 < un ∧ 0 ≤ m ∧ 4 < m) := by omega
    clear hbad
    rcases hcase with h | ⟨h, h'⟩ | ⟨h, h', h''⟩
    all_goals
      go_enter Try.func52, Try.ntmps52
      go_wp2_with (first
        | (go_at_call_of 21 (Value.int .i64 fn); refine (H1.out _).mono ?_; rintro e w1 ⟨rfl, hx1⟩; obtain ⟨k1, k2, k3, k4, k5⟩ := three_cells hx1)
        | (go_at_call_of 21 (Value.int .i64 un); refine (H2.out _).mono ?_; rintro e w2 ⟨rfl, hx2⟩; have E2 := ext_trans hx1 hx2; obtain ⟨k1, k2, k3, k4, k5⟩ := three_cells E2))
      refine bodyPost_ret (v := .tuple #[.agg #[.int .i64 0, .int .i64 0], .int .i64 2]) (by simp [results, Try.results52, go_sem, k3]) rfl ?_
      exact ⟨rfl, below2 (ext_trans (HX0.out _ _ _) E2) (by omega) _ _⟩
  · have c1 : 0 < un := by omega
    have c2 : 0 ≤ m := by omega
    have c3 : m ≤ 4 := by omega
    rw [if_pos (by unfold modB; simp; omega)]
    obtain ⟨a1, a2, a3, a4, _⟩ := of_decide_eq_true hv
    obtain ⟨b1, b2, b3, b4, _⟩ := of_decide_eq_true hv2
    obtain ⟨p1, p2⟩ := mul_bd a3 a4 b1 b2
    obtain ⟨p3, p4⟩ := mul_pos_bd a1 a2 (show 1 ≤ un by omega) b4
    have hr : rndV (fn * ud) (fd * un) (fn * ud / (fd * un)) (fn * ud % (fd * un)) m = rndQ (rat (fn * ud) (fd * un)) m := rnd_scale p3
    rw [hr]
    have hdiv := div_rat2 (an := fn) (ad := fd) (bn := un) (bd := ud) a1 b1 (by omega)
    obtain ⟨r1, r2⟩ := rat_le (n := fn * ud) p3
    obtain ⟨s1, s2⟩ := rnd_bd (q := rat (fn * ud) (fd * un)) (m := m) (B := 1000000000000000000) (by omega) (by omega) (by omega)
    have ho1 : ∀ W, Calls Try.prog 34 #[.agg #[.int .i64 fn, .int .i64 fd]] W (RetQ W (rat fn fd)) := fun W => of_any fn fd W (by omega) (by omega) (by omega) (by omega) (by omega)
    have ho2 : ∀ W, Calls Try.prog 34 #[.agg #[.int .i64 un, .int .i64 ud]] W (RetQ W (rat un ud)) := fun W => of_any un ud W (by omega) (by omega) (by omega) (by omega) (by omega)
    have z1 := qok_rat (n := fn) (d := fd) (by omega) a1 (by omega)
    have z2 := qok_rat (n := un) (d := ud) (by omega) b1 (by omega)
    have hov := fun va vb W (x : QAt W va (rat fn fd)) (y : QAt W vb (rat un ud)) => over_any va vb _ _ W x y z1 z2 (rat_ne (by omega) b1)
    rw [hdiv] at hov
    have hrd := fun v W (x : QAt W v (rat (fn * ud) (fd * un))) => rounded_any v _ m W x (by omega) (by omega) c2 c3
    generalize rndQ (rat (fn * ud) (fd * un)) m = k at *
    generalize rat (fn * ud) (fd * un) = qq at *
    have htm := fun va vb W (x : QAt W va (k : Rat)) (y : QAt W vb (rat un ud)) => times_q va vb _ _ W x y (qok_int (n := k) (by omega) (by omega)) z2
    have han := fun v W (x : QAt W v ((k : Rat) * rat un ud)) => answer_any v _ W x
    have HO1 := Lib.hid ho1
    have HO2 := Lib.hid ho2
    have HOV := Lib.hid hov
    have HRD := Lib.hid hrd
    have HTM := Lib.hid htm
    generalize (k : Rat) * rat un ud = res at *
    generalize ans res = a at *
    unfold RetA frv at han
    have HAN := Lib.hid han
    clear ho1 ho2 hov hrd htm han z1 z2 hdiv hr r1 r2 s1 s2 p1 p2 p3 p4 a1 a2 a3 a4 b1 b2 b3 b4 hv hv2 hbad
    obtain ⟨W0, hW0⟩ : ∃ W0, W0 = ((w.alloc (.cells #[.int .i64 fn, .int .i64 fd] 23)).alloc (.cells #[.int .i64 un, .int .i64 ud] 23)).alloc (.cells #[.int .i64 0, .int .i64 0] 23) := ⟨_, rfl⟩
    have hw0 : Below w.heap.size w W0 := by rw [hW0]; exact HX0.out _ _ _
    have hH0 : Held2 23 (w.heap.size + 1 + 1) W0 W0 := ⟨Below.refl _ _, by rw [hW0]; exact ⟨_, _, by simpa using heap_alloc_new ((w.alloc _).alloc _) _⟩⟩
    have hS : ∀ w', Held2 23 (w.heap.size + 1 + 1) W0 w' → (Held2 23 (w.heap.size + 1 + 1) W0 w' ∧ w'.cell? ⟨w.heap.size, 0, none⟩ = some (.int .i64 fn) ∧ w'.cell? ⟨w.heap.size, 1, none⟩ = some (.int .i64 fd) ∧
        w'.cell? ⟨w.heap.size + 1, 0, none⟩ = some (.int .i64 un) ∧ w'.cell? ⟨w.heap.size + 1, 1, none⟩ = some (.int .i64 ud)) := by
      intro w' h
      obtain ⟨b1, b2⟩ := bcell h.1
      refine ⟨h, ?_, ?_, ?_, ?_⟩ <;> (rw [b1 _ _ (by omega), hW0]; simp [go_sem])
    have HSS := Lib.hid hS
    have HW0 := Lib.hid hW0
    have HH0 := Lib.hid hH0
    clear hS hH0
    go_enter Try.func52, Try.ntmps52
    go_wp2_with (first
      | (go_at_call_of 21 (Value.int .i64 fn); refine (H1.out _).mono ?_; rintro e w1 ⟨rfl, hx1⟩; obtain ⟨k1, k2, k3, k4, k5⟩ := three_cells hx1)
      | (go_at_call_of 21 (Value.int .i64 un); refine (H2.out _).mono ?_; rintro e w2 ⟨rfl, hx2⟩; have E2 := ext_trans hx1 hx2; obtain ⟨k1, k2, k3, k4, k5⟩ := three_cells E2))
    rw [← HW0.out] at E2
    clear hx1 hx2 k1 k2 k3 k4 k5 hW0
    have HE2 := Lib.hid (HH0.out.call E2)
    clear E2
    go_region_held3 (fun w' => Held2 23 (w.heap.size + 1 + 1) W0 w' ∧ w'.cell? ⟨w.heap.size, 0, none⟩ = some (.int .i64 fn) ∧ w'.cell? ⟨w.heap.size, 1, none⟩ = some (.int .i64 fd) ∧
        w'.cell? ⟨w.heap.size + 1, 0, none⟩ = some (.int .i64 un) ∧ w'.cell? ⟨w.heap.size + 1, 1, none⟩ = some (.int .i64 ud))
      (first | assumption | exact HSS.out _ (Held2.call (And.left (by assumption)) (by assumption)) | exact HSS.out _ HE2.out.drew | exact HSS.out _ (Held2.store (And.left (by assumption)) _ _))
      (first
        | (go_at_call_of 34 (Value.int .i64 fn); refine (HO1.out _).mono ?_; rintro e w3 ⟨v3, rfl, hq3, hx3⟩; obtain ⟨p3, rfl, hp3⟩ := q_formV hq3; clear hq3)
        | (go_at_call_of 34 (Value.int .i64 un); refine (HO2.out _).mono ?_; rintro e w4 ⟨v4, rfl, hq4, hx4⟩; obtain ⟨p4, rfl, hp4⟩ := q_formV hq4; clear hq4)
        | (go_at_call 38; refine (HOV.out _ _ _ (hp3.ext hx4) hp4).mono ?_; rintro e w5 ⟨v5, rfl, hq5, hx5⟩; obtain ⟨p5, rfl, hp5⟩ := q_formV hq5; clear hq5)
        | (go_at_call 92; refine (HRD.out _ _ hp5).mono ?_; rintro e w6 ⟨v6, rfl, hq6, hx6⟩; obtain ⟨p6, rfl, hp6⟩ := q_formV hq6; clear hq6)
        | (go_at_call 93; refine (HTM.out _ _ _ (hp6.ext hx4) hp4).mono ?_; rintro e w7 ⟨v7, rfl, hq7, hx7⟩; obtain ⟨p7, rfl, hp7⟩ := q_formV hq7; clear hq7)
        | (go_at_call 79; refine (HAN.out _ _ hp7).mono ?_; rintro e w8 ⟨rfl, hx8⟩; have hh8 := Held2.call (And.left (by assumption)) hx8; obtain ⟨r0, r1, hc, hf, hz⟩ := hh8.2.facts))
    all_goals
      go_wp2
      refine bodyPost_ret (v := .tuple #[.agg #[.int .i64 a.1, .int .i64 a.2.1], .int .i64 a.2.2]) (by simp [results, Try.results52, go_sem, hc]) rfl ?_
      exact ⟨rfl, Held2.from (hh8.store _ _) hw0 (by omega)⟩
end Go.Proofs.Ythkoblnfeebafaa
