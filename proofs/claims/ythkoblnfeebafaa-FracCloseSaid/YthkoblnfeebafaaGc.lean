/- Walks of frac's mode, Round, RoundTo. Conditions: the arguments are within their kinds. -/
import Derived.Test.YthkoblnfeebafaaGb
import Derived.Test.YthkoblnfeebafaaFo
import Derived.IntWalk
namespace Go.Proofs.Ythkoblnfeebafaa
open Go.RowKit

def modB (m : Int) : Bool := decide (0 ≤ m) && decide (m ≤ 4)
theorem mode_any (m : Int) (w : World) : Calls Try.prog 82 #[.int .i64 m] w fun e w' => e = .returned (.bool (modB m)) ∧ w = w' := by
  by_cases h1 : 0 ≤ m
  · by_cases h2 : m ≤ 4
    · have hm : modB m = true := by unfold modB; simp [h1, h2]
      rw [hm]
      go_enter Try.func82, Try.ntmps82
      go_wp2
      go_ret
      exact ⟨rfl, rfl⟩
    · have hm : modB m = false := by unfold modB; simp [h2]
      rw [hm]
      have h3 : 4 < m := by omega
      go_enter Try.func82, Try.ntmps82
      go_wp2
      go_ret
      exact ⟨rfl, rfl⟩
  · have hm : modB m = false := by unfold modB; simp [h1]
    rw [hm]
    have h3 : m < 0 := by omega
    go_enter Try.func82, Try.ntmps82
    go_wp2
    go_ret
    exact ⟨rfl, rfl⟩

/-- Round's answer -/
def rdA (n d m : Int) : Int × Int := if (vldB n d && modB m) = true then (rndV n d (n / d) (n % d) m, 0) else (0, 2)
def RetI2 (w : World) (x : Int × Int) (e : Ending) (w' : World) : Prop := e = .returned (.tuple #[.int .i64 x.1, .int .i64 x.2]) ∧ Below w.heap.size w w'

set_option maxRecDepth 100000 in
set_option maxHeartbeats 1000000 in
theorem round_fn (n d m : Int) (w : World) (hn : IsI n) (hd : IsI d) : Calls Try.prog 50 #[frv n d, .int .i64 m] w (RetI2 w (rdA n d m)) := by
  have HV := Lib.hid (fun W => valid_any n d W hn hd)
  unfold rdA frv
  cases hv : vldB n d
  · rw [if_neg (by simp)]
    rw [hv] at HV
    clear hv hn hd
    go_enter Try.func50, Try.ntmps50
    go_wp2_with (go_at_call 20; refine (HV.out _).mono ?_; rintro e w1 ⟨rfl, hx1⟩; obtain ⟨k1, k2, k3⟩ := new_cell hx1)
    go_ret2
    exact ⟨rfl, ext_trans ((Below.refl _ _).alloc (Nat.le_refl _) _) hx1⟩
  · rw [hv] at HV
    have HM := Lib.hid (fun W => mode_any m W)
    cases hm : modB m
    · rw [if_neg (by simp)]
      rw [hm] at HM
      clear hv hn hd hm
      go_enter Try.func50, Try.ntmps50
      go_wp2_with (first
        | (go_at_call 20; refine (HV.out _).mono ?_; rintro e w1 ⟨rfl, hx1⟩; obtain ⟨k1, k2, k3⟩ := new_cell hx1)
        | (go_at_call 82; refine (HM.out _).mono ?_; rintro e w2 ⟨rfl, rfl⟩))
      go_ret2
      exact ⟨rfl, ext_trans ((Below.refl _ _).alloc (Nat.le_refl _) _) hx1⟩
    · rw [if_pos (by simp)]
      rw [hm] at HM
      obtain ⟨a1, a2, a3, a4, _⟩ := of_decide_eq_true hv
      obtain ⟨x, hx⟩ : ∃ x, rndV n d (n / d) (n % d) m = x := ⟨_, rfl⟩
      have hr : ∀ W, Calls Try.prog 83 #[.agg #[.int .i64 n, .int .i64 d], .int .i64 m] W fun e w' => e = .returned (.int .i64 x) ∧ Below W.heap.size W w' := fun W => by
        have h := round_any n d m W (by omega) (by omega) a1 (by omega)
        unfold Rnd at h
        rw [hx] at h
        exact h
      rw [hx]
      have HR := Lib.hid hr
      have HO := Lib.hid (fun W => of_ratio n d W)
      unfold frv at HO
      clear hv hn hd hm hr hx a1 a2 a3 a4
      go_enter Try.func50, Try.ntmps50
      go_wp2_with (first
        | (go_at_call 20; refine (HV.out _).mono ?_; rintro e w1 ⟨rfl, hx1⟩; obtain ⟨k1, k2, k3⟩ := new_cell hx1)
        | (go_at_call 82; refine (HM.out _).mono ?_; rintro e w2 ⟨rfl, rfl⟩)
        | (go_at_call 91; refine (HO.out _).mono ?_; rintro e w3 ⟨rfl, hx3⟩)
        | (go_at_call 83; refine (HR.out _).mono ?_; rintro e w4 ⟨rfl, hx4⟩))
      go_ret2
      exact ⟨rfl, ext_trans (ext_trans (ext_trans ((Below.refl _ _).alloc (Nat.le_refl _) _) hx1) hx3) hx4⟩

/-- RoundTo's answer -/
noncomputable def rtoA (fn fd un ud m : Int) : Int × Int × Int :=
  if (vldB fn fd && vldB un ud && decide (0 < un) && modB m) = true then ans ((rndV (fn * ud) (fd * un) (fn * ud / (fd * un)) (fn * ud % (fd * un)) m : Rat) * rat un ud) else (0, 0, 2)
theorem rnd_near (n d q r m : Int) : rndV n d q r m = q ∨ rndV n d q r m = q + 1 := by
  cases h : upB n d q r m
  · exact .inl (rnd_no h)
  · exact .inr (rnd_yes h)
/-- k times unit, the common divisor taken out: out of the limits as soon as k's rest is -/
theorem scale_ans {k un ud : Int} {g : Nat} (hg : g = k.natAbs.gcd ud.natAbs) (h1 : 1 ≤ ud) :
    1 ≤ g ∧ (g : Int) ∣ k ∧ (g : Int) ∣ ud ∧ 1 ≤ ud / g ∧ (k : Rat) * rat un ud = rat (k / g * un) (ud / g) := by
  have hg1 : 0 < g := by rw [hg]; exact Nat.gcd_pos_of_pos_right _ (by omega)
  have d1 : (g : Int) ∣ k := by rw [hg]; exact Int.ofNat_dvd_left.2 (Nat.gcd_dvd_left _ _)
  have d2 : (g : Int) ∣ ud := by rw [hg]; exact Int.ofNat_dvd_left.2 (Nat.gcd_dvd_right _ _)
  clear hg
  obtain ⟨x, rfl⟩ := d1
  obtain ⟨y, rfl⟩ := d2
  have hy : 1 ≤ y := by
    have := Int.pos_of_mul_pos_right (show 0 < (g : Int) * y by omega) (by omega)
    omega
  rw [Int.mul_ediv_cancel_left _ (by omega), Int.mul_ediv_cancel_left _ (by omega)]
  refine ⟨hg1, ⟨x, rfl⟩, ⟨y, rfl⟩, hy, ?_⟩
  have e1 := cast_ne hy
  have e2 : ((g : Int) : Rat) ≠ 0 := cast_ne (by omega)
  unfold rat
  simp only [Rat.intCast_mul]
  generalize (x : Rat) = x' at *
  generalize (y : Rat) = y' at *
  generalize ((g : Int) : Rat) = g' at *
  grind
theorem scale_gcd {k un ud : Int} {g : Nat} (hg : g = k.natAbs.gcd ud.natAbs) (h1 : 1 ≤ ud) (h2 : Int.gcd un ud = 1) : Int.gcd (k / g * un) (ud / g) = 1 := by
  obtain ⟨a, b, c, _⟩ := scale_ans (un := un) hg h1
  obtain ⟨x, rfl⟩ := b
  obtain ⟨y, rfl⟩ := c
  rw [Int.mul_ediv_cancel_left _ (by omega), Int.mul_ediv_cancel_left _ (by omega)]
  have e1 : x.natAbs.Coprime y.natAbs := by
    rw [Int.natAbs_mul, Int.natAbs_mul, Nat.gcd_mul_left, Int.natAbs_natCast] at hg
    have : g * 1 = g * x.natAbs.gcd y.natAbs := by omega
    exact (Nat.eq_of_mul_eq_mul_left (by omega) this).symm
  have e2 : un.natAbs.Coprime y.natAbs := by
    unfold Int.gcd at h2
    rw [Int.natAbs_mul] at h2
    exact Nat.Coprime.coprime_mul_left_right h2
  show (x * un).natAbs.gcd y.natAbs = 1
  rw [Int.natAbs_mul]
  exact Nat.Coprime.mul_left e1 e2
theorem scale_no {k un ud : Int} {g : Nat} (hg : g = k.natAbs.gcd ud.natAbs) (h1 : 1 ≤ ud) (h2 : Int.gcd un ud = 1) (h3 : 1 ≤ un) (h4 : 1000000000 < (k / g).natAbs) : ans ((k : Rat) * rat un ud) = (0, 0, 5) := by
  obtain ⟨a, b, c, d, e⟩ := scale_ans (un := un) hg h1
  obtain ⟨p1, p2⟩ := rat_one d (scale_gcd hg h1 h2)
  rw [e]
  refine ans_no fun hq => ?_
  have h5 := hq.1
  rw [p1, Int.natAbs_mul] at h5
  have : (k / g).natAbs * 1 ≤ (k / g).natAbs * un.natAbs := Nat.mul_le_mul_left _ (by omega)
  omega

set_option maxRecDepth 100000 in
set_option maxHeartbeats 2000000 in
theorem roundto_any (fn fd un ud m : Int) (w : World) (ha1 : IsI fn) (ha2 : IsI fd) (hb1 : IsI un) (hb2 : IsI ud) :
    Calls Try.prog 32 #[frv fn fd, frv un ud, .int .i64 m] w (RetA w (rtoA fn fd un ud m)) := by
  have HV := Lib.hid (fun W g hg => valid2_any fn fd un ud W g hg ha1 ha2 hb1 hb2)
  clear ha1 ha2 hb1 hb2
  have hx0 : ∀ x y z, Below w.heap.size w (((w.alloc x).alloc y).alloc z) := fun x y z => (((Below.refl _ _).alloc (Nat.le_refl _) _).alloc (by simp) _).alloc (by simp; omega) _
  have HX0 := Lib.hid hx0
  have HM := Lib.hid (fun W => mode_any m W)
  clear hx0
  unfold frv rtoA
  cases hv : (vldB fn fd && vldB un ud)
  · rw [if_neg (by simp)]
    rw [hv] at HV
    clear hv
    go_enter Try.func32, Try.ntmps32
    go_wp2_with (first
      | (go_at_call 76; refine (HV.out _ _ (by simp)).mono ?_; rintro e w1 ⟨rfl, hx1⟩; obtain ⟨k1, k2, k3, k4, k5⟩ := three_cells hx1))
    refine bodyPost_ret (v := .tuple #[.agg #[.int .i64 0, .int .i64 0], .int .i64 2]) (by simp [results, Try.results32, go_sem, k3]) rfl ?_
    exact ⟨rfl, below2 (ext_trans (HX0.out _ _ _) hx1) (by omega) _ _⟩
  rw [hv] at HV
  by_cases hu' : un ≤ 0
  · rw [if_neg (by simp; omega)]
    clear hv
    go_enter Try.func32, Try.ntmps32
    go_wp2_with (first
      | (go_at_call 76; refine (HV.out _ _ (by simp)).mono ?_; rintro e w1 ⟨rfl, hx1⟩; obtain ⟨k1, k2, k3, k4, k5⟩ := three_cells hx1))
    refine bodyPost_ret (v := .tuple #[.agg #[.int .i64 0, .int .i64 0], .int .i64 2]) (by simp [results, Try.results32, go_sem, k3]) rfl ?_
    exact ⟨rfl, below2 (ext_trans (HX0.out _ _ _) hx1) (by omega) _ _⟩
  have hu : 0 < un := by omega
  clear hu'
  cases hm : modB m
  · rw [if_neg (by simp)]
    rw [hm] at HM
    clear hv hm
    go_enter Try.func32, Try.ntmps32
    go_wp2_with (first
      | (go_at_call 76; refine (HV.out _ _ (by simp)).mono ?_; rintro e w1 ⟨rfl, hx1⟩; obtain ⟨k1, k2, k3, k4, k5⟩ := three_cells hx1)
      | (go_at_call 82; refine (HM.out _).mono ?_; rintro e w2 ⟨rfl, rfl⟩))
    refine bodyPost_ret (v := .tuple #[.agg #[.int .i64 0, .int .i64 0], .int .i64 2]) (by simp [results, Try.results32, go_sem, k3]) rfl ?_
    exact ⟨rfl, below2 (ext_trans (HX0.out _ _ _) hx1) (by omega) _ _⟩
  rw [if_pos (by simp [hu])]
  rw [hm] at HM
  obtain ⟨⟨a1, a2, a3, a4, _⟩, b1, b2, b3, b4, b5⟩ := vld_and hv
  obtain ⟨p1, p2⟩ := mul_bd a3 a4 b1 b2
  obtain ⟨p3, p4⟩ := mul_pos_bd a1 a2 (show 1 ≤ un by omega) b4
  obtain ⟨q1, q2⟩ := div_bd (n := fn * ud) (d := fd * un) (B := 1000000000000000000) p3 p1 p2 (by omega)
  obtain ⟨k, hk⟩ : ∃ k, rndV (fn * ud) (fd * un) (fn * ud / (fd * un)) (fn * ud % (fd * un)) m = k := ⟨_, rfl⟩
  have hr : ∀ W, Calls Try.prog 83 #[.agg #[.int .i64 (fn * ud), .int .i64 (fd * un)], .int .i64 m] W fun e w' => e = .returned (.int .i64 k) ∧ Below W.heap.size W w' := fun W => by
    have h := round_any (fn * ud) (fd * un) m W p1 p2 p3 p4
    unfold Rnd at h
    rw [hk] at h
    exact h
  have hkb : -1000000000000000000 ≤ k ∧ k ≤ 1000000000000000001 := by
    have := rnd_near (fn * ud) (fd * un) (fn * ud / (fd * un)) (fn * ud % (fd * un)) m
    rw [hk] at this
    omega
  obtain ⟨g, hg⟩ : ∃ g, g = k.natAbs.gcd ud.natAbs := ⟨_, rfl⟩
  obtain ⟨s1, s2, s3, s4, s5⟩ := scale_ans (un := un) hg b1
  have hno := fun h => scale_no hg b1 b5 (by omega) h
  rw [hk]
  rw [s5] at hno ⊢
  have ek : k.tdiv (g : Int) = k / g := Int.tdiv_eq_ediv_of_dvd s2
  have sz1 := fun W => quiet_size k W ⟨by omega, by omega⟩
  have gc : ∀ W, Calls Try.prog 73 #[.int .u64 (k.natAbs : Int), .int .u64 ud] W fun e w' => e = .returned (.int .u64 (g : Int)) ∧ ∃ j, w' = W.drewN j := fun W =>
    (gcd_any (k.natAbs : Int) ud W (by omega) (by omega) (by omega) (by omega)).mono fun e w' ⟨x, y⟩ => ⟨by rw [x, hg]; rfl, y⟩
  have hgl : (g : Int) ≤ 1000000000 := by
    have := Int.le_of_dvd (by omega) s3
    omega
  have hyb : ud / (g : Int) ≤ 1000000000 := (div_bd (n := ud) (d := g) (B := 1000000000) (by omega) (by omega) b2 (by omega)).2
  have hxb : -1000000000000000001 ≤ k / (g : Int) ∧ k / (g : Int) ≤ 1000000000000000001 := div_bd (n := k) (d := g) (B := 1000000000000000001) (by omega) (by omega) (by omega) (by omega)
  clear hk hg s2 s3 s5 q1 q2 hv hm
  generalize hX : k / (g : Int) = x at *
  generalize hY : ud / (g : Int) = y at *
  have sz2 := fun W => quiet_size x W ⟨by omega, by omega⟩
  have HR := Lib.hid hr
  have SZ1 := Lib.hid sz1
  have SZ2 := Lib.hid sz2
  have GC := Lib.hid gc
  have HNO := Lib.hid hno
  have hg1 : (1 : Int) ≤ (g : Int) := by omega
  clear hX hr sz1 sz2 gc hno s1
  by_cases hbig : (1000000000 : Int) < (x.natAbs : Int)
  · rw [HNO.out (by omega)]
    have d1 : decide ((1000000000 : Int) < (x.natAbs : Int)) = true := decide_eq_true hbig
    clear hY
    go_enter Try.func32, Try.ntmps32
    go_wp2_with (first
      | (go_at_call 76; refine (HV.out _ _ (by simp)).mono ?_; rintro e w1 ⟨rfl, hx1⟩; obtain ⟨k1, k2, k3, k4, k5⟩ := three_cells hx1)
      | (go_at_call 82; refine (HM.out _).mono ?_; rintro e w2 ⟨rfl, rfl⟩)
      | (go_at_call 83; refine (HR.out _).mono ?_; rintro e w3 ⟨rfl, hx3⟩; have E3 := ext_trans hx1 hx3; obtain ⟨k1, k2, k3, k4, k5⟩ := three_cells E3))
    go_quiet ((first | (go_at_call 74; exact Calls.quiet_of_same (SZ1.out _)) | (go_at_call 73; exact Calls.quiet_of (GC.out _))))
    go_wp2_with (go_at_call 74; refine (SZ2.out _).mono ?_; rintro e w2 ⟨rfl, rfl⟩)
    refine bodyPost_ret (v := .tuple #[.agg #[.int .i64 0, .int .i64 0], .int .i64 5]) (by simp [results, Try.results32, go_sem, k3]) rfl ?_
    exact ⟨rfl, below2 (bdrewN (ext_trans (HX0.out _ _ _) E3) _) (by omega) _ _⟩
  · have d1 : decide ((1000000000 : Int) < (x.natAbs : Int)) = false := decide_eq_false hbig
    obtain ⟨m1, m2⟩ := mul_bd2 (x := x) (y := un) (by omega) (by omega) b3 b4
    have hz := fun W => rfrac_any (x * un) y W ⟨by omega, by omega⟩ ⟨by omega, by omega⟩ (by omega)
    have HZ := Lib.hid hz
    unfold rat
    generalize ans (((x * un : Int) : Rat) / (y : Rat)) = a at *
    obtain ⟨W0, hW0⟩ : ∃ W0, W0 = ((w.alloc (.cells #[.int .i64 fn, .int .i64 fd] 23)).alloc (.cells #[.int .i64 un, .int .i64 ud] 23)).alloc (.cells #[.int .i64 0, .int .i64 0] 23) := ⟨_, rfl⟩
    have hw0 : Below w.heap.size w W0 := by rw [hW0]; exact HX0.out _ _ _
    have hH0 : Held2 23 (w.heap.size + 1 + 1) W0 W0 := ⟨Below.refl _ _, by rw [hW0]; exact ⟨_, _, by simpa using heap_alloc_new ((w.alloc _).alloc _) _⟩⟩
    have hS : ∀ w', Held2 23 (w.heap.size + 1 + 1) W0 w' → (Held2 23 (w.heap.size + 1 + 1) W0 w' ∧ w'.cell? ⟨w.heap.size + 1, 0, none⟩ = some (.int .i64 un) ∧ w'.cell? ⟨w.heap.size + 1, 1, none⟩ = some (.int .i64 ud)) := by
      intro w' h
      obtain ⟨b1, b2⟩ := bcell h.1
      refine ⟨h, ?_, ?_⟩ <;> (rw [b1 _ _ (by omega), hW0]; simp [go_sem])
    have HSS := Lib.hid hS
    have HW0 := Lib.hid hW0
    have HH0 := Lib.hid hH0
    clear hz hS hH0
    go_enter Try.func32, Try.ntmps32
    go_wp2_with (first
      | (go_at_call 76; refine (HV.out _ _ (by simp)).mono ?_; rintro e w1 ⟨rfl, hx1⟩; obtain ⟨k1, k2, k3, k4, k5⟩ := three_cells hx1)
      | (go_at_call 82; refine (HM.out _).mono ?_; rintro e w2 ⟨rfl, rfl⟩)
      | (go_at_call 83; refine (HR.out _).mono ?_; rintro e w3 ⟨rfl, hx3⟩; have E3 := ext_trans hx1 hx3; obtain ⟨k1, k2, k3, k4, k5⟩ := three_cells E3))
    go_quiet ((first | (go_at_call 74; exact Calls.quiet_of_same (SZ1.out _)) | (go_at_call 73; exact Calls.quiet_of (GC.out _))))
    go_wp2_with (go_at_call 74; refine (SZ2.out _).mono ?_; rintro e w2 ⟨rfl, rfl⟩)
    have hh3 : Held2 23 (w.heap.size + 1 + 1) W0 w3 := HH0.out.call (by rw [HW0.out]; exact E3)
    have hh : Held2 23 (w.heap.size + 1 + 1) W0 (w3.drewN nq) := hh3.call (ext_drewN _ _)
    have HE := Lib.hid hh
    obtain ⟨_, c1, c2⟩ := HSS.out _ hh3
    have yq : IntKind.i64.wrap (ud.tdiv (g : Int)) = y := by rw [IntWalk.i64_quo _ _ ⟨by omega, by omega, by omega⟩]; exact hY
    have xw : IntKind.i64.wrap (x * un) = x * un := IntWalk.i64_in _ ⟨by omega, by omega⟩
    obtain ⟨r0, r1, hc, hf, hz⟩ := hh3.2.facts
    clear hx1 hx3 E3 k1 k2 k3 k4 k5 hh hh3 hW0
    go_region_with
      (go_at_call 77; ((with_reducible refine (HZ.out _).mono ?_)); unfold RetA frv; rintro e w4 ⟨rfl, hx4⟩; have hh4 := (by first | exact HE.out.drew.call hx4 | exact HE.out.call hx4 : Held2 23 (w.heap.size + 1 + 1) W0 w4); obtain ⟨r0, r1, hc, hf, hz⟩ := hh4.2.facts)
    all_goals
      go_wp2
      refine bodyPost_ret (v := .tuple #[.agg #[.int .i64 a.1, .int .i64 a.2.1], .int .i64 a.2.2]) (by simp [results, Try.results32, go_sem, hc]) rfl ?_
      exact ⟨rfl, Held2.from (hh4.store _ _) hw0 (by omega)⟩
end Go.Proofs.Ythkoblnfeebafaa
