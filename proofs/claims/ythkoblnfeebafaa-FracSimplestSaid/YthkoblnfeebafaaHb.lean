/- frac.Simplest walked. Conditions: the arguments are within their kinds. -/
import Derived.Test.YthkoblnfeebafaaHa
import Derived.Test.YthkoblnfeebafaaGd
import Derived.Deep.DeepCutAuto
namespace Go.Proofs.Ythkoblnfeebafaa
open Go.RowKit

def SOk (an ad bn bd : Int) : Prop := Vld an ad ∧ Vld bn bd ∧ an * bd ≤ bn * ad
def SpA (an ad bn bd : Int) (x : Int × Int × Int) : Prop := (¬ SOk an ad bn bd ∧ x = (0, 0, 2)) ∨ (SOk an ad bn bd ∧ ∃ s t, Sp.Weak an ad bn bd s t ∧ x = (s, t, 0))
/-- what Simplest knows of its own blocks -/
def SC (w : World) (an ad bn bd : Int) (wx : World) : Prop :=
  Below w.heap.size w wx ∧ Ce 23 wx w.heap.size (.int .i64 an) (.int .i64 ad) ∧ Ce 23 wx (w.heap.size + 1) (.int .i64 bn) (.int .i64 bd) ∧ Ce 23 wx (w.heap.size + 1 + 1) (.int .i64 0) (.int .i64 0)
theorem SC.call {w : World} {an ad bn bd : Int} {wx wy : World} (h : SC w an ad bn bd wx) (hb : Below wx.heap.size wx wy) : SC w an ad bn bd wy := by
  obtain ⟨h1, h2, h3, h4⟩ := h
  exact ⟨bext h1 hb (Nat.le_of_lt h2.facts.2.2), h2.ext hb, h3.ext hb, h4.ext hb⟩
theorem SC.cells {w : World} {an ad bn bd : Int} {wx : World} (h : SC w an ad bn bd wx) :
    (wx.cell? ⟨w.heap.size, 0, none⟩ = some (.int .i64 an) ∧ wx.cell? ⟨w.heap.size, 1, none⟩ = some (.int .i64 ad)) ∧ (wx.cell? ⟨w.heap.size + 1, 0, none⟩ = some (.int .i64 bn) ∧ wx.cell? ⟨w.heap.size + 1, 1, none⟩ = some (.int .i64 bd)) :=
  ⟨⟨h.2.1.facts.1 0, h.2.1.facts.1 1⟩, h.2.2.1.facts.1 0, h.2.2.1.facts.1 1⟩
theorem SC.start {w wx : World} {an ad bn bd : Int} (E : Below (((w.alloc (.cells #[.int .i64 an, .int .i64 ad] 23)).alloc (.cells #[.int .i64 bn, .int .i64 bd] 23)).alloc (.cells #[.int .i64 0, .int .i64 0] 23)).heap.size (((w.alloc (.cells #[.int .i64 an, .int .i64 ad] 23)).alloc (.cells #[.int .i64 bn, .int .i64 bd] 23)).alloc (.cells #[.int .i64 0, .int .i64 0] 23)) wx) :
    SC w an ad bn bd wx := by
  have p0 := (((Ce.new (T := 23) w (.int .i64 an) (.int .i64 ad)).alloc (.cells #[.int .i64 bn, .int .i64 bd] 23)).alloc (.cells #[.int .i64 0, .int .i64 0] 23)).ext E
  have p1 := ((Ce.new (T := 23) (w.alloc (.cells #[.int .i64 an, .int .i64 ad] 23)) (.int .i64 bn) (.int .i64 bd)).alloc (.cells #[.int .i64 0, .int .i64 0] 23)).ext E
  have p2 := (Ce.new (T := 23) ((w.alloc (.cells #[.int .i64 an, .int .i64 ad] 23)).alloc (.cells #[.int .i64 bn, .int .i64 bd] 23)) (.int .i64 0) (.int .i64 0)).ext E
  rw [show (w.alloc (.cells #[.int .i64 an, .int .i64 ad] 23)).heap.size = w.heap.size + 1 by simp] at p1
  rw [show ((w.alloc (.cells #[.int .i64 an, .int .i64 ad] 23)).alloc (.cells #[.int .i64 bn, .int .i64 bd] 23)).heap.size = w.heap.size + 1 + 1 by simp] at p2
  have B0 : Below w.heap.size w (((w.alloc (.cells #[.int .i64 an, .int .i64 ad] 23)).alloc (.cells #[.int .i64 bn, .int .i64 bd] 23)).alloc (.cells #[.int .i64 0, .int .i64 0] 23)) := (((Below.refl _ _).alloc (Nat.le_refl _) _).alloc (by simp) _).alloc (by simp; omega) _
  exact ⟨ext_trans B0 E, p0, p1, p2⟩
theorem SC.store {w : World} {an ad bn bd : Int} {wx : World} {k : Nat} (h : SC w an ad bn bd wx) (hk : w.heap.size + 1 + 1 < k) (x y : Value) : SC w an ad bn bd ((wx.setCell ⟨k, 0, none⟩ x).setCell ⟨k, 1, none⟩ y) := by
  obtain ⟨h1, h2, h3, h4⟩ := h
  exact ⟨below2 h1 (by omega) _ _, h2.set_ne' (by omega) _ _, h3.set_ne' (by omega) _ _, h4.set_ne' (by omega) _ _⟩

set_option maxRecDepth 100000 in
set_option maxHeartbeats 4000000 in
theorem simplest_fn (an ad bn bd : Int) (w : World) (ha1 : IsI an) (ha2 : IsI ad) (hb1 : IsI bn) (hb2 : IsI bd) :
    Calls Try.prog 53 #[frv an ad, frv bn bd] w fun e w' => ∃ x, SpA an ad bn bd x ∧ RetA w x e w' := by
  have hc := fun W => cmp_any an ad bn bd W ha1 ha2 hb1 hb2
  by_cases hok : SOk an ad bn bd
  · have hok' := hok
    obtain ⟨va, vb, hle⟩ := hok'
    have hcm : cmpA an ad bn bd = ((an * bd - bn * ad).sign, 0) := by
      unfold cmpA
      rw [if_pos (by rw [vldB_yes va, vldB_yes vb]; rfl), cmp_sign va.1 vb.1]
    rw [hcm] at hc
    have hs : (an * bd - bn * ad).sign ≤ 0 := by
      rcases Int.lt_trichotomy (an * bd - bn * ad) 0 with h | h | h
      · rw [Int.sign_eq_neg_one_of_neg h]; decide
      · rw [h]; decide
      · omega
    have hs2 : -1 ≤ (an * bd - bn * ad).sign := by
      rcases Int.lt_trichotomy (an * bd - bn * ad) 0 with h | h | h
      · rw [Int.sign_eq_neg_one_of_neg h]; decide
      · rw [h]; decide
      · omega
    have hsi := fun W => simplest_any _ an ad bn bd W (Nat.le_refl _) va.1 va.2.1 vb.1 vb.2.1 va.2.2.1 va.2.2.2.1 vb.2.2.1 vb.2.2.2.1 hle
    generalize (an * bd - bn * ad).sign = c at *
    unfold frv at *
    have HC := Lib.hid hc
    have HSI := Lib.hid hsi
    have HO1 := Lib.hid (fun W => of_ratio an ad W)
    have HO2 := Lib.hid (fun W => of_ratio bn bd W)
    unfold frv at HO1 HO2
    have HOK := Lib.hid hok
    clear hc hsi hok va vb hle hcm ha1 ha2 hb1 hb2
    go_enter Try.func53, Try.ntmps53
    go_upto_region 4 with (go_at_call 48; refine (HC.out _).mono ?_; rintro e w1 ⟨rfl, hx1⟩; have S1 := SC.start hx1; obtain ⟨k1, k2, k3, k4, k5⟩ := three_cells hx1)
    have HS1 := Lib.hid S1
    clear k1 k2 k3 k4 k5 hx1 S1
    go_cut [8] (fun z wx => ∃ (g : Nat) (s t : Int), z = .pointer (some ⟨g, 0, none⟩) ∧ w.heap.size + 1 + 1 < g ∧ SC w an ad bn bd wx ∧ Ce 76 wx g (.int .i64 s) (.int .i64 t) ∧ Sp.Weak an ad bn bd s t)
    case first =>
      have hSS : ∀ wx, Below w1.heap.size w1 wx → (Below w1.heap.size w1 wx ∧ (wx.cell? ⟨w.heap.size, 0, none⟩ = some (.int .i64 an) ∧ wx.cell? ⟨w.heap.size, 1, none⟩ = some (.int .i64 ad)) ∧ (wx.cell? ⟨w.heap.size + 1, 0, none⟩ = some (.int .i64 bn) ∧ wx.cell? ⟨w.heap.size + 1, 1, none⟩ = some (.int .i64 bd))) :=
        fun wx h => ⟨h, (HS1.out.call h).cells.1, (HS1.out.call h).cells.2⟩
      have HSS := Lib.hid hSS
      clear hSS
      go_region_held3 (fun wx => Below w1.heap.size w1 wx ∧ (wx.cell? ⟨w.heap.size, 0, none⟩ = some (.int .i64 an) ∧ wx.cell? ⟨w.heap.size, 1, none⟩ = some (.int .i64 ad)) ∧ (wx.cell? ⟨w.heap.size + 1, 0, none⟩ = some (.int .i64 bn) ∧ wx.cell? ⟨w.heap.size + 1, 1, none⟩ = some (.int .i64 bd)))
        (first | assumption | exact HSS.out _ (ext_trans (And.left (by assumption)) (by assumption)) | exact HSS.out _ (ext_drew _) | exact HSS.out _ (((Below.refl _ _).alloc (Nat.le_refl _) _).drew) | exact HSS.out _ ((And.left (by assumption) : Below w1.heap.size w1 _).alloc (Below.size (And.left (by assumption) : Below w1.heap.size w1 _)) _) | exact HSS.out _ (Below.alloc (by assumption) (Below.size (by assumption)) _) | exact HSS.out _ (below2 (by assumption) (Below.size (by assumption)) _ _) | exact HSS.out _ (below2 (by assumption) (Nat.le_refl _) _ _))
        (first
          | (go_at_call_of 91 (Value.int .i64 an); refine (HO1.out _).mono ?_; rintro e w5 ⟨rfl, hx5⟩; have hb5 := ext_trans (And.left (by assumption) : Below w1.heap.size w1 _) hx5; (first | (have NB := (Ce.new (T := 76) _ (.int .i64 0) (.int .i64 0)).ext hx5; obtain ⟨n1, n2, n3⟩ := NB.facts) | (have NB := Ce.ext (w := World.drew _) (Ce.new (T := 76) _ (.int .i64 0) (.int .i64 0)) hx5; obtain ⟨n1, n2, n3⟩ := NB.facts) | skip))
          | (go_at_call_of 91 (Value.int .i64 bn); refine (HO2.out _).mono ?_; rintro e w6 ⟨rfl, hx6⟩; have hb6 := (by first | exact ext_trans hb5 hx6 | exact ext_trans (ext_trans hb5 ((Below.refl _ _).alloc (Nat.le_refl _) _)) hx6 : Below w1.heap.size w1 w6); (first | (have NB := NB.ext hx6; obtain ⟨n1, n2, n3⟩ := NB.facts) | (have NB := (Ce.new (T := 76) _ (.int .i64 0) (.int .i64 0)).ext hx6; obtain ⟨n1, n2, n3⟩ := NB.facts) | skip))
          | (go_at_call 94; refine (HSI.out _).mono ?_; unfold RetS; rintro e w7 ⟨s, t, rfl, hwk, -, hx7⟩; have HWK := Lib.hid hwk; clear hwk; have hb7 := (by first | exact ext_trans hb6 hx7 | exact ext_trans (ext_trans hb6 ((Below.refl _ _).alloc (Nat.le_refl _) _)) hx7 : Below w1.heap.size w1 w7); (first | (have NB := NB.ext hx7; obtain ⟨n1, n2, n3⟩ := NB.facts) | (have NB := (Ce.new (T := 76) _ (.int .i64 0) (.int .i64 0)).ext hx7; obtain ⟨n1, n2, n3⟩ := NB.facts) | skip)))
      all_goals
        have j1 : w.heap.size + 1 + 1 < w1.heap.size := HS1.out.2.2.2.facts.2.2
        have j3 := hb5.size
        have j4 := hb6.size
        have j5 := hb7.size
        go_wp2
        go_meet
        first
          | exact ⟨_, s, t, rfl, by omega, (HS1.out.call hb7).store (by omega) _ _, NB.set2 _ _, HWK.out⟩
          | exact ⟨_, s, t, rfl, by omega, HS1.out.call (ext_trans hb7 ((Below.refl _ _).alloc (Nat.le_refl _) _)), Ce.new _ _ _, HWK.out⟩
    case rest =>
      obtain ⟨g, s, t, rfl, hg, hsc, hce, hwk⟩ := hcut
      have HSC := Lib.hid hsc
      have HWK := Lib.hid hwk
      obtain ⟨r1, r2, r3⟩ := hsc.2.2.2.facts
      obtain ⟨u1, u2, u3⟩ := hce.facts
      clear hsc hce hwk
      go_wp2
      refine bodyPost_ret (v := .tuple #[.agg #[.int .i64 s, .int .i64 t], .int .i64 0]) (by simp [results, Try.results53, go_sem, r1]) rfl ?_
      exact ⟨_, .inr ⟨HOK.out, s, t, HWK.out, rfl⟩, rfl, below2 HSC.out.1 (by omega) _ _⟩
  · have HOK := Lib.hid hok
    have hcase : cmpA an ad bn bd = (0, 2) ∨ cmpA an ad bn bd = (1, 0) := by
      unfold cmpA
      by_cases hv : (vldB an ad && vldB bn bd) = true
      · rw [if_pos hv]
        obtain ⟨va, vb⟩ := vld_and hv
        rw [cmp_sign va.1 vb.1]
        have : 0 < an * bd - bn * ad := by
          refine Int.not_le.1 fun h => hok ⟨va, vb, by omega⟩
        rw [Int.sign_eq_one_of_pos this]
        exact .inr rfl
      · rw [if_neg hv]; exact .inl rfl
    unfold frv at *
    clear hok ha1 ha2 hb1 hb2
    rcases hcase with h | h
    all_goals
      rw [h] at hc
      have HC := Lib.hid hc
      clear hc h
      go_enter Try.func53, Try.ntmps53
      go_wp2_with (go_at_call 48; refine (HC.out _).mono ?_; rintro e w1 ⟨rfl, hx1⟩; have S1 := SC.start hx1; obtain ⟨k1, k2, k3, k4, k5⟩ := three_cells hx1)
      refine bodyPost_ret (v := .tuple #[.agg #[.int .i64 0, .int .i64 0], .int .i64 2]) (by simp [results, Try.results53, go_sem, k3]) rfl ?_
      exact ⟨_, .inl ⟨HOK.out, rfl⟩, rfl, below2 S1.1 (by omega) _ _⟩
end Go.Proofs.Ythkoblnfeebafaa
