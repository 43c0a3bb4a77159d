/- frac.FromTerms walked. Conditions: the slice reads as a list of ints. -/
import Derived.Test.YthkoblnfeebafaaIs
import Derived.Test.YthkoblnfeebafaaTp
namespace Go.Proofs.Ythkoblnfeebafaa
open Go.RowKit

/-- a term that the first loop refuses -/
def BadAt (l : List Int) (i : Nat) : Prop := ∃ h : i < l.length, 0 < i ∧ (l[i] < 1 ∨ (l[i] = 1 ∧ i + 1 = l.length))
def Bad (l : List Int) : Prop := ∃ i, BadAt l i
open Classical in
noncomputable def ftA (l : List Int) : Int × Int × Int := if 64 < l.length then (0, 0, 3) else if Bad l ∨ l = [] then (0, 0, 2) else Cf.conv 0 1 1 0 l

theorem ftA_long {l : List Int} (h : 64 < l.length) : ftA l = (0, 0, 3) := by unfold ftA; rw [if_pos h]
theorem ftA_bad {l : List Int} (h : ¬ 64 < l.length) (hb : Bad l ∨ l = []) : ftA l = (0, 0, 2) := by unfold ftA; rw [if_neg h, if_pos hb]
theorem ftA_ok {l : List Int} (h : ¬ 64 < l.length) (hb : ¬ (Bad l ∨ l = [])) : ftA l = Cf.conv 0 1 1 0 l := by unfold ftA; rw [if_neg h, if_neg hb]
theorem bad_pos {l : List Int} (h : ¬ Bad l) {i : Nat} (hi : i < l.length) (h0 : 0 < i) : 1 ≤ l[i] := by
  refine Int.not_lt.1 fun hlt => h ⟨i, hi, h0, .inl (by omega)⟩
theorem conv_step {l : List Int} {k : Nat} {p0 q0 p1 q1 : Int} (hk : k < l.length) : Cf.conv p0 q0 p1 q1 (l.drop k) =
    if 1000000000 < (l[k]).natAbs then (0, 0, 5) else if 1000000000 < (l[k] * p1 + p0).natAbs ∨ 1000000000 < l[k] * q1 + q0 then (0, 0, 5) else Cf.conv p1 q1 (l[k] * p1 + p0) (l[k] * q1 + q0) (l.drop (k + 1)) := by
  rw [List.drop_eq_getElem_cons hk]
  conv => lhs; unfold Cf.conv

theorem Ce.drew {T : TypeId} {w : World} {g : Nat} {x y : Value} (h : Ce T w g x y) : Ce T w.drew g x y := h
set_option maxRecDepth 100000 in
set_option maxHeartbeats 2000000 in
theorem fromterms_any (A : Option Addr) (cap : Nat) (l : List Int) (w : World) (hl : l.length ≤ 9223372036854775807) (h : ISl w A l) (hi : ∀ x ∈ l, IsI x) :
    Calls Try.prog 30 #[.slice A l.length cap] w (RetA w (ftA l)) := by
  have HI := Lib.hid hi
  have H := Lib.hid h
  clear h hi
  by_cases h64 : 64 < l.length
  · rw [ftA_long h64]
    go_enter Try.func30, Try.ntmps30
    go_wp2
    refine bodyPost_ret (v := .tuple #[.agg #[.int .i64 0, .int .i64 0], .int .i64 3]) (by simp [results, Try.results30, go_sem]) rfl ?_
    exact ⟨rfl, (Below.refl _ _).alloc (Nat.le_refl _) _⟩
  clear hl
  have HBD := Lib.hid (ftA_bad h64)
  have HOK := Lib.hid (ftA_ok h64)
  generalize ftA l = res at *
  obtain ⟨wl, hwl⟩ : ∃ wl, wl = w.alloc (.cells #[.int .i64 0, .int .i64 0] 23) := ⟨_, rfl⟩
  have R0 : Ce 23 wl w.heap.size (.int .i64 0) (.int .i64 0) := by rw [hwl]; exact Ce.new _ _ _
  have B0 : Below w.heap.size w wl := by rw [hwl]; exact (Below.refl _ _).alloc (Nat.le_refl _) _
  have HB0 := Lib.hid B0
  have HR0 := Lib.hid R0
  have HWL := Lib.hid hwl
  clear hwl B0 R0
  go_enter Try.func30, Try.ntmps30
  go_wp2
  rw [← HWL.out]
  go_loopg [16] l.length (fun g i wr => ∃ k : Nat, i = .int .i64 k ∧ k ≤ l.length ∧ g = l.length - k ∧ (∀ j, j < k → ¬ BadAt l j) ∧ wr = wl)
  case atStart => exact ⟨0, rfl, by omega, by omega, fun j h => absurd h (by omega), rfl⟩
  case round =>
    obtain ⟨k, rfl, hk, hg, hall, rfl⟩ := hrel
    have HG := Lib.hid hg
    have HALL := Lib.hid hall
    clear hg hall
    by_cases hlt : k < l.length
    · have hf := H.out.ext HB0.out
      rcases hf with hf | ⟨b, off, rfl, hblt, hc⟩
      · rw [hf] at hlt; simp at hlt
      · have c1 := hc k hlt
        obtain ⟨y, hy⟩ : ∃ y, y = l[k] := ⟨_, rfl⟩
        rw [← hy] at c1
        have HY := Lib.hid hy
        clear hy hc
        obtain ⟨r1, r2, r3⟩ := HR0.out.facts
        by_cases hk0 : k = 0
        · subst hk0
          rw [Nat.add_zero] at c1
          go_wp2
          go_roundg (l.length - (0 + 1))
          case measure => have := HG.out; omega
          case rel => exact ⟨0 + 1, by go_num, by omega, rfl, fun j hj => by (obtain rfl : j = 0 := by omega); exact fun ⟨_, h, _⟩ => absurd h (by omega), rfl⟩
        · have d1 : decide ((0 : Int) < (k : Int)) = true := decide_eq_true (by omega)
          have hk1 : (0 : Int) < (k : Int) := by omega
          by_cases hy1 : y < 1
          · have HBK : BadAt l k := ⟨hlt, by omega, .inl (by rw [← HY.out]; exact hy1)⟩
            have d2 : decide (y < 1) = true := decide_eq_true hy1
            go_wp2
            refine bodyPost_ret (v := .tuple #[.agg #[.int .i64 0, .int .i64 0], .int .i64 2]) (by simp [results, Try.results30, go_sem, r1]) rfl ?_
            rw [HBD.out (.inl ⟨k, HBK⟩)]
            exact ⟨rfl, below2 HB0.out (Nat.le_refl _) _ _⟩
          · have d2 : decide (y < 1) = false := decide_eq_false hy1
            by_cases hy2 : y = 1
            · subst hy2
              by_cases hke : k + 1 = l.length
              · have HBK : BadAt l k := ⟨hlt, by omega, .inr ⟨HY.out.symm, hke⟩⟩
                have d3 : ((k : Int) == (l.length : Int) - 1) = true := by simp; omega
                go_wp2
                refine bodyPost_ret (v := .tuple #[.agg #[.int .i64 0, .int .i64 0], .int .i64 2]) (by simp [results, Try.results30, go_sem, r1]) rfl ?_
                rw [HBD.out (.inl ⟨k, HBK⟩)]
                exact ⟨rfl, below2 HB0.out (Nat.le_refl _) _ _⟩
              · have d3 : ((k : Int) == (l.length : Int) - 1) = false := by simp; omega
                go_wp2
                go_roundg (l.length - (k + 1))
                case measure => have := HG.out; omega
                case rel =>
                  refine ⟨k + 1, by go_num, by omega, rfl, fun j hj => ?_, rfl⟩
                  by_cases hjk : j = k
                  · subst hjk
                    rintro ⟨_, _, h | h⟩
                    · have := HY.out; omega
                    · omega
                  · exact HALL.out j (by omega)
            · have d3 : (y == 1) = false := by simpa using hy2
              go_wp2
              go_roundg (l.length - (k + 1))
              case measure => have := HG.out; omega
              case rel =>
                refine ⟨k + 1, by go_num, by omega, rfl, fun j hj => ?_, rfl⟩
                by_cases hjk : j = k
                · subst hjk
                  rintro ⟨_, _, h | h⟩
                  · have := HY.out; omega
                  · have := HY.out; omega
                · exact HALL.out j (by omega)
    · have hnb : ¬ Bad l := fun ⟨i, hi⟩ => HALL.out i (by obtain ⟨h, _⟩ := hi; omega) hi
      obtain ⟨r1, r2, r3⟩ := HR0.out.facts
      by_cases hne : l = []
      · subst hne
        obtain rfl : k = 0 := by simpa using hk
        go_wp2
        refine bodyPost_ret (v := .tuple #[.agg #[.int .i64 0, .int .i64 0], .int .i64 2]) (by simp [results, Try.results30, go_sem, r1]) rfl ?_
        rw [HBD.out (by simp)]
        exact ⟨rfl, below2 HB0.out (Nat.le_refl _) _ _⟩
      · have hpos : (0 : Int) < (l.length : Int) := by have := List.length_pos_iff.2 hne; omega
        have hl0 : ((l.length : Int) == 0) = false := by simp; omega
        have HNE := Lib.hid hne
        have HNB := Lib.hid hnb
        have he := HOK.out (by rintro (h | h); exact hnb h; exact hne h)
        clear hne hnb
        have HE := Lib.hid he
        clear he
        go_wp2
        have Z2 := (HR0.out.alloc (.cells #[.int .i64 0, .int .i64 1] 76)).alloc (.cells #[.int .i64 1, .int .i64 0] 76)
        have Z6 := (Ce.new (T := 76) wr (.int .i64 0) (.int .i64 1)).alloc (.cells #[.int .i64 1, .int .i64 0] 76)
        have Z7 := Ce.new (T := 76) (wr.alloc (.cells #[.int .i64 0, .int .i64 1] 76)) (.int .i64 1) (.int .i64 0)
        have ZB := (HB0.out.alloc (Nat.le_of_lt r3) (.cells #[.int .i64 0, .int .i64 1] 76)).alloc (by simp; omega) (.cells #[.int .i64 1, .int .i64 0] 76)
        rw [show (wr.alloc (.cells #[.int .i64 0, .int .i64 1] 76)).heap.size = wr.heap.size + 1 by simp] at Z7
        generalize (wr.alloc (.cells #[.int .i64 0, .int .i64 1] 76)).alloc (.cells #[.int .i64 1, .int .i64 0] 76) = wm at *
        have hgs : w.heap.size < wr.heap.size := r3
        generalize wr.heap.size = gs at *
        clear r1 r2 r3
        have HZ2 := Lib.hid Z2
        have HZ6 := Lib.hid Z6
        have HZ7 := Lib.hid Z7
        have HZB := Lib.hid ZB
        clear Z2 Z6 Z7 ZB hlt
        go_loopg [48] l.length (fun g i wr => ∃ (k : Nat) (p0 q0 p1 q1 : Int), i = .int .i64 k ∧ k ≤ l.length ∧ g = l.length - k ∧ Cf.conv p0 q0 p1 q1 (l.drop k) = res ∧
          (-1000000000 ≤ p0 ∧ p0 ≤ 1000000000 ∧ -1000000000 ≤ p1 ∧ p1 ≤ 1000000000 ∧ 0 ≤ q0 ∧ q0 ≤ 1000000000 ∧ 0 ≤ q1 ∧ q1 ≤ 1000000000) ∧ (k = 0 → q1 = 0) ∧
          Below w.heap.size w wr ∧ Ce 23 wr w.heap.size (.int .i64 0) (.int .i64 0) ∧ Ce 76 wr gs (.int .i64 p0) (.int .i64 q0) ∧ Ce 76 wr (gs + 1) (.int .i64 p1) (.int .i64 q1))
        case atStart => exact ⟨0, 0, 1, 1, 0, rfl, by omega, by omega, by rw [HE.out]; rfl, ⟨by omega, by omega, by omega, by omega, by omega, by omega, by omega, by omega⟩, fun _ => rfl, HZB.out, HZ2.out, HZ6.out, HZ7.out⟩
        case round =>
          obtain ⟨k, p0, q0, p1, q1, rfl, hk, hg, hcv, ⟨b1, b2, b3, b4, b5, b6, b7, b8⟩, hq0, hb, h2, h6, h7⟩ := hrel
          have HG := Lib.hid hg
          have HCV := Lib.hid hcv
          have HQ := Lib.hid hq0
          clear hg hcv hq0
          obtain ⟨r1, r2, r3⟩ := h2.facts
          obtain ⟨s1, s2, s3⟩ := h6.facts
          obtain ⟨t1, t2, t3⟩ := h7.facts
          by_cases hlt : k < l.length
          · have hf := H.out.ext hb
            rcases hf with hf | ⟨b, off, rfl, hblt, hc⟩
            · rw [hf] at hlt; simp at hlt
            · have c1 := hc k hlt
              have hst := conv_step (p0 := p0) (q0 := q0) (p1 := p1) (q1 := q1) hlt
              rw [HCV.out] at hst
              have hyi := HI.out l[k] (List.getElem_mem hlt)
              have hyp : k = 0 ∨ 1 ≤ l[k] := by
                rcases Nat.eq_zero_or_pos k with h | h
                · exact .inl h
                · exact .inr (bad_pos HNB.out hlt h)
              generalize l[k] = y at *
              have HST := Lib.hid hst
              have HZ := Lib.hid (fun W => quiet_size y W hyi)
              have HYP := Lib.hid hyp
              clear hst hyi hyp hc
              by_cases hm : (1000000000 : Int) < (y.natAbs : Int)
              · have d1 : decide ((1000000000 : Int) < (y.natAbs : Int)) = true := decide_eq_true hm
                go_wp2_with (go_at_call 74; refine (HZ.out _).mono ?_; rintro e w2 ⟨rfl, rfl⟩)
                refine bodyPost_ret (v := .tuple #[.agg #[.int .i64 0, .int .i64 0], .int .i64 5]) (by simp [results, Try.results30, go_sem, r1]) rfl ?_
                rw [HST.out, if_pos (by omega)]
                exact ⟨rfl, below2 hb (Nat.le_refl _) _ _⟩
              · have d1 : decide ((1000000000 : Int) < (y.natAbs : Int)) = false := decide_eq_false hm
                go_wp2_with (go_at_call 74; refine (HZ.out _).mono ?_; rintro e w2 ⟨rfl, rfl⟩)
                have m1 := mul_bd2 (x := y) (y := p1) (by omega) (by omega) b3 b4
                have m2 := mul_bd2 (x := y) (y := q1) (by omega) (by omega) (by omega) b8
                obtain ⟨m1, m3⟩ := m1
                obtain ⟨m2, m4⟩ := m2
                have hgs1 : w.heap.size < gs + 1 := Nat.lt_succ_of_lt hgs
                have hgs2 : gs < gs + 1 := Nat.lt_succ_self gs
                have hgs3 : gs + 1 ≠ gs := Nat.succ_ne_self gs
                have hgs4 : w.heap.size ≤ gs + 1 := Nat.le_of_lt hgs1
                have N2 := ((h2.set_ne hgs (.int .i64 p1) (.int .i64 q1)).set_ne hgs1 (.int .i64 (y * p1 + p0)) (.int .i64 (y * q1 + q0))).drew
                have N6 := ((h6.set2 (.int .i64 p1) (.int .i64 q1)).set_ne hgs2 (.int .i64 (y * p1 + p0)) (.int .i64 (y * q1 + q0))).drew
                have N7 := ((h7.set_ne' hgs3 (.int .i64 p1) (.int .i64 q1)).set2 (.int .i64 (y * p1 + p0)) (.int .i64 (y * q1 + q0))).drew
                have NB := (bset2 (bset2 hb (Nat.le_of_lt hgs) (.int .i64 p1) (.int .i64 q1)) hgs4 (.int .i64 (y * p1 + p0)) (.int .i64 (y * q1 + q0))).drew
                have HN2 := Lib.hid N2
                have HN6 := Lib.hid N6
                have HN7 := Lib.hid N7
                have HNB2 := Lib.hid NB
                clear N2 N6 N7 NB hgs1 hgs2 hgs3 hgs4
                go_region
                have N2 := HN2.out
                have N6 := HN6.out
                have N7 := HN7.out
                have NB := HNB2.out
                clear HN2 HN6 HN7 HNB2 h2 h6 h7 hb r1 r2 r3 s1 s2 s3 t1 t2 t3 c1 HZ
                generalize World.drew _ = w3 at *
                obtain ⟨r1, r2, r3⟩ := N2.facts
                obtain ⟨s1, s2, s3⟩ := N6.facts
                obtain ⟨t1, t2, t3⟩ := N7.facts
                have HZ := Lib.hid (fun W => quiet_size (y * p1 + p0) W ⟨by omega, by omega⟩)
                have q2b : 0 ≤ y * q1 + q0 := by
                  rcases HYP.out with h0 | h1
                  · rw [HQ.out h0, Int.mul_zero]; omega
                  · have := Int.mul_nonneg (a := y) (b := q1) (by omega) b7; omega
                have HY1 := Lib.hid (show -1000000000 ≤ y ∧ y ≤ 1000000000 by omega)
                generalize hp2 : y * p1 + p0 = p2 at *
                generalize hq2 : y * q1 + q0 = q2 at *
                clear hp2 hq2 m1 m2 m3 m4
                by_cases hP : (1000000000 : Int) < (p2.natAbs : Int)
                · have d2 : decide ((1000000000 : Int) < (p2.natAbs : Int)) = true := decide_eq_true hP
                  go_wp2_with (go_at_call 74; refine (HZ.out _).mono ?_; rintro e w2 ⟨rfl, rfl⟩)
                  refine bodyPost_ret (v := .tuple #[.agg #[.int .i64 0, .int .i64 0], .int .i64 5]) (by simp [results, Try.results30, go_sem, r1]) rfl ?_
                  rw [HST.out, if_neg (by omega), if_pos (by omega)]
                  exact ⟨rfl, below2 NB (Nat.le_refl _) _ _⟩
                · have d2 : decide ((1000000000 : Int) < (p2.natAbs : Int)) = false := decide_eq_false hP
                  by_cases hQ : (1000000000 : Int) < q2
                  · have d3 : decide ((1000000000 : Int) < q2) = true := decide_eq_true hQ
                    go_wp2_with (go_at_call 74; refine (HZ.out _).mono ?_; rintro e w2 ⟨rfl, rfl⟩)
                    refine bodyPost_ret (v := .tuple #[.agg #[.int .i64 0, .int .i64 0], .int .i64 5]) (by simp [results, Try.results30, go_sem, r1]) rfl ?_
                    rw [HST.out, if_neg (by omega), if_pos (by omega)]
                    exact ⟨rfl, below2 NB (Nat.le_refl _) _ _⟩
                  · have d3 : decide ((1000000000 : Int) < q2) = false := decide_eq_false hQ
                    go_wp2_with (go_at_call 74; refine (HZ.out _).mono ?_; rintro e w2 ⟨rfl, rfl⟩)
                    go_roundg (l.length - (k + 1))
                    case measure => have := HG.out; omega
                    case rel =>
                      refine ⟨k + 1, p1, q1, p2, q2, by go_num, by omega, rfl, ?_, ⟨by omega, by omega, by omega, by omega, by omega, by omega, by omega, by omega⟩, fun h => absurd h (Nat.succ_ne_zero _), NB, N2, N6, N7⟩
                      rw [HST.out, if_neg (by omega), if_neg (by omega)]
          · obtain rfl : k = l.length := by omega
            have hcv := HCV.out
            rw [List.drop_length] at hcv
            have HC := Lib.hid hcv
            clear hcv
            go_wp2
            refine bodyPost_ret (v := .tuple #[.agg #[.int .i64 p1, .int .i64 q1], .int .i64 0]) (by simp [results, Try.results30, go_sem, r1]) rfl ?_
            rw [← HC.out]
            exact ⟨rfl, below2 hb (Nat.le_refl _) _ _⟩
end Go.Proofs.Ythkoblnfeebafaa
