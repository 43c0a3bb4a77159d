/- SeamRound walked. Conditions: the slice reads as a list of seams. -/
import Derived.Test.YtbhjhajnhpohlaaMo
namespace Go.Proofs.Ytbhjhajnhpohlaa
open Go.RowKit

theorem rok_cpy {N f : Int} {l : List Sm} : ROk N f (cpy l) ↔ ROk N f l := by unfold ROk; rw [cpy_ok]
theorem RetRd.cpd {w : World} {N f : Int} {l : List Sm} {e : Ending} {w' : World} (h : RetRd w N f (cpy l) e w') : RetRd w N f l e w' := by
  obtain ⟨hb, h⟩ := h
  refine ⟨hb, ?_⟩
  rcases h with ⟨h1, h2⟩ | ⟨h1, h2, h3⟩ | ⟨h1, h2, h3⟩
  · exact .inl ⟨fun h => h1 (rok_cpy.2 h), h2⟩
  · have hg := rok_cpy.1 h1
    rw [cpy_eq hg.1] at h2
    exact .inr (.inl ⟨hg, h2, h3⟩)
  · have hg := rok_cpy.1 h1
    rw [cpy_eq hg.1] at h2 h3
    exact .inr (.inr ⟨hg, h2, h3⟩)
theorem RetTo.cpd {w : World} {N f : Int} {l : List Sm} {e : Ending} {w' : World} (h : RetTo w N f (cpy l) e w') : RetTo w N f l e w' := by
  obtain ⟨hb, h⟩ := h
  refine ⟨hb, ?_⟩
  rcases h with ⟨h1, h2⟩ | ⟨h1, h2, h3⟩ | ⟨h1, h2, h3⟩
  · exact .inl ⟨fun h => h1 (rok_cpy.2 h), h2⟩
  · have hg := rok_cpy.1 h1
    rw [cpy_eq hg.1] at h2
    exact .inr (.inl ⟨hg, h2, h3⟩)
  · have hg := rok_cpy.1 h1
    rw [cpy_eq hg.1] at h2 h3
    exact .inr (.inr ⟨hg, h2, h3⟩)
/-- the code of the error -/
def codeR (N f : Int) (l : List Sm) : Int := if ROk N f l then (if Conn l f.toNat then 0 else 7) else 2
theorem RetRd.bad {w : World} {N f : Int} {l : List Sm} {e : Ending} {w' : World} (h : RetRd w N f l e w') (hc : ¬ (ROk N f l ∧ Conn l f.toNat)) : e = .returned (.tuple #[.int .i64 0, .int .i64 (codeR N f l)]) ∧ Below w.heap.size w w' := by
  obtain ⟨hb, h⟩ := h
  refine ⟨?_, hb⟩
  unfold codeR
  rcases h with ⟨h1, h2⟩ | ⟨h1, h2, h3⟩ | ⟨h1, h2, h3⟩
  · rw [if_neg h1]; exact h2
  · rw [if_pos h1, if_neg h2]; exact h3
  · exact absurd ⟨h1, h2⟩ hc
theorem RetTo.bad {w : World} {N f : Int} {l : List Sm} {e : Ending} {w' : World} (h : RetTo w N f l e w') (hc : ¬ (ROk N f l ∧ Conn l f.toNat)) : e = .returned (.tuple #[.slice none 0 0, .int .i64 (codeR N f l)]) ∧ Below w.heap.size w w' := by
  obtain ⟨hb, h⟩ := h
  refine ⟨?_, hb⟩
  unfold codeR
  rcases h with ⟨h1, h2⟩ | ⟨h1, h2, h3⟩ | ⟨h1, h2, h3⟩
  · rw [if_neg h1]; exact h2
  · rw [if_pos h1, if_neg h2]; exact h3
  · exact absurd ⟨h1, h2⟩ hc
theorem RetRd.good {w : World} {N f : Int} {l : List Sm} {e : Ending} {w' : World} (h : RetRd w N f l e w') (hc : ROk N f l ∧ Conn l f.toNat) : e = .returned (.tuple #[.int .i64 (rndN N.toNat l), .int .i64 0]) ∧ Below w.heap.size w w' := by
  obtain ⟨hb, h⟩ := h
  refine ⟨?_, hb⟩
  rcases h with ⟨h1, h2⟩ | ⟨h1, h2, h3⟩ | ⟨h1, h2, h3⟩
  · exact absurd hc.1 h1
  · exact absurd hc.2 h2
  · exact h3
theorem RetTo.good {w : World} {N f : Int} {l : List Sm} {e : Ending} {w' : World} (h : RetTo w N f l e w') (hc : ROk N f l ∧ Conn l f.toNat) : (∃ Y hs A' c', RnL N.toNat f.toNat l Y ∧ Tour Y f hs ∧ e = .returned (.tuple #[.slice A' (List.length hs) c', .int .i64 0]) ∧ hs.length ≤ c' ∧ c' ≤ maxLen ∧ MSl w' A' (hs.map (Hop.mv Y))) ∧ Below w.heap.size w w' := by
  obtain ⟨hb, h⟩ := h
  refine ⟨?_, hb⟩
  rcases h with ⟨h1, h2⟩ | ⟨h1, h2, h3⟩ | ⟨h1, h2, h3⟩
  · exact absurd hc.1 h1
  · exact absurd hc.2 h2
  · exact h3
theorem code_ne {N f : Int} {l : List Sm} (hc : ¬ (ROk N f l ∧ Conn l f.toNat)) : codeR N f l ≠ 0 := by
  unfold codeR
  by_cases h1 : ROk N f l
  · by_cases h2 : Conn l f.toNat
    · exact absurd ⟨h1, h2⟩ hc
    · rw [if_pos h1, if_neg h2]; decide
  · rw [if_neg h1]; decide

set_option maxRecDepth 100000 in
set_option maxHeartbeats 4000000 in
theorem law_round_bad (N f : Int) (A : Option Addr) (cap : Nat) (l : List Sm) (w : World) (hbad : ¬ (ROk N f l ∧ Conn l f.toNat)) (hc : l.length ≤ cap) (hcm : cap ≤ 9223372036854775807) (h : SSl w A l) :
    Calls Try.prog 7 #[.agg #[.int .i64 N, .slice A l.length cap], .int .i64 f] w fun e w' => e = .returned (.bool true) ∧ Below w.heap.size w w' := by
  have HG := Lib.hid (fun W (h : SSl W A l) => graph_any N A cap l W hc hcm h)
  have HF := Lib.hid (fun A' cap' W (h : SSl W A' (cpy l)) (h1 : (cpy l).length ≤ cap') (h2 : cap' ≤ 9223372036854775807) => (Round_any N f A' cap' (cpy l) W h1 h2 h).mono fun e w' h => h.cpd.bad hbad)
  have HT := Lib.hid (fun A' cap' W (h : SSl W A' (cpy l)) (h1 : (cpy l).length ≤ cap') (h2 : cap' ≤ 9223372036854775807) => (Tour_any N f A' cap' (cpy l) W h1 h2 h).mono fun e w' h => h.cpd.bad hbad)
  have HR := Lib.hid (fun W (h : SSl W A l) => (rRound_any N f A cap l W hc hcm h).mono fun e w' h => h.bad hbad)
  have HM := Lib.hid (fun W => moves_any none 0 [] W (by decide) (by decide) (by decide) (.inl rfl))
  have hne := code_ne hbad
  have H := Lib.hid h
  have HB0 := Lib.hid (Bk.new 24 w #[.int .i64 N, .slice A l.length cap])
  have HE0 := Lib.hid (ext_alloc w (.cells #[.int .i64 N, .slice A l.length cap] 24))
  clear h hbad
  generalize codeR N f l = c at *
  have hne2 : (c != 0) = true := by rw [bne_iff_ne]; exact hne
  have hcc : (c != c) = false := by simp
  go_enter Try.func7, Try.ntmps7
  go_wp2_with (first
    | (go_at_call 32; refine (HF.out _ _ _ hs1 k1 k2).mono ?_; rintro e w2 ⟨rfl, hx2⟩; have B2 := bext B1 hx2 B1.size; clear f1 f2 f3; obtain ⟨f1, f2, f3⟩ := (HB0.out.ext (bext HL1.out hx2 HL1.out.size)).facts)
    | (go_at_call 33; refine (HR.out _ (H.out.ext B2)).mono ?_; rintro e w3 ⟨rfl, hx3⟩; have B3 := bext B2 hx3 B2.size; clear f1 f2 f3; obtain ⟨f1, f2, f3⟩ := (HB0.out.ext (bext (bext HL1.out hx2 HL1.out.size) hx3 (by have := HL1.out.size; have := hx2.size; omega))).facts)
    | (go_at_call 34; refine (HT.out _ _ _ hs5 k5 k6).mono ?_; rintro e w5 ⟨rfl, hx5⟩; have B5 := bext B4 hx5 B4.size)
    | (go_at_call 35; refine (HM.out _).mono ?_; rintro e w6 ⟨A6, c6, rfl, -, -, -, hx6⟩; have B6 := bext B5 hx6 B5.size)
    | (go_at_call 18; refine (awake_any _).mono ?_; rintro e w7 ⟨rfl, hx7⟩; have B7 := bext B6 hx7 B6.size)
    | (go_at_call 16; refine (HG.out _ (H.out.ext B3)).mono ?_; rintro e w4 ⟨A4, c4, rfl, k5, k6, hs5, hx4⟩; have B4 := bext B3 hx4 B3.size)
    | (go_at_call 16; refine (HG.out _ (H.out.ext HE0.out)).mono ?_; rintro e w1 ⟨A1, c1, rfl, k1, k2, hs1, hx1⟩; have B1 := ext_trans HE0.out hx1; have HL1 := Lib.hid hx1; obtain ⟨f1, f2, f3⟩ := (HB0.out.ext hx1).facts))
  go_ret
  exact ⟨rfl, B7⟩

/-- which seams were met by the first i moves -/
def metF (ms : List Mv) (i : Nat) : Nat → Bool := fun q => decide ((q : Int) ∈ (ms.take i).map Mv.k)
theorem metF_step {ms : List Mv} {i : Nat} (hi : i < ms.length) {q : Nat} (hq : ms[i].k = (q : Int)) : updB (metF ms i) q true = metF ms (i + 1) := by
  funext x
  unfold updB metF
  rw [List.take_succ_eq_append_getElem hi, List.map_append]
  by_cases e : x = q
  · rw [if_pos e]
    exact (decide_eq_true (by subst e; simp [hq])).symm
  · rw [if_neg e]
    apply decide_eq_decide.2
    simp only [List.mem_append, List.map_cons, List.map_nil, List.mem_singleton, hq]
    constructor
    · intro h; exact .inl h
    · rintro (h | h)
      · exact h
      · exact absurd (by omega) e
theorem mvSum_step {l : List Sm} {ms : List Mv} {i : Nat} (hi : i < ms.length) {q : Nat} (hq : q < l.length) (he : ms[i].k = (q : Int)) : mvSum l (ms.take (i + 1)) = mvSum l (ms.take i) + l[q].n := by
  unfold mvSum
  rw [List.take_succ_eq_append_getElem hi, List.map_append, List.sum_append_int]
  congr 1
  simp [mvLen, he, List.getD_eq_getElem?_getD, hq]
theorem mvSum_bd {N : Int} {l : List Sm} (h : ∀ s ∈ l, SmOk N s) : ∀ ms : List Mv, 0 ≤ mvSum l ms ∧ mvSum l ms ≤ ms.length * 10000
  | [] => by simp [mvSum]
  | m :: ms => by
    have ih := mvSum_bd h ms
    have e : mvSum l (m :: ms) = mvLen l m + mvSum l ms := by simp [mvSum]
    have h1 : 0 ≤ mvLen l m ∧ mvLen l m ≤ 10000 := by
      unfold mvLen
      rw [List.getD_eq_getElem?_getD]
      by_cases hk : m.k.toNat < l.length
      · rw [List.getElem?_eq_getElem hk]
        have := h _ (List.getElem_mem hk)
        unfold SmOk at this
        show 0 ≤ l[m.k.toNat].n ∧ l[m.k.toNat].n ≤ 10000
        omega
      · rw [List.getElem?_eq_none (by omega)]
        show (0 : Int) ≤ 0 ∧ (0 : Int) ≤ 10000
        omega
    rw [e, List.length_cons]
    push_cast
    omega

set_option maxRecDepth 100000 in
set_option maxHeartbeats 4000000 in
theorem law_round_good (N f : Int) (A : Option Addr) (cap : Nat) (l : List Sm) (w : World) (hgood : ROk N f l ∧ Conn l f.toNat) (hc : l.length ≤ cap) (hcm : cap ≤ 9223372036854775807) (h : SSl w A l) :
    Calls Try.prog 7 #[.agg #[.int .i64 N, .slice A l.length cap], .int .i64 f] w fun e w' => e = .returned (.bool true) ∧ Below w.heap.size w w' := by
  have HG := Lib.hid (fun W (h : SSl W A l) => graph_any N A cap l W hc hcm h)
  have HF := Lib.hid (fun A' cap' W (h : SSl W A' (cpy l)) (h1 : (cpy l).length ≤ cap') (h2 : cap' ≤ 9223372036854775807) => (Round_any N f A' cap' (cpy l) W h1 h2 h).mono fun e w' h => h.cpd.good hgood)
  have HT := Lib.hid (fun A' cap' W (h : SSl W A' (cpy l)) (h1 : (cpy l).length ≤ cap') (h2 : cap' ≤ 9223372036854775807) => (Tour_any N f A' cap' (cpy l) W h1 h2 h).mono fun e w' h => h.cpd.good hgood)
  have HR := Lib.hid (fun W (h : SSl W A l) => (rRound_any N f A cap l W hc hcm h).mono fun e w' h => h.good hgood)
  have HWK := Lib.hid (fun C cc run W (h : SSl W A l) (h1 : run.length ≤ cc) (h2 : cc ≤ 9223372036854775807) (hr : MSl W C run) => Walk_any N A cap l C cc run W hgood.1.1 hc hcm h h1 h2 hr)
  have HEN := Lib.hid (fun (m : Mv) W (h : SSl W A l) (hk : 0 ≤ m.k ∧ m.k < (l.length : Int)) => rEnds_any N A cap l m W hc hcm h hk)
  have HOK := Lib.hid hgood
  have HL64 := hgood.1.1.2.2.1
  have H := Lib.hid h
  have HB0 := Lib.hid (Bk.new 24 w #[.int .i64 N, .slice A l.length cap])
  have HE0 := Lib.hid (ext_alloc w (.cells #[.int .i64 N, .slice A l.length cap] 24))
  clear h hgood
  obtain ⟨R, hR⟩ : ∃ R, R = rndN N.toNat l := ⟨_, rfl⟩
  rw [← hR] at HF HR
  have HRR := Lib.hid hR
  clear hR
  have hrr : (R != R) = false := by simp
  go_enter Try.func7, Try.ntmps7
  go_upto_region 7 with (first
    | (go_at_call 32; refine (HF.out _ _ _ hs1 k1 k2).mono ?_; rintro e w2 ⟨rfl, hx2⟩; have B2 := bext B1 hx2 B1.size; clear f1 f2 f3; obtain ⟨f1, f2, f3⟩ := (HB0.out.ext (bext HL1.out hx2 HL1.out.size)).facts)
    | (go_at_call 33; refine (HR.out _ (H.out.ext B2)).mono ?_; rintro e w3 ⟨rfl, hx3⟩; have B3 := bext B2 hx3 B2.size; have G3 := Lib.hid (HB0.out.ext (bext (bext HL1.out hx2 HL1.out.size) hx3 (by have := HL1.out.size; have := hx2.size; omega))); clear f1 f2 f3; obtain ⟨f1, f2, f3⟩ := G3.out.facts)
    | (go_at_call 34; refine (HT.out _ _ _ hs5 k5 k6).mono ?_; rintro e w5 ⟨⟨Y, hs, A5, c5, hrl, htr, rfl, h51, h52, hms⟩, hx5⟩; have B5 := bext B4 hx5 B4.size; have G5 := Lib.hid (G4.out.ext hx5); have HRL := Lib.hid hrl; have HTR := Lib.hid htr; have hmv := moves_any A5 c5 (tmv Y hs) w5 (by rw [tmv_len, tour_len htr]; have := hrl.len; omega) (by rw [tmv_len]; exact h51) (by unfold maxLen at h52; exact h52) hms; rw [tmv_len] at hmv; have hlen : hs.length ≤ 1000 := (by have h1 := tour_len htr; have h2 := hrl.len; omega); have HMV := Lib.hid hmv; clear hrl htr hmv hms)
    | (go_at_call 35; refine HMV.out.mono ?_; rintro e w6 ⟨A6, c6, rfl, h61, h62, hms6, hx6⟩; have B6 := bext B5 hx6 B5.size; have G6 := Lib.hid (G5.out.ext hx6); have HMS6 := Lib.hid hms6; clear hms6)
    | (go_at_call 18; refine (awake_any _).mono ?_; rintro e w7 ⟨rfl, hx7⟩; have B7 := bext B6 hx7 B6.size; have G7 := Lib.hid (G6.out.ext hx7); have HMS7 := Lib.hid (HMS6.out.ext hx7))
    | (go_at_call 16; refine (HG.out _ (H.out.ext B3)).mono ?_; rintro e w4 ⟨A4, c4, rfl, k5, k6, hs5, hx4⟩; have B4 := bext B3 hx4 B3.size; have G4 := Lib.hid (G3.out.ext hx4))
    | (go_at_call 16; refine (HG.out _ (H.out.ext HE0.out)).mono ?_; rintro e w1 ⟨A1, c1, rfl, k1, k2, hs1, hx1⟩; have B1 := ext_trans HE0.out hx1; have HL1 := Lib.hid hx1; obtain ⟨f1, f2, f3⟩ := (HB0.out.ext hx1).facts))
  have HX7 := Lib.hid B7
  clear f1 f2 f3 hx1 hx2 hx3 hx4 hx5 hx6 hx7 B1 B2 B3 B4 B5 B6 B7 hs1 hs5 HL1 G3 G4 G5 G6 HMS6 k1 k2 k5 k6
  obtain ⟨f1, f2, f3⟩ := G7.out.facts
  have g0 : w7.cell? ⟨w.heap.size, 0, none⟩ = some (.int .i64 N) := f1 0
  have g1 : w7.cell? ⟨w.heap.size, 1, none⟩ = some (.slice A l.length cap) := f1 1
  clear f1 f2
  by_cases hl0 : l.length = 0
  · have hs0 : hs.length = 0 := by
      rw [tour_len HTR.out]
      cases hY : Y with
      | nil => rfl
      | cons s Z =>
        obtain ⟨q, hq, -⟩ := HRL.out.ln s (by rw [hY]; simp)
        omega
    rw [hl0] at g1
    rw [hs0]
    have HLL := Lib.hid hl0
    clear hl0 hs0
    go_wp2
    go_ret
    exact ⟨rfl, HX7.out⟩
  · have hl1 : ¬ (l.length : Int) = 0 := by omega
    have hs1 : 0 < hs.length := by
      rw [tour_len HTR.out]
      obtain ⟨s, hs, -⟩ := HRL.out.all 0 (by omega)
      exact List.length_pos_of_mem hs
    have hs2 : ¬ (hs.length : Int) = 0 := by omega
    have hs3 : hs ≠ [] := fun e => by rw [e] at hs1; simp at hs1
    have hl3 : l ≠ [] := fun e => by rw [e] at hl0; simp at hl0
    have hwk := fun W (h : SSl W A l) (hr : MSl W A6 (tmv Y hs)) => HWK.out A6 c6 (tmv Y hs) W h (by rw [tmv_len]; exact h61) h62 hr
    rw [tmv_walk HRL.out.ln HTR.out] at hwk
    rw [tmv_len] at hwk
    have HWK2 := Lib.hid hwk
    clear hwk
    go_upto_region 11 with (go_at_call 36; refine (HWK2.out _ (H.out.ext HX7.out) HMS7.out).mono ?_; rintro e w8 ⟨rfl, hx8⟩)
    have HMS8 := HMS7.out.ext hx8
    have HX8 := Lib.hid (bext HX7.out hx8 HX7.out.size)
    have HG8 := Lib.hid (G7.out.ext hx8)
    clear f3 g0 g1 hx8 HWK2 HMV HMS7 G7 HX7
    obtain ⟨f1, f2, f3⟩ := HG8.out.facts
    have g0 : w8.cell? ⟨w.heap.size, 0, none⟩ = some (.int .i64 N) := f1 0
    have g1 : w8.cell? ⟨w.heap.size, 1, none⟩ = some (.slice A l.length cap) := f1 1
    clear f1 f2
    have hpn : 0 < (tmv Y hs).length := by rw [tmv_len]; exact hs1
    rcases HMS8 with hf | ⟨b6, off6, rfl, hb6, hcl⟩
    · rw [hf] at hpn; simp at hpn
    obtain ⟨p, hp⟩ : ∃ p, hs.length = p + 1 := ⟨hs.length - 1, by omega⟩
    have hpl : p < (tmv Y hs).length := by rw [tmv_len]; omega
    obtain ⟨c1, c2⟩ := hcl 0 hpn
    obtain ⟨d1, d2⟩ := hcl p hpl
    have hm0 : (tmv Y hs)[0] = Hop.mv Y (hs[0]'hs1) := by simp [tmv]
    have hml : (tmv Y hs)[p] = Hop.mv Y (hs[hs.length - 1]'(by omega)) := by simp [tmv, hp]
    have e0 := mv_ends HRL.out.ln (HTR.out.1.lt _ (List.getElem_mem hs1))
    have e1 := mv_ends HRL.out.ln (HTR.out.1.lt _ (List.getElem_mem (show hs.length - 1 < hs.length by omega)))
    rw [HTR.out.1.first hs1, ← hm0] at e0
    rw [HTR.out.1.last hs1, ← hml] at e1
    rw [Nat.zero_mul, Nat.add_zero] at c1 c2
    obtain ⟨m0, hm0'⟩ : ∃ m, m = (tmv Y hs)[0] := ⟨_, rfl⟩
    obtain ⟨m1, hm1'⟩ : ∃ m, m = (tmv Y hs)[p] := ⟨_, rfl⟩
    rw [← hm0'] at c1 c2 e0
    rw [← hm1'] at d1 d2 e1
    obtain ⟨k0, r0⟩ := m0
    obtain ⟨k1, r1⟩ := m1
    dsimp only at c1 c2 d1 d2
    have HE0' := Lib.hid e0
    have HE1' := Lib.hid e1
    obtain ⟨y0, hy0⟩ : ∃ y, y = (Mv.mk k0 r0).to_ l := ⟨_, rfl⟩
    obtain ⟨x1, hx1⟩ : ∃ y, y = (Mv.mk k1 r1).from l := ⟨_, rfl⟩
    have hen0 := fun W (h : SSl W A l) => HEN.out ⟨k0, r0⟩ W h e0.1
    have hen1 := fun W (h : SSl W A l) => HEN.out ⟨k1, r1⟩ W h e1.1
    rw [e0.2.1, ← hy0] at hen0
    rw [e1.2.2, ← hx1] at hen1
    have HEN0 := Lib.hid hen0
    have HEN1 := Lib.hid hen1
    have HKQ := Lib.hid (fun (W W' : World) (h1 : Below W.heap.size W W') (h2 : Below w8.heap.size w8 W) =>
      have h3 := bext h2 h1 h2.size
      (show Below w8.heap.size w8 W' ∧ W'.cell? ⟨w.heap.size, 0, none⟩ = some (.int .i64 N) ∧ W'.cell? ⟨w.heap.size, 1, none⟩ = some (.slice A l.length cap) ∧ W'.cell? ⟨b6, off6, none⟩ = some (.int .i64 k0) ∧ W'.cell? ⟨b6, off6 + 1, none⟩ = some (.bool r0) ∧ W'.cell? ⟨b6, off6 + p * 2, none⟩ = some (.int .i64 k1) ∧ W'.cell? ⟨b6, off6 + p * 2 + 1, none⟩ = some (.bool r1) from
        ⟨h3, (h3.cell (p := ⟨w.heap.size, 0, none⟩) f3).trans g0, (h3.cell (p := ⟨w.heap.size, 1, none⟩) f3).trans g1, (h3.cell (p := ⟨b6, off6, none⟩) hb6).trans c1, (h3.cell (p := ⟨b6, off6 + 1, none⟩) hb6).trans c2, (h3.cell (p := ⟨b6, off6 + p * 2, none⟩) hb6).trans d1, (h3.cell (p := ⟨b6, off6 + p * 2 + 1, none⟩) hb6).trans d2⟩))
    have HCL := Lib.hid hcl
    have HB6 := Lib.hid hb6
    have HS1 := Lib.hid hs1
    have hp1000 : p < 1000 := by omega
    have HPP := Lib.hid hp
    rw [hp]
    have ht3 : (0 : Int) ≤ (p : Int) := by omega
    have ht4 : (p : Int) < (p : Int) + 1 := by omega
    have ht6 : (p : Int) < ((p + 1 : Nat) : Int) := by omega
    have ht5 : IntKind.i64.wrap (p : Int) = (p : Int) := i64_wrapN p (by omega)
    have ht7 : IntKind.i64.wrap (((p + 1 : Nat) : Int) - 1) = (p : Int) := by rw [show (((p + 1 : Nat) : Int) - 1) = (p : Int) by omega]; exact ht5
    have ht8 : IntKind.i64.wrap ((p : Int) + 1 - 1) = (p : Int) := by rw [show ((p : Int) + 1 - 1) = (p : Int) by omega]; exact ht5
    have ht9 : (0 : Int) < (p : Int) + 1 := by omega
    clear hcl hm0 hml e0 e1 hm0' hm1' hy0 hx1 hen0 hen1 hpn h61 hs2 hs3 hb6
    go_cut [12] (fun z wx => z = .int .i64 f ∧ Below w8.heap.size w8 wx)
    case first =>
      go_region_held3 (fun wx => Below w8.heap.size w8 wx ∧ wx.cell? ⟨w.heap.size, 0, none⟩ = some (.int .i64 N) ∧ wx.cell? ⟨w.heap.size, 1, none⟩ = some (.slice A l.length cap) ∧ wx.cell? ⟨b6, off6, none⟩ = some (.int .i64 k0) ∧ wx.cell? ⟨b6, off6 + 1, none⟩ = some (.bool r0) ∧ wx.cell? ⟨b6, off6 + p * 2, none⟩ = some (.int .i64 k1) ∧ wx.cell? ⟨b6, off6 + p * 2 + 1, none⟩ = some (.bool r1))
        (first | exact HKQ.out _ _ (by assumption) (And.left (by assumption)) | exact HKQ.out _ _ (ext_drew _) (Below.refl _ _))
        (first
          | (go_at_call 37; refine (HEN0.out _ ?_).mono ?_; exact H.out.ext (bext HX8.out (And.left (by assumption)) HX8.out.size); rintro e w9 ⟨rfl, hx9⟩))
      all_goals
        go_wp2
        go_meet
        exact ⟨rfl, And.left (by assumption)⟩
    case rest =>
      obtain ⟨rfl, hb9⟩ := hcut
      rename_i hKc
      refine hKc _ _ ?_
      clear hKc c1 c2 d1 d2 g0 g1 f3
      obtain ⟨-, g0, g1, c1, c2, d1, d2⟩ := HKQ.out _ _ hb9 (Below.refl _ _)
      have HB9 := Lib.hid hb9
      obtain ⟨w9, hw9⟩ : ∃ w9, w9 = wc := ⟨_, rfl⟩
      rw [← hw9] at g0 g1 c1 c2 d1 d2 HB9 ⊢
      clear hb9 hw9
      go_upto_region 12 with (fail)
      go_cut [15] (fun z wx => z = .int .i64 f ∧ Below w8.heap.size w8 wx)
      case first =>
        go_region_held3 (fun wx => Below w8.heap.size w8 wx ∧ wx.cell? ⟨w.heap.size, 0, none⟩ = some (.int .i64 N) ∧ wx.cell? ⟨w.heap.size, 1, none⟩ = some (.slice A l.length cap) ∧ wx.cell? ⟨b6, off6, none⟩ = some (.int .i64 k0) ∧ wx.cell? ⟨b6, off6 + 1, none⟩ = some (.bool r0) ∧ wx.cell? ⟨b6, off6 + p * 2, none⟩ = some (.int .i64 k1) ∧ wx.cell? ⟨b6, off6 + p * 2 + 1, none⟩ = some (.bool r1))
          (first | exact HKQ.out _ _ (by assumption) (And.left (by assumption)) | exact HKQ.out _ _ (ext_drew _) HB9.out)
          (first
            | (go_at_call 37; refine (HEN1.out _ ?_).mono ?_; exact H.out.ext (bext HX8.out (And.left (by assumption)) HX8.out.size); rintro e w10 ⟨rfl, hx10⟩))
        all_goals
          go_wp2
          go_meet
          exact ⟨rfl, And.left (by assumption)⟩
      case rest =>
        obtain ⟨rfl, hb10⟩ := hcut
        rename_i hKc
        refine hKc _ _ ?_
        clear hKc c1 c2 d1 d2 g0 g1
        obtain ⟨-, g0, g1, c1, c2, d1, d2⟩ := HKQ.out _ _ hb10 (Below.refl _ _)
        have HB10 := Lib.hid hb10
        obtain ⟨w10, hw10⟩ : ∃ w10, w10 = wc := ⟨_, rfl⟩
        rw [← hw10] at g0 g1 HB10 ⊢
        have hmk : ∀ W, (Instr.makeSlice 67 (.int .i64 (l.length : Int)) (.int .i64 (l.length : Int))).run Try.prog W = .ok (.slice (some ⟨W.heap.size, 0, none⟩) l.length l.length) (W.alloc (.cells (cellsB l.length fun _ => false) 4)) := fun W => run_falses l.length (by omega) W
        clear hb10 hw10 c1 c2 d1 d2 HKQ HEN0 HEN1 HEN ht3 ht4 ht6 ht5 ht7 ht8 ht9
        have HM0 := Lib.hid (OwB.new w10 l.length (fun _ => false))
        go_upto_region 14 with (fail)
        clear hmk
        go_wp2
        obtain ⟨ms, hms⟩ : ∃ ms, ms = tmv Y hs := ⟨_, rfl⟩
        have HMS := Lib.hid hms
        rw [← hms] at HCL
        have hml : ms.length = p + 1 := by rw [hms, tmv_len]; exact hp
        have HML := Lib.hid hml
        have HX10 := Lib.hid (bext HX8.out HB10.out HX8.out.size)
        have HB6W := Lib.hid (show b6 < w10.heap.size from Nat.lt_of_lt_of_le HB6.out HB10.out.size)
        have HCL10 := Lib.hid (fun j (hj : j < ms.length) => (show w10.cell? ⟨b6, off6 + j * 2, none⟩ = some (.int .i64 ms[j].k) ∧ w10.cell? ⟨b6, off6 + j * 2 + 1, none⟩ = some (.bool ms[j].r) from ⟨(HB10.out.cell (p := ⟨b6, _, none⟩) HB6.out).trans (HCL.out j hj).1, (HB10.out.cell (p := ⟨b6, _, none⟩) HB6.out).trans (HCL.out j hj).2⟩))
        have HG10 := Lib.hid (HG8.out.ext HB10.out)
        obtain ⟨gm, hgm⟩ : ∃ gm, gm = w10.heap.size := ⟨_, rfl⟩
        have HGM := Lib.hid hgm
        have hm0 := HM0.out
        have HM1 := Lib.hid (show Below w10.heap.size w10 (w10.alloc (.cells (cellsB l.length fun _ => false) 4)) ∧ OwB gm l.length (metF ms 0) (w10.alloc (.cells (cellsB l.length fun _ => false) 4)) from ⟨ext_alloc _ _, by
          rw [hgm]
          have e : metF ms 0 = fun _ => false := by funext q; simp [metF]
          rw [e]
          exact hm0⟩)
        rw [← hgm]
        clear hms hml hgm hm0 HM0 HE0' HE1' g0 g1
        go_loopg [104, 17] (p + 1) (fun g z y wr => ∃ i : Nat, z = .int .i64 i ∧ y = .int .i64 (mvSum l (ms.take i)) ∧ i ≤ p + 1 ∧ g = p + 1 - i ∧ Below w10.heap.size w10 wr ∧ OwB gm l.length (metF ms i) wr)
        case atStart => exact ⟨0, rfl, rfl, by omega, by omega, HM1.out.1, HM1.out.2⟩
        case round =>
          obtain ⟨i, rfl, rfl, hi, hg, hb, ho⟩ := hrel
          have HGI := Lib.hid hg
          have HB := Lib.hid hb
          have HO := Lib.hid ho
          have hbw := Lib.hid (bext HX10.out hb HX10.out.size)
          obtain ⟨f1, f2, f3⟩ := (HG10.out.ext hb).facts
          have g1 : wr.cell? ⟨w.heap.size, 1, none⟩ = some (.slice A l.length cap) := f1 1
          clear hg hb ho HM1 f1 f2
          by_cases hlt : i < p + 1
          · have him : i < ms.length := by rw [HML.out]; exact hlt
            have hih : i < hs.length := by omega
            have hin : (0 ≤ ms[i].k ∧ ms[i].k < (l.length : Int)) := by
              have h := (mv_ends HRL.out.ln (HTR.out.1.lt _ (List.getElem_mem hih))).1
              have e : ms[i] = Hop.mv Y hs[i] := by simp only [HMS.out]; simp [tmv]
              rw [e]
              exact h
            obtain ⟨c1, c2⟩ := HCL10.out i him
            have c1 := (HB.out.cell (p := ⟨b6, off6 + i * 2, none⟩) HB6W.out).trans c1
            have c2 := (HB.out.cell (p := ⟨b6, off6 + i * 2 + 1, none⟩) HB6W.out).trans c2
            have hb6' : b6 < wr.heap.size := Nat.lt_of_lt_of_le HB6W.out HB.out.size
            have hbd := mvSum_bd HOK.out.1.1.2.2.2 (ms.take i)
            rw [List.length_take] at hbd
            obtain ⟨q, hq⟩ := Int.eq_ofNat_of_zero_le hin.1
            have hql : q < l.length := by omega
            have HST := Lib.hid (metF_step him hq)
            have hsu := mvSum_step him hql hq
            rcases H.out.ext hbw.out with hf' | ⟨b, off, rfl, hblt, hcl⟩
            · rw [hf'] at hql; simp at hql
            obtain ⟨s1, s2, s3, s4⟩ := hcl q hql
            have hso := HOK.out.1.1.2.2.2 _ (List.getElem_mem hql)
            unfold SmOk at hso
            obtain ⟨m, hm⟩ : ∃ m, m = ms[i] := ⟨_, rfl⟩
            rw [← hm] at c1 c2 hq
            obtain ⟨mk, mr⟩ := m
            dsimp only at c1 c2 hq
            subst hq
            have HO2 := Lib.hid (HO.out.ext (ext_alloc wr (.cells #[.int .i64 (q : Int), .bool mr] 72)))
            have o1 := HO.out.cell (i := q) hql
            have o2 := HO.out.frozen q
            have o3 := HO.out.lt
            obtain ⟨ln, hln⟩ : ∃ x, x = l[q].n := ⟨_, rfl⟩
            rw [← hln] at s3 hsu
            have hln2 : 1 ≤ ln ∧ ln ≤ 10000 := by rw [hln]; omega
            have HSU := Lib.hid hsu
            have HB2 := Lib.hid (show Below w10.heap.size w10 ((wr.setCell ⟨gm, q, none⟩ (.bool true)).alloc (.cells #[.int .i64 (q : Int), .bool mr] 66)) from (HB.out.setCell (p := ⟨gm, q, none⟩) (by show w10.heap.size ≤ gm; rw [HGM.out]; exact Nat.le_refl _) _).alloc (by have := HB.out.size; simpa using this) _)
            have HO3 := Lib.hid (show OwB gm l.length (metF ms (i + 1)) ((wr.setCell ⟨gm, q, none⟩ (.bool true)).alloc (.cells #[.int .i64 (q : Int), .bool mr] 66)) from by
              rw [← HST.out]
              exact (HO.out.set q true).ext (ext_alloc _ _))
            have hx0 : 0 ≤ mvSum l (ms.take i) ∧ mvSum l (ms.take i) ≤ 100000000 := by
              have := hbd.1; have := hbd.2; have : min i ms.length ≤ 1000 := by omega
              omega
            clear hm hcl hso hln hsu hbd hin s1 s2 s4
            obtain ⟨sx, hsx⟩ : ∃ x, x = mvSum l (ms.take i) := ⟨_, rfl⟩
            rw [← hsx] at HSU hx0 ⊢
            clear hsx
            have hgw : gm ≠ wr.heap.size := by have := HO.out.lt; omega
            have HMV2 := Lib.hid (show Bk 66 ((wr.setCell ⟨gm, q, none⟩ (.bool true)).alloc (.cells #[.int .i64 (q : Int), .bool mr] 66)) wr.heap.size #[.int .i64 (q : Int), .bool mr] from by have h := Bk.new 66 (wr.setCell ⟨gm, q, none⟩ (.bool true)) #[.int .i64 (q : Int), .bool mr]; simpa using h)
            have HGV := Lib.hid ((HG10.out.ext HB2.out).cell 1)
            have HSV := Lib.hid ((H.out.ext (bext HX10.out HB2.out HX10.out.size)))
            have HBL := Lib.hid (show b < w.heap.size ∧ w.cell? ⟨b, off + q * 4 + 2, none⟩ = some (.int .i64 ln) from by
              rcases H.out with hf' | ⟨b', off', e, hblt', hcl'⟩
              · rw [hf'] at hql; simp at hql
              · injection e with e
                injection e with e1 e2
                subst e1 e2
                exact ⟨hblt', (hbw.out.cell (p := ⟨b, off + q * 4 + 2, none⟩) hblt').symm.trans s3⟩)
            go_upto_region 19 with (fail)
            obtain ⟨V, hV⟩ : ∃ V, V = (wr.setCell ⟨gm, q, none⟩ (.bool true)).alloc (.cells #[.int .i64 (q : Int), .bool mr] 66) := ⟨_, rfl⟩
            rw [← hV] at HB2 HO3 HMV2 HGV ⊢
            have HS3 := Lib.hid (((bext HX10.out HB2.out HX10.out.size).cell (p := ⟨b, off + q * 4 + 2, none⟩) HBL.out.1).trans HBL.out.2)
            have HGS := Lib.hid (show b < V.heap.size ∧ w.heap.size < V.heap.size from by
              have h1 := HBL.out.1
              have h2 := (bext HX10.out HB2.out HX10.out.size).size
              have h3 := (HG10.out.ext HB2.out).lt
              exact ⟨by omega, h3⟩)
            have HIP := Lib.hid (show i + 1 ≤ p + 1 from hlt)
            obtain ⟨gv, hgv⟩ : ∃ gv, gv = wr.heap.size := ⟨_, rfl⟩
            rw [← hgv] at HMV2 ⊢
            clear s3 g1 c1 c2 o1 o2 o3 f3 hb6' hblt hV HO HO2 HSV hbw HB hgw hgv
            have s3 := HS3.out
            have g1 : V.cell? ⟨w.heap.size, 1, none⟩ = some (.slice (some ⟨b, off, none⟩) l.length cap) := HGV.out
            have v0 : V.cell? ⟨gv, 0, none⟩ = some (.int .i64 (q : Int)) := HMV2.out.cell 0
            obtain ⟨b1', b2'⟩ := HGS.out
            have b3' := HMV2.out.lt
            go_wp2
            go_roundg (p + 1 - (i + 1))
            case measure => have := HGI.out; omega
            case rel => exact ⟨i + 1, by go_num, by rw [HSU.out], HIP.out, rfl, HB2.out, HO3.out⟩
          · obtain rfl : i = p + 1 := by omega
            have htk : ms.take (p + 1) = ms := by rw [← HML.out]; exact List.take_length
            have hall : ∀ q, q < l.length → metF ms (p + 1) q = true := by
              intro q hq
              unfold metF
              rw [htk]
              obtain ⟨m, hm, e⟩ := tmv_all HRL.out HTR.out hq
              rw [← HMS.out] at hm
              exact decide_eq_true (List.mem_map.2 ⟨m, hm, e⟩)
            have HCT := Lib.hid (contains_all gm l.length (metF ms (p + 1)) wr (by omega) HO.out hall)
            have hsum : mvSum l (ms.take (p + 1)) = R := by
              rw [htk, HMS.out, tmv_sum HTR.out, HRL.out.sum, HRR.out]
              rfl
            rw [hsum]
            have hff : (f == f) = true := by simp
            have hRR : (R == R) = true := by simp
            clear hsum hall htk g1 f3
            go_wp2_with (go_at_call 38; refine HCT.out.mono ?_; rintro e w11 ⟨rfl, hx11⟩)
            go_ret
            exact ⟨rfl, bext hbw.out hx11 hbw.out.size⟩

theorem law_round (N : Int) (A : Option Addr) (cap : Nat) (l : List Sm) (f : Int) (w : World) (hc : l.length ≤ cap) (hcm : cap ≤ 9223372036854775807) (h : SSl w A l) :
    Calls Try.prog 7 #[.agg #[.int .i64 N, .slice A l.length cap], .int .i64 f] w fun e w' => e = .returned (.bool true) ∧ Below w.heap.size w w' := by
  by_cases hg : ROk N f l ∧ Conn l f.toNat
  · exact law_round_good N f A cap l w hg hc hcm h
  · exact law_round_bad N f A cap l w hg hc hcm h
end Go.Proofs.Ytbhjhajnhpohlaa
