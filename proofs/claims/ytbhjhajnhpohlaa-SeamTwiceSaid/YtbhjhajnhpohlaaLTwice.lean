/- SeamTwice walked. Conditions: the slice reads as a list of seams. -/
import Derived.Test.YtbhjhajnhpohlaaTwQ
import Derived.Test.YtbhjhajnhpohlaaLRound
import Derived.Test.YtbhjhajnhpohlaaBr
namespace Go.Proofs.Ytbhjhajnhpohlaa
open Go.RowKit

set_option maxRecDepth 100000 in
set_option maxHeartbeats 4000000 in
theorem containsI_any (A : Option Addr) (cap : Nat) (xs : List Int) (x : Int) (w : World) (hn : xs.length ≤ 1000000) (h : ISl w A xs) :
    Calls Try.prog 40 #[.slice A xs.length cap, .int .i64 x] w fun e w' => e = .returned (.bool (decide (x ∈ xs))) ∧ Below w.heap.size w w' := by
  have H := Lib.hid h
  have hix : Calls Try.prog 67 #[.slice A xs.length cap, .int .i64 x] w fun e w' => (∃ z : Int, e = .returned (.int .i64 z) ∧ decide (0 ≤ z) = decide (x ∈ xs)) ∧ Below w.heap.size w w' := by
    clear h
    go_enter Try.func67, Try.ntmps67
    go_wp2
    go_loopg [8] xs.length (fun g i wr => ∃ k : Nat, i = .int .i64 k ∧ k ≤ xs.length ∧ g = xs.length - k ∧ Below w.heap.size w wr ∧ x ∉ xs.take k)
    case atStart => exact ⟨0, rfl, by omega, by omega, Below.refl _ _, by simp⟩
    case round =>
      obtain ⟨k, rfl, hk, hg, hb, hnot⟩ := hrel
      have HG := Lib.hid hg
      have HN := Lib.hid hnot
      clear hg hnot
      by_cases hlt : k < xs.length
      · rcases H.out.ext hb with hf | ⟨b, off, rfl, hblt, hcl⟩
        · rw [hf] at hlt; simp at hlt
        · have c1 := hcl k hlt
          obtain ⟨y, hy⟩ : ∃ y, y = xs[k] := ⟨_, rfl⟩
          rw [← hy] at c1
          have HY := Lib.hid hy
          clear hy hcl
          by_cases e : x = y
          · have e2 : (x == y) = true := by simpa using e
            have HE := Lib.hid (show x ∈ xs from by rw [e, HY.out]; exact List.getElem_mem hlt)
            clear e
            go_wp2
            go_ret
            exact ⟨⟨k, rfl, by rw [decide_eq_true HE.out]; exact decide_eq_true (by omega)⟩, hb⟩
          · have e2 : (x == y) = false := by simpa using e
            have HE := Lib.hid (show x ∉ xs.take (k + 1) from by
              rw [List.take_succ_eq_append_getElem hlt, List.mem_append]
              rintro (h | h)
              · exact HN.out h
              · rw [← HY.out] at h
                exact e (by simpa using h))
            clear e
            go_wp2
            go_roundg (xs.length - (k + 1))
            case measure => have := HG.out; omega
            case rel => exact ⟨k + 1, by go_num, by omega, rfl, hb, HE.out⟩
      · obtain rfl : k = xs.length := by omega
        have HE := Lib.hid (show x ∉ xs from by have h := HN.out; rwa [List.take_length] at h)
        go_wp2
        go_ret
        exact ⟨⟨-1, rfl, by rw [decide_eq_false HE.out]; decide⟩, hb⟩
  have HIX := Lib.hid hix
  clear h hix
  go_enter Try.func40, Try.ntmps40
  go_wp2_with (go_at_call 67; refine HIX.out.mono ?_; rintro e w1 ⟨⟨z, rfl, hz⟩, hx1⟩; have HZ := Lib.hid hz; clear hz)
  go_ret
  exact ⟨by rw [← HZ.out]; rfl, hx1⟩

/-- the code of Bridges -/
def codeB (N : Int) (l : List Sm) : Int := if GOk N l then 0 else 2
theorem RetBr.one {w : World} {N : Int} {l : List Sm} {e : Ending} {w' : World} (h : RetBr w N (cpy l) e w') : ∃ A k cap, e = .returned (.tuple #[.slice A k cap, .int .i64 (codeB N l)]) ∧ Below w.heap.size w w' := by
  obtain ⟨hb, h⟩ := h
  unfold codeB
  rcases h with ⟨h1, h2⟩ | ⟨h1, A, cap, h2, h3⟩
  · rw [if_neg (fun h => h1 (cpy_ok.2 h))]
    exact ⟨none, 0, 0, h2, hb⟩
  · rw [if_pos (cpy_ok.1 h1)]
    exact ⟨A, _, cap, h2, hb⟩
theorem RetBr.good {w : World} {N : Int} {l : List Sm} {e : Ending} {w' : World} (h : RetBr w N (cpy l) e w') (hg : GOk N l) : ∃ A cap, e = .returned (.tuple #[.slice A (brd N.toNat l l.length).length cap, .int .i64 0]) ∧ ISl w' A (brd N.toNat l l.length) ∧ Below w.heap.size w w' := by
  obtain ⟨hb, h⟩ := h
  rcases h with ⟨h1, h2⟩ | ⟨h1, A, cap, h2, h3⟩
  · exact absurd (cpy_ok.2 hg) h1
  · rw [cpy_eq hg] at h2 h3
    exact ⟨A, cap, h2, h3, hb⟩

set_option maxRecDepth 100000 in
set_option maxHeartbeats 4000000 in
theorem law_twice_bad (N f : Int) (A : Option Addr) (cap : Nat) (l : List Sm) (w : World) (hbad : ¬ (ROk N f l ∧ Conn l f.toNat)) (hc : l.length ≤ cap) (hcm : cap ≤ 9223372036854775807) (h : SSl w A l) :
    Calls Try.prog 8 #[.agg #[.int .i64 N, .slice A l.length cap], .int .i64 f] w fun e w' => e = .returned (.bool true) ∧ Below w.heap.size w w' := by
  have HG := Lib.hid (fun W (h : SSl W A l) => graph_any N A cap l W hc hcm h)
  have HF := Lib.hid (fun A' cap' W (h : SSl W A' (cpy l)) (h1 : (cpy l).length ≤ cap') (h2 : cap' ≤ 9223372036854775807) => (Round_any N f A' cap' (cpy l) W h1 h2 h).mono fun e w' h => h.cpd.bad hbad)
  have HT := Lib.hid (fun A' cap' W (h : SSl W A' (cpy l)) (h1 : (cpy l).length ≤ cap') (h2 : cap' ≤ 9223372036854775807) => (Tour_any N f A' cap' (cpy l) W h1 h2 h).mono fun e w' h => h.cpd.bad hbad)
  have HBR := Lib.hid (fun A' cap' W (h : SSl W A' (cpy l)) (h1 : (cpy l).length ≤ cap') (h2 : cap' ≤ 9223372036854775807) => (Bridges_any N A' cap' (cpy l) W h1 h2 h).mono fun e w' h => h.one)
  have HV := Lib.hid (fun W (h : SSl W A l) => rvalid_any N A cap l W hc hcm h)
  have hne := code_ne hbad
  have H := Lib.hid h
  have HB0 := Lib.hid (Bk.new 24 w #[.int .i64 N, .slice A l.length cap])
  have HE0 := Lib.hid (ext_alloc w (.cells #[.int .i64 N, .slice A l.length cap] 24))
  have hcd : codeB N l = if vldG N l then 0 else 2 := by
    unfold codeB
    by_cases hg : GOk N l
    · rw [if_pos hg, vldG_yes hg]; rfl
    · rw [if_neg hg, vldG_no hg]; rfl
  rw [hcd] at HBR
  clear h hbad hcd
  generalize codeR N f l = c at *
  have hne2 : (c != 0) = true := by rw [bne_iff_ne]; exact hne
  have hcc : (c == c) = true := by simp
  cases hv : vldG N l
  all_goals
    rw [hv] at HV HBR
    clear hv
    go_enter Try.func8, Try.ntmps8
    go_wp2_with (first
      | (go_at_call 32; refine (HF.out _ _ _ hs1 k1 k2).mono ?_; rintro e w2 ⟨rfl, hx2⟩; have B2 := bext B1 hx2 B1.size; have G2 := Lib.hid (G1.out.ext hx2); clear f1 f2 f3; obtain ⟨f1, f2, f3⟩ := G2.out.facts)
      | (go_at_call 34; refine (HT.out _ _ _ hs3 k3 k4).mono ?_; rintro e w4 ⟨rfl, hx4⟩; have B4 := bext B3 hx4 B3.size; have G4 := Lib.hid (G3.out.ext hx4); clear f1 f2 f3; obtain ⟨f1, f2, f3⟩ := G4.out.facts)
      | (go_at_call 30; refine (HBR.out _ _ _ hs5 k5 k6).mono ?_; rintro e w6 ⟨A6, n6, c6, rfl, hx6⟩; have B6 := bext B5 hx6 B5.size; have G6 := Lib.hid (G5.out.ext hx6); clear f1 f2 f3; obtain ⟨f1, f2, f3⟩ := G6.out.facts)
      | (go_at_call 22; refine (HV.out _ (H.out.ext B6)).mono ?_; rintro e w7 ⟨rfl, hx7⟩; have B7 := bext B6 hx7 B6.size)
      | (go_at_call 18; refine (awake_any _).mono ?_; rintro e w8 ⟨rfl, hx8⟩; have B8 := bext B7 hx8 B7.size)
      | (go_at_call 16; refine (HG.out _ (H.out.ext B4)).mono ?_; rintro e w5 ⟨A5, c5, rfl, k5, k6, hs5, hx5⟩; have B5 := bext B4 hx5 B4.size; have G5 := Lib.hid (G4.out.ext hx5))
      | (go_at_call 16; refine (HG.out _ (H.out.ext B2)).mono ?_; rintro e w3 ⟨A3, c3, rfl, k3, k4, hs3, hx3⟩; have B3 := bext B2 hx3 B2.size; have G3 := Lib.hid (G2.out.ext hx3))
      | (go_at_call 16; refine (HG.out _ (H.out.ext HE0.out)).mono ?_; rintro e w1 ⟨A1, c1, rfl, k1, k2, hs1, hx1⟩; have B1 := ext_trans HE0.out hx1; have G1 := Lib.hid (HB0.out.ext hx1); obtain ⟨f1, f2, f3⟩ := G1.out.facts))
    go_ret
    exact ⟨rfl, B8⟩

theorem tms_step {ms : List Mv} {i : Nat} (hi : i < ms.length) {q : Nat} (hq : ms[i].k = (q : Int)) : upd (fun x => (tms (ms.take i) x : Int)) q ((tms (ms.take i) q : Int) + 1) = fun x => (tms (ms.take (i + 1)) x : Int) := by
  funext x
  unfold upd tms
  rw [List.take_succ_eq_append_getElem hi, List.map_append, List.count_append]
  simp only [List.map_cons, List.map_nil, hq, List.count_cons, List.count_nil, beq_iff_eq]
  by_cases e : x = q
  · subst e
    rw [if_pos rfl, if_pos rfl]
    push_cast; omega
  · rw [if_neg e, if_neg (by omega)]
    push_cast; omega
theorem tms_le (ms : List Mv) (i q : Nat) : tms (ms.take i) q ≤ i := by
  unfold tms
  have h1 := List.count_le_length (a := (q : Int)) (l := (ms.take i).map Mv.k)
  rw [List.length_map, List.length_take] at h1
  omega

set_option maxRecDepth 100000 in
set_option maxHeartbeats 4000000 in
theorem law_twice_good (n : Nat) (f : Int) (A : Option Addr) (cap : Nat) (l : List Sm) (w : World) (hgood : ROk n f l ∧ Conn l f.toNat) (hc : l.length ≤ cap) (hcm : cap ≤ 9223372036854775807) (h : SSl w A l) :
    Calls Try.prog 8 #[.agg #[.int .i64 (n : Int), .slice A l.length cap], .int .i64 f] w fun e w' => e = .returned (.bool true) ∧ Below w.heap.size w w' := by
  have hok := hgood.1.1
  have HG := Lib.hid (fun W (h : SSl W A l) => graph_any n A cap l W hc hcm h)
  have HF := Lib.hid (fun A' cap' W (h : SSl W A' (cpy l)) (h1 : (cpy l).length ≤ cap') (h2 : cap' ≤ 9223372036854775807) => (Round_any n f A' cap' (cpy l) W h1 h2 h).mono fun e w' h => h.cpd.good hgood)
  have HT := Lib.hid (fun A' cap' W (h : SSl W A' (cpy l)) (h1 : (cpy l).length ≤ cap') (h2 : cap' ≤ 9223372036854775807) => (Tour_any n f A' cap' (cpy l) W h1 h2 h).mono fun e w' h => h.cpd.good hgood)
  have HBR := Lib.hid (fun A' cap' W (h : SSl W A' (cpy l)) (h1 : (cpy l).length ≤ cap') (h2 : cap' ≤ 9223372036854775807) => (Bridges_any n A' cap' (cpy l) W h1 h2 h).mono fun e w' h => h.good hok)
  have hv := fun W (h : SSl W A l) => rvalid_any n A cap l W hc hcm h
  rw [vldG_yes hok] at hv
  have HV := Lib.hid hv
  have HTO := Lib.hid (fun W (h : SSl W A l) => rTotal_any n A cap l W hok hc hcm h)
  have HOK := Lib.hid hgood
  have l64 := hok.2.2.1
  have n16 : n ≤ 16 := by have := hok.2.1; omega
  have H := Lib.hid h
  have HB0 := Lib.hid (Bk.new 24 w #[.int .i64 (n : Int), .slice A l.length cap])
  have HE0 := Lib.hid (ext_alloc w (.cells #[.int .i64 (n : Int), .slice A l.length cap] 24))
  have hmk : ∀ W, (Instr.makeSlice 35 (.int .i64 (n : Int)) (.int .i64 (n : Int))).run Try.prog W = .ok (.slice (some ⟨W.heap.size, 0, none⟩) n n) (W.alloc (.cells (cellsOf n fun _ => 0) 3)) := fun W => run_zeros n (by omega) W
  obtain ⟨R, hR⟩ : ∃ R, R = rndN n l := ⟨_, rfl⟩
  rw [Int.toNat_natCast, ← hR] at HF
  have HRR := Lib.hid hR
  clear h hgood hok hv hR
  go_enter Try.func8, Try.ntmps8
  go_upto_region 6 with (first
    | (go_at_call 32; refine (HF.out _ _ _ hs1 k1 k2).mono ?_; rintro e w2 ⟨rfl, hx2⟩; have B2 := bext B1 hx2 B1.size; have G2 := Lib.hid (G1.out.ext hx2); clear f1 f2 f3; obtain ⟨f1, f2, f3⟩ := G2.out.facts)
    | (go_at_call 34; refine (HT.out _ _ _ hs3 k3 k4).mono ?_; rintro e w4 ⟨⟨Y, hs, A4, c4, hrl, htr, rfl, h41, h42, hms⟩, hx4⟩; have B4 := bext B3 hx4 B3.size; have G4 := Lib.hid (G3.out.ext hx4); have HRL := Lib.hid hrl; have HTR := Lib.hid htr; have hlen : hs.length ≤ 1000 := (by have h1 := tour_len htr; have h2 := hrl.len; omega); have HMS := Lib.hid (show MSl w4 A4 (tmv Y hs) from hms); clear f1 f2 f3 hrl htr hms; obtain ⟨f1, f2, f3⟩ := G4.out.facts)
    | (go_at_call 30; refine (HBR.out _ _ _ hs5 k5 k6).mono ?_; rintro e w6 ⟨A6, c6, rfl, hi6, hx6⟩; have B6 := bext B5 hx6 B5.size; have G6 := Lib.hid (G5.out.ext hx6); have HI6 := Lib.hid hi6; have HMS6 := Lib.hid (HMS5.out.ext hx6); clear f1 f2 f3 hi6; obtain ⟨f1, f2, f3⟩ := G6.out.facts)
    | (go_at_call 22; refine (HV.out _ (H.out.ext B6)).mono ?_; rintro e w7 ⟨rfl, hx7⟩; have B7 := Lib.hid (bext B6 hx7 B6.size); have G7 := Lib.hid (G6.out.ext hx7); have HI7 := Lib.hid (HI6.out.ext hx7); have HMS7 := Lib.hid (HMS6.out.ext hx7); clear f1 f2 f3; obtain ⟨f1, f2, f3⟩ := G7.out.facts)
    | (go_at_call 16; refine (HG.out _ (H.out.ext B4)).mono ?_; rintro e w5 ⟨A5, c5, rfl, k5, k6, hs5, hx5⟩; have B5 := bext B4 hx5 B4.size; have G5 := Lib.hid (G4.out.ext hx5); have HMS5 := Lib.hid (HMS.out.ext hx5))
    | (go_at_call 16; refine (HG.out _ (H.out.ext B2)).mono ?_; rintro e w3 ⟨A3, c3, rfl, k3, k4, hs3, hx3⟩; have B3 := bext B2 hx3 B2.size; have G3 := Lib.hid (G2.out.ext hx3))
    | (go_at_call 16; refine (HG.out _ (H.out.ext HE0.out)).mono ?_; rintro e w1 ⟨A1, c1, rfl, k1, k2, hs1, hx1⟩; have B1 := ext_trans HE0.out hx1; have G1 := Lib.hid (HB0.out.ext hx1); obtain ⟨f1, f2, f3⟩ := G1.out.facts))
  clear hs1 hs3 hs5 k1 k2 k3 k4 k5 k6 hx1 hx2 hx3 hx4 hx5 hx6 hx7 B1 B2 B3 B4 B5 B6 G1 G2 G3 G4 G5 G6 HMS HMS5 HMS6 HI6
  obtain ⟨gd, hgd⟩ : ∃ gd, gd = w7.heap.size := ⟨_, rfl⟩
  have HGD := Lib.hid hgd
  have HS0 := Lib.hid (show Below w7.heap.size w7 (w7.alloc (.cells (cellsOf n fun _ => 0) 3)) ∧ Ow 3 gd n (deg allS (l.take 0)) (w7.alloc (.cells (cellsOf n fun _ => 0) 3)) from ⟨ext_alloc _ _, by rw [hgd]; exact Ow.new _ _ _ _⟩)
  have g0 : w7.cell? ⟨w.heap.size, 0, none⟩ = some (.int .i64 (n : Int)) := f1 0
  have g1 : w7.cell? ⟨w.heap.size, 1, none⟩ = some (.slice A l.length cap) := f1 1
  clear f1 f2 hgd
  go_upto_region 7 with (fail)
  rw [← HGD.out]
  clear hmk
  go_wp2
  go_loopg [81] l.length (fun g i wr => ∃ k : Nat, i = .int .i64 k ∧ k ≤ l.length ∧ g = l.length - k ∧ Below w7.heap.size w7 wr ∧ Ow 3 gd n (deg allS (l.take k)) wr)
  case atStart => exact ⟨0, rfl, by omega, by omega, HS0.out.1, HS0.out.2⟩
  case round =>
    obtain ⟨k, rfl, hk, hg, hb, ho⟩ := hrel
    have HGI := Lib.hid hg
    have HB := Lib.hid hb
    have HO := Lib.hid ho
    have hbw := Lib.hid (bext B7.out hb B7.out.size)
    clear hg hb ho HS0
    by_cases hlt : k < l.length
    · rcases H.out.ext hbw.out with hf | ⟨b, off, rfl, hblt, hcl⟩
      · rw [hf] at hlt; simp at hlt
      · obtain ⟨c1, c2, c3, c4'⟩ := hcl k hlt
        have hso := HOK.out.1.1.2.2.2 _ (List.getElem_mem hlt)
        obtain ⟨s, hs'⟩ : ∃ s, s = l[k] := ⟨_, rfl⟩
        rw [← hs'] at c1 c2 c3 c4' hso
        have HSK := Lib.hid hs'
        obtain ⟨a, b', m, t⟩ := s
        dsimp only at c1 c2 c3 c4'
        obtain ⟨o1, o2, o3, o4, -, -, -, -⟩ := hso
        dsimp only at o1 o2 o3 o4
        obtain ⟨ja, rfl⟩ := Int.eq_ofNat_of_zero_le o1
        obtain ⟨jb, rfl⟩ := Int.eq_ofNat_of_zero_le o3
        have hja : ja < n := by omega
        have hjb : jb < n := by omega
        have HDU := Lib.hid (deg_upd (ch := allS) hlt HSK.out rfl (ja := ja) (jb := jb) rfl rfl)
        have hr1 := deg_range allS (l.take k) ja
        have hr2 := deg_range allS (l.take k) jb
        rw [List.length_take] at hr1 hr2
        obtain ⟨d, hd⟩ : ∃ d, d = deg allS (l.take k) := ⟨_, rfl⟩
        rw [← hd] at HDU HO hr1 hr2
        have HSB := Lib.hid (Bk.new 69 wr #[.int .i64 (ja : Int), .int .i64 (jb : Int), .int .i64 m, .int .i64 t])
        have HO1 := Lib.hid (HO.out.ext (ext_alloc wr (.cells #[.int .i64 (ja : Int), .int .i64 (jb : Int), .int .i64 m, .int .i64 t] 69)))
        have HB1 := Lib.hid (bext HB.out (ext_alloc wr (.cells #[.int .i64 (ja : Int), .int .i64 (jb : Int), .int .i64 m, .int .i64 t] 69)) HB.out.size)
        have hgw : gd < wr.heap.size := HO.out.lt
        clear hs' hcl hd
        go_upto_region 10 with (fail)
        obtain ⟨V, hV⟩ : ∃ V, V = wr.alloc (.cells #[.int .i64 (ja : Int), .int .i64 (jb : Int), .int .i64 m, .int .i64 t] 69) := ⟨_, rfl⟩
        obtain ⟨gs, hgs⟩ : ∃ gs, gs = wr.heap.size := ⟨_, rfl⟩
        rw [← hV] at HSB HO1 HB1 ⊢
        rw [← hgs] at HSB hgw ⊢
        clear hV hgs c1 c2 c3 c4' hblt HB HO hbw
        have hne : gs ≠ gd := by omega
        have v0 : V.cell? ⟨gs, 0, none⟩ = some (.int .i64 (ja : Int)) := HSB.out.cell 0
        have q1 := HO1.out.cell hja
        have q2 := HO1.out.frozen ja
        have q3 := HO1.out.lt
        have HSB2 := Lib.hid (HSB.out.set_ne (k := gd) (j := ja) hne (.int .i64 (d ja + 1)))
        have HO2 := Lib.hid (HO1.out.set ja (d ja + 1))
        have HB2 := Lib.hid (HB1.out.setCell (p := ⟨gd, ja, none⟩) (by show w7.heap.size ≤ gd; rw [HGD.out]; exact Nat.le_refl _) (.int .i64 (d ja + 1)))
        go_upto_region 11 with (fail)
        obtain ⟨V2, hV2⟩ : ∃ V2, V2 = V.setCell ⟨gd, ja, none⟩ (.int .i64 (d ja + 1)) := ⟨_, rfl⟩
        rw [← hV2] at HSB2 HO2 HB2 ⊢
        clear hV2 v0 q1 q2 q3 HSB HO1 HB1
        have v1 : V2.cell? ⟨gs, 1, none⟩ = some (.int .i64 (jb : Int)) := HSB2.out.cell 1
        have q1 := HO2.out.cell hjb
        have q2 := HO2.out.frozen jb
        have q3 := HO2.out.lt
        obtain ⟨y, hy⟩ : ∃ y, y = upd d ja (d ja + 1) jb := ⟨_, rfl⟩
        have hyb : 0 ≤ y ∧ y ≤ 1000 := by
          rw [hy]; unfold upd
          split <;> omega
        rw [← hy] at q1
        have HO3 := Lib.hid (show Ow 3 gd n (deg allS (l.take (k + 1))) (V2.setCell ⟨gd, jb, none⟩ (.int .i64 (y + 1))) from by
          rw [← HDU.out]
          have h := HO2.out.set jb (y + 1)
          rw [hy] at h
          rw [hy]
          exact h)
        have HB3 := Lib.hid (HB2.out.setCell (p := ⟨gd, jb, none⟩) (by show w7.heap.size ≤ gd; rw [HGD.out]; exact Nat.le_refl _) (.int .i64 (y + 1)))
        clear hy HDU
        go_wp2
        go_roundg (l.length - (k + 1))
        case measure => have := HGI.out; omega
        case rel => exact ⟨k + 1, by go_num, by omega, rfl, HB3.out, HO3.out⟩
    · obtain rfl : k = l.length := by omega
      have hod := HO.out
      rw [List.take_length] at hod
      have HOD := Lib.hid hod
      clear hod HO HGI
      go_wp2
      go_loopg [102, 14] n (fun g i z wx => ∃ j : Nat, i = .int .i64 j ∧ z = .bool (decide (∀ x, x < j → deg allS l x % 2 = 0)) ∧ j ≤ n ∧ g = n - j ∧ wx = wr)
      case atStart => exact ⟨0, rfl, by rw [decide_eq_true (by omega)], by omega, by omega, rfl⟩
      case round =>
        obtain ⟨j, rfl, rfl, hj, hg, hww⟩ := hrel
        subst hww
        have HGI := Lib.hid hg
        clear hg
        by_cases hlt2 : j < n
        · have q1 := HOD.out.cell hlt2
          have hr1 := deg_range allS l j
          have hstep : (decide (∀ x, x < j + 1 → deg allS l x % 2 = 0)) = (decide (∀ x, x < j → deg allS l x % 2 = 0) && decide (deg allS l j % 2 = 0)) := by
            rw [Bool.eq_iff_iff]
            simp only [Bool.and_eq_true, decide_eq_true_eq]
            exact ⟨fun h => ⟨fun x hx => h x (by omega), h j (by omega)⟩, fun h x hx => by
              by_cases e : x = j
              · rw [e]; exact h.2
              · exact h.1 x (by omega)⟩
          have HSTEP := Lib.hid hstep
          obtain ⟨dj, hdj⟩ : ∃ dj, dj = deg allS l j := ⟨_, rfl⟩
          rw [← hdj] at q1 hr1 HSTEP
          obtain ⟨B, hB⟩ : ∃ B, B = decide (∀ x, x < j → deg allS l x % 2 = 0) := ⟨_, rfl⟩
          rw [← hB] at HSTEP ⊢
          clear hstep hdj hB
          by_cases hev : dj % 2 = 0
          · have hd2 : dj.tmod 2 = 0 := by rw [Int.tmod_eq_emod_of_nonneg hr1.1]; exact hev
            have HEV := Lib.hid hev
            clear hev
            cases B
            · go_wp2
              go_roundg (n - (j + 1))
              case measure => have := HGI.out; omega
              case rel => exact ⟨j + 1, by go_num, by rw [HSTEP.out]; rfl, by omega, rfl, rfl⟩
            · go_wp2
              go_roundg (n - (j + 1))
              case measure => have := HGI.out; omega
              case rel => exact ⟨j + 1, by go_num, by rw [HSTEP.out, decide_eq_true HEV.out]; rfl, by omega, rfl, rfl⟩
          · have hd2 : dj.tmod 2 = 1 := by rw [Int.tmod_eq_emod_of_nonneg hr1.1]; omega
            have HEV := Lib.hid hev
            clear hev
            cases B
            · go_wp2
              go_roundg (n - (j + 1))
              case measure => have := HGI.out; omega
              case rel => exact ⟨j + 1, by go_num, by rw [HSTEP.out]; rfl, by omega, rfl, rfl⟩
            · go_wp2
              go_roundg (n - (j + 1))
              case measure => have := HGI.out; omega
              case rel => exact ⟨j + 1, by go_num, by rw [HSTEP.out, decide_eq_false HEV.out]; rfl, by omega, rfl, rfl⟩
        · obtain rfl : n = j := by omega
          obtain ⟨E, hE⟩ : ∃ E, E = decide (∀ x, x < n → deg allS l x % 2 = 0) := ⟨_, rfl⟩
          rw [← hE]
          obtain ⟨S, hS⟩ : ∃ S, S = sumN l l.length := ⟨_, rfl⟩
          have hsb := sumN_bd (l := l) (fun s hs => HOK.out.1.1.2.2.2 s hs) l.length
          obtain ⟨D, hD⟩ : ∃ D, D = (dpv (fun i j => (tbl n l).L (jt (oddN allS l 16) i) (jt (oddN allS l 16) j)) 17592186044416 (oddN allS l 16).length (2 ^ (oddN allS l 16).length - 1)).1 := ⟨_, rfl⟩
          have hcn := HOK.out.2
          have hdl := dp_le HOK.out.1.1 hcn
          have hdz := fun h => dp_zero HOK.out.1.1 hcn h
          have hR : R = S + D := by rw [HRR.out, hS, hD]; rfl
          have hD0 : D = 0 ↔ E = true := by
            rw [hE, decide_eq_true_eq, ← odd_none HOK.out.1.1.2.2.2 n16]
            constructor
            · intro h
              exact hdz (by rw [← hD]; exact h)
            · intro h
              rw [hD, h]
              show (dpv _ _ 0 (2 ^ 0 - 1)).1 = 0
              rw [show 2 ^ 0 - 1 = 0 from rfl, dpv_zero]
          rw [← hS] at hsb
          rw [← hD, ← hS] at hdl
          have h1 : ¬ R < S := by omega
          have h2 : ¬ 2 * S < R := by omega
          have h3 : (R == S) = E := by
            rw [Bool.eq_iff_iff, beq_iff_eq, ← hD0]
            omega
          have h4 : (E != E) = false := by simp
          have h5 : 0 ≤ S ∧ S ≤ 1000000 := by omega
          have HTO2 := Lib.hid (fun W (h : SSl W A l) => HTO.out W h)
          rw [← hS] at HTO2
          have hgb := Lib.hid (show wr.cell? ⟨w.heap.size, 0, none⟩ = some (.int .i64 (n : Int)) ∧ wr.cell? ⟨w.heap.size, 1, none⟩ = some (.slice A l.length cap) ∧ w.heap.size < wr.heap.size from by
            have h := G7.out.ext HB.out
            exact ⟨h.cell 0, h.cell 1, h.lt⟩)
          obtain ⟨e0, e1, e2⟩ := hgb.out
          clear hE hS hsb hD hcn hdl hdz hR hD0 g0 g1 f3
          have hmk : ∀ W, (Instr.makeSlice 35 (.int .i64 (l.length : Int)) (.int .i64 (l.length : Int))).run Try.prog W = .ok (.slice (some ⟨W.heap.size, 0, none⟩) l.length l.length) (W.alloc (.cells (cellsOf l.length fun _ => 0) 3)) := fun W => run_zeros l.length (by omega) W
          go_upto_region 22 with (go_at_call 39; refine (HTO2.out _ (H.out.ext hbw.out)).mono ?_; rintro e w8 ⟨rfl, hx8⟩; have B8 := Lib.hid (bext hbw.out hx8 hbw.out.size); have BB8 := Lib.hid (bext HB.out hx8 HB.out.size); clear e0 e1 e2; have G8 := Lib.hid ((G7.out.ext HB.out).ext hx8); obtain ⟨f1, f2, f3⟩ := G8.out.facts)
          have g0 : w8.cell? ⟨w.heap.size, 0, none⟩ = some (.int .i64 (n : Int)) := f1 0
          have g1 : w8.cell? ⟨w.heap.size, 1, none⟩ = some (.slice A l.length cap) := f1 1
          obtain ⟨gt, hgt⟩ : ∃ gt, gt = w8.heap.size := ⟨_, rfl⟩
          have HGT := Lib.hid hgt
          obtain ⟨ms, hms⟩ : ∃ ms, ms = tmv Y hs := ⟨_, rfl⟩
          have HMSE := Lib.hid hms
          have HML := Lib.hid (show ms.length = hs.length from by rw [hms, tmv_len])
          have HT0 := Lib.hid (show Below w8.heap.size w8 (w8.alloc (.cells (cellsOf l.length fun _ => 0) 3)) ∧ Ow 3 gt l.length (fun x => (tms (ms.take 0) x : Int)) (w8.alloc (.cells (cellsOf l.length fun _ => 0) 3)) from ⟨ext_alloc _ _, by
            rw [hgt]
            exact (Ow.new 3 w8 l.length (fun _ => 0)).congr (fun i _ => by simp [tms])⟩)
          clear f1 f2 hgt hms HOD hgb h1 h2 h3 h4 h5 HB hbw
          go_upto_region 23 with (fail)
          rw [← HGT.out]
          clear hmk
          go_wp2
          go_loopg [137] hs.length (fun g i wr => ∃ k : Nat, i = .int .i64 k ∧ k ≤ hs.length ∧ g = hs.length - k ∧ Below w8.heap.size w8 wr ∧ Ow 3 gt l.length (fun x => (tms (ms.take k) x : Int)) wr)
          case atStart => exact ⟨0, rfl, by omega, by omega, HT0.out.1, HT0.out.2⟩
          case round =>
            obtain ⟨k, rfl, hk, hg, hb, ho⟩ := hrel
            have HGI := Lib.hid hg
            have HB := Lib.hid hb
            have HO := Lib.hid ho
            have hbw := Lib.hid (bext B8.out hb B8.out.size)
            clear hg hb ho HT0
            by_cases hlt3 : k < hs.length
            · have hkm : k < ms.length := by rw [HML.out]; exact hlt3
              rcases HMS7.out.ext (bext BB8.out HB.out BB8.out.size) with hf | ⟨b6, off6, rfl, hb6, hcl⟩
              · have := HML.out; rw [HMSE.out, hf] at this; simp at this; omega
              · rw [← HMSE.out] at hcl
                obtain ⟨c1, c2⟩ := hcl k hkm
                have hin : (0 ≤ ms[k].k ∧ ms[k].k < (l.length : Int)) := by
                  have h := (mv_ends HRL.out.ln (HTR.out.1.lt _ (List.getElem_mem hlt3))).1
                  have e : ms[k] = Hop.mv Y hs[k] := by simp only [HMSE.out]; simp [tmv]
                  rw [e]
                  exact h
                obtain ⟨q, hq⟩ := Int.eq_ofNat_of_zero_le hin.1
                have hql : q < l.length := by omega
                have HST := Lib.hid (tms_step hkm hq)
                have hle := tms_le ms k q
                obtain ⟨m, hm⟩ : ∃ m, m = ms[k] := ⟨_, rfl⟩
                rw [← hm] at c1 c2 hq
                obtain ⟨mk, mr⟩ := m
                dsimp only at c1 c2 hq
                subst hq
                have HMB := Lib.hid (Bk.new 72 wr #[.int .i64 (q : Int), .bool mr])
                have HO1 := Lib.hid (HO.out.ext (ext_alloc wr (.cells #[.int .i64 (q : Int), .bool mr] 72)))
                have HB1 := Lib.hid (bext HB.out (ext_alloc wr (.cells #[.int .i64 (q : Int), .bool mr] 72)) HB.out.size)
                clear hm hcl hin
                go_upto_region 26 with (fail)
                obtain ⟨V, hV⟩ : ∃ V, V = wr.alloc (.cells #[.int .i64 (q : Int), .bool mr] 72) := ⟨_, rfl⟩
                obtain ⟨gs, hgs⟩ : ∃ gs, gs = wr.heap.size := ⟨_, rfl⟩
                rw [← hV] at HMB HO1 HB1 ⊢
                rw [← hgs] at HMB ⊢
                clear hV hgs c1 c2 hb6 HB HO hbw
                have v0 : V.cell? ⟨gs, 0, none⟩ = some (.int .i64 (q : Int)) := HMB.out.cell 0
                have v1 := HMB.out.lt
                have q1 := HO1.out.cell hql
                have q2 := HO1.out.frozen q
                have q3 := HO1.out.lt
                obtain ⟨y, hy⟩ : ∃ y : Int, y = (tms (ms.take k) q : Int) := ⟨_, rfl⟩
                have HO2 := Lib.hid (show Ow 3 gt l.length (fun x => (tms (ms.take (k + 1)) x : Int)) (V.setCell ⟨gt, q, none⟩ (.int .i64 (y + 1))) from by
                  rw [← HST.out, hy]
                  exact HO1.out.set q _)
                have HB2 := Lib.hid (HB1.out.setCell (p := ⟨gt, q, none⟩) (by show w8.heap.size ≤ gt; rw [HGT.out]; exact Nat.le_refl _) (.int .i64 (y + 1)))
                have hy2 : 0 ≤ y ∧ y ≤ 1000 := by omega
                rw [← hy] at q1
                have hq0 : ¬ (q : Int) < 0 := by omega
                have hq1 : ¬ (l.length : Int) ≤ (q : Int) := by omega
                clear hy hle
                go_wp2
                go_roundg (hs.length - (k + 1))
                case measure => have := HGI.out; omega
                case rel => exact ⟨k + 1, by go_num, by omega, rfl, HB2.out, HO2.out⟩
            · obtain rfl : k = hs.length := by omega
              have HO1 := Lib.hid (show Ow 3 gt l.length (fun x => (tms ms x : Int)) wr from by
                have h := HO.out
                rw [← HML.out, List.take_length] at h
                exact h)
              have HIB := Lib.hid (HI7.out.ext (bext BB8.out HB.out BB8.out.size))
              clear HGI HO
              go_wp2
              go_loopg [161] l.length (fun g i wx => ∃ j : Nat, i = .int .i64 j ∧ j ≤ l.length ∧ g = l.length - j ∧ Below wr.heap.size wr wx)
              case atStart => exact ⟨0, rfl, by omega, by omega, Below.refl _ _⟩
              case round =>
                obtain ⟨j, rfl, hj, hg, hb⟩ := hrel
                have HGI := Lib.hid hg
                have HBX := Lib.hid hb
                clear hg hb
                by_cases hlt4 : j < l.length
                · have q1 := (HO1.out.ext HBX.out).cell hlt4
                  have hpos := tms_pos HRL.out HTR.out hlt4
                  have hev := fun h => tms_even HOK.out.1.1.2.2.2 HRL.out HTR.out hlt4 (n := n) h
                  rw [← HMSE.out] at hpos hev
                  have hle : tms ms j ≤ 1000 := by
                    have h := tms_le ms ms.length j
                    rw [List.take_length, HML.out] at h
                    omega
                  have HCT := Lib.hid (containsI_any A6 c6 (brd n l l.length) (j : Int) _ (by have := brd_len n l l.length; omega) (HIB.out.ext HBX.out))
                  have hbr : (j : Int) ∈ brd n l l.length → pcs n l (-1) < pcs n l j := fun h => by
                    obtain ⟨q, e, _, h3⟩ := brd_mem _ _ h
                    have : q = j := by omega
                    subst this
                    exact h3
                  obtain ⟨y, hy⟩ : ∃ y : Int, y = (tms ms j : Int) := ⟨_, rfl⟩
                  rw [← hy] at q1
                  have hy1 : 1 ≤ y ∧ y ≤ 1000 := by omega
                  have hyev : (j : Int) ∈ brd n l l.length → y.tmod 2 = 0 := fun h => by
                    have h1 := hev (hbr h)
                    rw [Int.tmod_eq_emod_of_nonneg (by omega)]
                    omega
                  have hy0 : (y == 0) = false := by simp; omega
                  clear hev hbr hpos hle hy
                  cases hC : decide ((j : Int) ∈ brd n l l.length)
                  · rw [hC] at HCT
                    clear hC hyev
                    go_wp2_with (go_at_call 40; refine HCT.out.mono ?_; rintro e w10 ⟨rfl, hx10⟩)
                    go_roundg (l.length - (j + 1))
                    case measure => have := HGI.out; omega
                    case rel => exact ⟨j + 1, by go_num, by omega, rfl, bext HBX.out hx10 HBX.out.size⟩
                  · have hm2 := hyev (of_decide_eq_true hC)
                    rw [hC] at HCT
                    clear hC hyev
                    go_wp2_with (go_at_call 40; refine HCT.out.mono ?_; rintro e w10 ⟨rfl, hx10⟩)
                    go_roundg (l.length - (j + 1))
                    case measure => have := HGI.out; omega
                    case rel => exact ⟨j + 1, by go_num, by omega, rfl, bext HBX.out hx10 HBX.out.size⟩
                · obtain rfl : j = l.length := by omega
                  go_wp2_with (go_at_call 18; refine (awake_any _).mono ?_; rintro e w11 ⟨rfl, hx11⟩)
                  go_ret
                  exact ⟨rfl, bext (bext hbw.out HBX.out hbw.out.size) hx11 (by have h1 := hbw.out.size; have h2 := HBX.out.size; omega)⟩

theorem law_twice (N : Int) (A : Option Addr) (cap : Nat) (l : List Sm) (f : Int) (w : World) (hc : l.length ≤ cap) (hcm : cap ≤ 9223372036854775807) (h : SSl w A l) :
    Calls Try.prog 8 #[.agg #[.int .i64 N, .slice A l.length cap], .int .i64 f] w fun e w' => e = .returned (.bool true) ∧ Below w.heap.size w w' := by
  by_cases hg : ROk N f l ∧ Conn l f.toNat
  · obtain ⟨n, rfl⟩ := Int.eq_ofNat_of_zero_le (show 0 ≤ N by have := hg.1.1.1; omega)
    exact law_twice_good n f A cap l w hg hc hcm h
  · exact law_twice_bad N f A cap l w hg hc hcm h
end Go.Proofs.Ytbhjhajnhpohlaa
