/- Thread walked, the reference's. Conditions: the slice reads as a list of seams. -/
import Derived.Test.YtbhjhajnhpohlaaTha
namespace Go.Proofs.Ytbhjhajnhpohlaa
open Go.RowKit

theorem addS_bd2 {d : Nat → Int} (hd : ∀ t, 0 ≤ d t ∧ d t ≤ 2000) {N : Int} {l : List Sm} (hl : ∀ s ∈ l, SmOk N s) (t k : Nat) (hk : k ≤ l.length) : 0 ≤ addS d l k t ∧ addS d l k t ≤ 30000 * k + 2000 := by
  have h1 := addS_bd hl t k hk
  have h2 := hd t
  rw [addS_off]; omega
set_option maxRecDepth 100000 in
set_option maxHeartbeats 8000000 in
theorem rThread_any (N : Int) (A : Option Addr) (cap : Nat) (l : List Sm) (w : World) (hc : l.length ≤ cap) (hcm : cap ≤ 9223372036854775807) (h : SSl w A l) :
    Calls Try.prog 53 #[.agg #[.int .i64 N, .slice A l.length cap]] w (RetTh w N l) := by
  have HV := Lib.hid (fun W (h : SSl W A l) => rvalid_any N A cap l W hc hcm h)
  have HX := Lib.hid (ext_alloc w (.cells #[.int .i64 N, .slice A l.length cap] 24))
  have HB := Lib.hid (Bk.new 24 w #[.int .i64 N, .slice A l.length cap])
  have H := Lib.hid h
  by_cases hok : GOk N l
  · have hv := vldG_yes hok
    rw [hv] at HV
    have HOK := Lib.hid hok
    have l64 := hok.2.2.1
    have HR := Lib.hid (show ∀ (t : Nat) W, SSl W A l → Calls Try.prog 72 #[.agg #[.int .i64 N, .slice A l.length cap], .int .i64 (t : Int)] W fun e w' => e = .returned (.int .i64 (fwT l t N.toNat : Int)) ∧ Below W.heap.size W w' from fun t W h => by
      obtain ⟨n, hn⟩ := Int.eq_ofNat_of_zero_le (show 0 ≤ N by have := hok.1; omega)
      subst hn
      rw [Int.toNat_natCast]
      exact rruns_any n A cap l t W hok hc hcm h)
    have HFT := Lib.hid (show ∀ t : Int, fwT l t N.toNat ≤ 128 from fun t => by have := fwT_bd l t N.toNat; have := hok.2.1; omega)
    have hmk := zeros8
    clear hok hv h
    go_enter Try.func53, Try.ntmps53
    go_wp2_with (go_at_call 22; refine (HV.out _ (H.out.ext HX.out)).mono ?_; rintro e w1 ⟨rfl, hx1⟩; have B1 := bext HX.out hx1 HX.out.size; have hb1 := HB.out.ext hx1; obtain ⟨f1, f2, f3⟩ := hb1.facts; have HT1 := Lib.hid (show ThS w N A l.length cap 24 w1.heap.size (pin (fun _ => 0) (fun t : Nat => 10 * (fwT l (t : Int) N.toNat : Int)) 0) (w1.alloc (.cells (cellsOf 8 fun _ => 0) 3)) from by rw [pin_zero]; exact ⟨bext B1 (ext_alloc _ _) B1.size, hb1.alloc _, Ow.new _ w1 8 _, hb1.lt⟩); clear hx1 hb1)
    clear hmk f1 f2 f3 B1
    obtain ⟨ob, hob⟩ : ∃ ob, ob = w1.heap.size := ⟨_, rfl⟩
    rw [← hob] at HT1 ⊢
    clear hob
    go_loopg [14] 8 (fun g i wr => ∃ t : Nat, i = .int .i64 (t : Int) ∧ t ≤ 8 ∧ g = 8 - t ∧ ThS w N A l.length cap 24 ob (pin (fun _ => 0) (fun t : Nat => 10 * (fwT l (t : Int) N.toNat : Int)) t) wr)
    case atStart => exact ⟨0, rfl, by omega, by omega, HT1.out⟩
    case round =>
      obtain ⟨t, rfl, ht, hg, hts⟩ := hrel
      have HG := Lib.hid hg
      have HTS := Lib.hid hts
      obtain ⟨f1, f2, f3⟩ := hts.2.1.facts
      clear hg hts HT1
      by_cases hlt : t < 8
      · have hft := HFT.out (t : Int)
        have HRT := Lib.hid (HR.out t)
        have HSET := Lib.hid (fun W (h : ThS w N A l.length cap 24 ob (pin (fun _ => 0) (fun t : Nat => 10 * (fwT l (t : Int) N.toNat : Int)) t) W) => h.set t (10 * (fwT l t N.toNat : Int)))
        have hps := pin_set (fun _ => 0) (fun t : Nat => 10 * (fwT l (t : Int) N.toNat : Int)) t rfl
        rw [hps] at HSET
        obtain ⟨fx, hfx⟩ : ∃ fx, fx = fwT l t N.toNat := ⟨_, rfl⟩
        rw [← hfx] at hft HRT HSET
        clear hfx hps
        go_wp2_with (go_at_call 72; refine (HRT.out _ (H.out.ext HTS.out.1)).mono ?_; rintro e w2 ⟨rfl, hx2⟩; have HT2 := Lib.hid (HTS.out.ext hx2); have q1 := HT2.out.2.2.1.cell hlt; have q2 := HT2.out.2.2.1.frozen t; have q3 := HT2.out.2.2.1.lt; clear hx2)
        go_roundg (8 - (t + 1))
        case measure => have := HG.out; omega
        case rel => exact ⟨t + 1, by go_num, by omega, rfl, HSET.out _ HT2.out⟩
      · obtain rfl : t = 8 := by omega
        obtain ⟨d0, hd0e⟩ : ∃ d0 : Nat → Int, d0 = fun t : Nat => 10 * (fwT l (t : Int) N.toNat : Int) := ⟨_, rfl⟩
        have hd0 : ∀ t, 0 ≤ d0 t ∧ d0 t ≤ 2000 := fun t => by rw [hd0e]; have := HFT.out (t : Int); dsimp only; omega
        have HD0 := Lib.hid hd0e
        have HT2 := Lib.hid (show ThS w N A l.length cap 24 ob (addS d0 l 0) wr from ⟨HTS.out.1, HTS.out.2.1, HTS.out.2.2.1.congr (fun i hi => by rw [hd0e]; unfold pin; rw [if_pos hi]; rfl), HTS.out.2.2.2⟩)
        clear hd0e HTS HG
        go_wp2_with (fail)
        go_loopg [28] l.length (fun g i wr => ∃ k : Nat, i = .int .i64 (k : Int) ∧ k ≤ l.length ∧ g = l.length - k ∧ ThS w N A l.length cap 24 ob (addS d0 l k) wr)
        case atStart => exact ⟨0, rfl, by omega, by omega, HT2.out⟩
        case round =>
          obtain ⟨k, rfl, hk, hg, hts⟩ := hrel
          have HG := Lib.hid hg
          have HTS := Lib.hid hts
          obtain ⟨f1, f2, f3⟩ := hts.2.1.facts
          clear hg hts HT2
          by_cases hlt : k < l.length
          · rcases H.out.ext HTS.out.1 with hf | ⟨b, off, rfl, hblt, hcl⟩
            · rw [hf] at hlt; simp at hlt
            obtain ⟨c1, c2, c3, c4⟩ := hcl k hlt
            have hso := HOK.out.2.2.2 _ (List.getElem_mem hlt)
            obtain ⟨s, hs⟩ : ∃ s, s = l[k] := ⟨_, rfl⟩
            rw [← hs] at c1 c2 c3 c4 hso
            obtain ⟨a, b', n, th⟩ := s
            dsimp only at c1 c2 c3 c4
            obtain ⟨-, -, -, -, o5, o6, o7, o8⟩ := hso
            dsimp only at o5 o6 o7 o8
            obtain ⟨j, rfl⟩ := Int.eq_ofNat_of_zero_le o7
            have hsu := addS_succ (d := d0) hlt hs (j := j) rfl
            have hbd := addS_bd2 hd0 HOK.out.2.2.2 j k hk
            have HSET := Lib.hid (fun W (h : ThS w N (some ⟨b, off, none⟩) l.length cap 24 ob (addS d0 l k) W) => h.set j (addS d0 l k j + 3 * n))
            have hj8 : j < 8 := by omega
            obtain ⟨x, hx⟩ : ∃ x, x = addS d0 l k j := ⟨_, rfl⟩
            rw [← hx] at hbd HSET hsu
            dsimp only at hsu
            rw [← hsu] at HSET
            have HXX := Lib.hid hx
            clear hs hcl hsu hx
            go_upto_region 12 with fail
            obtain ⟨W7, hW7⟩ : ∃ W7, wr.alloc (.cells #[.int .i64 a, .int .i64 b', .int .i64 n, .int .i64 (j : Int)] 69) = W7 := ⟨_, rfl⟩
            have hk6 : Bk 69 W7 wr.heap.size #[.int .i64 a, .int .i64 b', .int .i64 n, .int .i64 (j : Int)] := by rw [← hW7]; exact Bk.new _ _ _
            have hts7 := HTS.out.ext (show Below wr.heap.size wr W7 by rw [← hW7]; exact ext_alloc _ _)
            rw [hW7]
            have HTS7 := Lib.hid (hts7.ext (ext_drew W7))
            have HF7 := Lib.hid (show W7.drew.cell? ⟨wr.heap.size, 3, none⟩ = some (.int .i64 (j : Int)) ∧ W7.drew.cell? ⟨wr.heap.size, 2, none⟩ = some (.int .i64 n) ∧ W7.drew.cell? ⟨ob, j, none⟩ = some (.int .i64 x) ∧ W7.drew.frozen? ⟨ob, j, none⟩ = false ∧ ob < W7.drew.heap.size from
              ⟨hk6.cell 3, hk6.cell 2, by rw [HXX.out]; exact hts7.2.2.1.cell hj8, hts7.2.2.1.frozen j, hts7.2.2.1.lt⟩)
            clear hk6 hts7 hW7
            refine wp_region_T (S := fun wx => wx = W7.drew) 10 (by kernel_rfl) (rfl) (fun hHeld => ?_)
            refine wpAnyT_take (i := 0) (v := ?v1) [] rfl (by kernel_rfl) (fun _ _ _ h => h) (Or.inl ⟨by rfl, ?hy1⟩) hHeld ?rst1
            case hy1 => (intro wx hSw; subst hSw; obtain ⟨q1, q2, q3, q4, q5⟩ := HF7.out; go_simp; try (with_reducible rfl))
            try simp only [List.getElem_toArray, List.getElem_cons_zero, Act.put, List.setIfInBounds_toArray, List.set_cons_zero, List.set_cons_succ]
            refine wpAnyT_take (i := 1) (v := ?v2) [] rfl (by kernel_rfl) (fun _ _ _ h => h) (Or.inl ⟨by rfl, ?hy2⟩) hHeld ?rst2
            case hy2 => (intro wx hSw; subst hSw; obtain ⟨q1, q2, q3, q4, q5⟩ := HF7.out; go_simp; try (with_reducible rfl))
            try simp only [List.getElem_toArray, List.getElem_cons_zero, List.getElem_cons_succ, Act.put, List.setIfInBounds_toArray, List.set_cons_zero, List.set_cons_succ]
            refine wpAnyT_take (i := 2) (v := ?v3) [] rfl (by kernel_rfl) (fun _ _ _ h => h) (Or.inl ⟨by rfl, ?hy3⟩) hHeld ?rst3
            case hy3 => (intro wx hSw; subst hSw; obtain ⟨q1, q2, q3, q4, q5⟩ := HF7.out; go_simp; try (with_reducible rfl))
            try simp only [List.getElem_toArray, List.getElem_cons_zero, List.getElem_cons_succ, Act.put, List.setIfInBounds_toArray, List.set_cons_zero, List.set_cons_succ]
            refine wpAnyT_take (i := 3) (v := ?v4) [] rfl (by kernel_rfl) (fun _ _ _ h => h) (Or.inl ⟨by rfl, ?hy4⟩) hHeld ?rst4
            case hy4 => (intro wx hSw; subst hSw; obtain ⟨q1, q2, q3, q4, q5⟩ := HF7.out; go_simp; try (with_reducible rfl))
            try simp only [List.getElem_toArray, List.getElem_cons_zero, List.getElem_cons_succ, Act.put, List.setIfInBounds_toArray, List.set_cons_zero, List.set_cons_succ]
            refine wpAnyT_take (i := 4) (v := ?v5) [] rfl (by kernel_rfl) (fun _ _ _ h => h) (Or.inl ⟨by rfl, ?hy5⟩) hHeld ?rst5
            case hy5 => (intro wx hSw; subst hSw; obtain ⟨q1, q2, q3, q4, q5⟩ := HF7.out; go_simp; try (with_reducible rfl))
            try simp only [List.getElem_toArray, List.getElem_cons_zero, List.getElem_cons_succ, Act.put, List.setIfInBounds_toArray, List.set_cons_zero, List.set_cons_succ]
            refine wpAnyT_take (i := 5) (v := ?v6) [] rfl (by kernel_rfl) (fun _ _ _ h => h) (Or.inl ⟨by rfl, ?hy6⟩) hHeld ?rst6
            case hy6 => (intro wx hSw; subst hSw; obtain ⟨q1, q2, q3, q4, q5⟩ := HF7.out; go_simp; try (with_reducible rfl))
            try simp only [List.getElem_toArray, List.getElem_cons_zero, List.getElem_cons_succ, Act.put, List.setIfInBounds_toArray, List.set_cons_zero, List.set_cons_succ]
            refine wpAnyT_take (i := 6) (v := ?v7) [] rfl (by kernel_rfl) (fun _ _ _ h => h) (Or.inl ⟨by rfl, ?hy7⟩) hHeld ?rst7
            case hy7 => (intro wx hSw; subst hSw; obtain ⟨q1, q2, q3, q4, q5⟩ := HF7.out; go_simp; try (with_reducible rfl))
            try simp only [List.getElem_toArray, List.getElem_cons_zero, List.getElem_cons_succ, Act.put, List.setIfInBounds_toArray, List.set_cons_zero, List.set_cons_succ]
            refine wpAnyT_take (i := 7) (v := ?v8) [] rfl (by kernel_rfl) (fun _ _ _ h => h) (Or.inl ⟨by rfl, ?hy8⟩) hHeld ?rst8
            case hy8 => (intro wx hSw; subst hSw; obtain ⟨q1, q2, q3, q4, q5⟩ := HF7.out; go_simp; try (with_reducible rfl))
            try simp only [List.getElem_toArray, List.getElem_cons_zero, List.getElem_cons_succ, Act.put, List.setIfInBounds_toArray, List.set_cons_zero, List.set_cons_succ]
            refine wpAnyT_take (i := 8) (v := ?v9) [] rfl (by kernel_rfl) (fun _ _ _ h => h) (Or.inl ⟨by rfl, ?hy9⟩) hHeld ?rst9
            case hy9 => (intro wx hSw; subst hSw; obtain ⟨q1, q2, q3, q4, q5⟩ := HF7.out; go_simp; try (with_reducible rfl))
            try simp only [List.getElem_toArray, List.getElem_cons_zero, List.getElem_cons_succ, Act.put, List.setIfInBounds_toArray, List.set_cons_zero, List.set_cons_succ]
            refine wpAnyT_take (i := 9) (v := ?v10) [] rfl (by kernel_rfl) (fun _ _ _ h => h) (Or.inl ⟨by rfl, ?hy10⟩) hHeld ?rst10
            case hy10 => (intro wx hSw; subst hSw; obtain ⟨q1, q2, q3, q4, q5⟩ := HF7.out; go_simp; try (with_reducible rfl))
            try simp only [List.getElem_toArray, List.getElem_cons_zero, List.getElem_cons_succ, Act.put, List.setIfInBounds_toArray, List.set_cons_zero, List.set_cons_succ]
            refine wpAnyT_last (by kernel_rfl) (by kernel_rfl) rfl (fun K hK => ?_)
            (obtain ⟨q1, q2, q3, q4, q5⟩ := HF7.out; go_simp)
            refine hK.out _ _ ?_
            clear hK K
            go_wp2_with (fail)
            go_roundg (l.length - (k + 1))
            case measure => have := HG.out; omega
            case rel => exact ⟨k + 1, by go_num, by omega, rfl, HSET.out _ HTS7.out⟩
          · obtain rfl : k = l.length := by omega
            have HTF := Lib.hid (show Ow 3 ob 8 (thV N l) wr from HTS.out.2.2.1.congr (fun i _ => by rw [HD0.out]; exact thV_ref N l i))
            have hbF := HTS.out.1
            go_wp2_with (fail)
            go_ret2
            exact ⟨hbF, .inr ⟨HOK.out, ob, rfl, HTF.out⟩⟩
  · have hv := vldG_no hok
    rw [hv] at HV
    have HOK := Lib.hid hok
    clear hok hv
    go_enter Try.func53, Try.ntmps53
    go_wp2_with (go_at_call 22; refine (HV.out _ (H.out.ext HX.out)).mono ?_; rintro e w1 ⟨rfl, hx1⟩; have B1 := bext HX.out hx1 HX.out.size; obtain ⟨f1, f2, f3⟩ := (HB.out.ext hx1).facts)
    go_ret2
    exact ⟨B1, .inl ⟨HOK.out, rfl⟩⟩
end Go.Proofs.Ytbhjhajnhpohlaa
