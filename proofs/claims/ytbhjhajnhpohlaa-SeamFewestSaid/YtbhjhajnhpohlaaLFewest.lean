/- SeamFewest walked. Conditions: the graph reads as a list of seams. -/
import Derived.Test.YtbhjhajnhpohlaaFwB
import Derived.Test.YtbhjhajnhpohlaaRo
namespace Go.Proofs.Ytbhjhajnhpohlaa
open Go.RowKit

theorem flat_run {R : List (List Mv)} {run : List Mv} (h : run ∈ R) : run.length ≤ R.flatten.length := by
  induction R with
  | nil => cases h
  | cons r R ih =>
    rw [List.flatten_cons, List.length_append]
    rcases List.mem_cons.1 h with rfl | h
    · omega
    · have := ih h; omega
set_option maxRecDepth 100000 in
set_option maxHeartbeats 8000000 in
theorem law_fewest (N : Int) (A : Option Addr) (cap : Nat) (l : List Sm) (w : World) (hc : l.length ≤ cap) (hcm : cap ≤ 9223372036854775807) (h : SSl w A l) :
    Calls Try.prog 11 #[.agg #[.int .i64 N, .slice A l.length cap]] w fun e w' => e = .returned (.bool true) ∧ Below w.heap.size w w' := by
  have HG := Lib.hid (fun W (h : SSl W A l) => graph_any N A cap l W hc hcm h)
  have hfw := fun A' cap' W (h : SSl W A' (cpy l)) (h1 : (cpy l).length ≤ cap') (h2 : cap' ≤ 9223372036854775807) => (Fewest_any N A' cap' (cpy l) W h1 h2 h).mono fun e w' h => h.cpd
  have hrf := fun W (h : SSl W A l) => rFewest_any N A cap l W hc hcm h
  have hru := fun A' cap' W (h : SSl W A' (cpy l)) (h1 : (cpy l).length ≤ cap') (h2 : cap' ≤ 9223372036854775807) => (Runs_any N A' cap' (cpy l) W h1 h2 h).mono fun e w' h => h.cpd
  have HRS := Lib.hid (fun W C cc ls hok h => rSews_any N A cap l C cc ls W hok hc hcm h)
  have H := Lib.hid h
  have HB0 := Lib.hid (Bk.new 24 w #[.int .i64 N, .slice A l.length cap])
  have HE0 := Lib.hid (ext_alloc w (.cells #[.int .i64 N, .slice A l.length cap] 24))
  clear h
  by_cases hok : GOk N l
  · have HOK := Lib.hid hok
    have HFW := Lib.hid (fun A' cap' W h h1 h2 => (hfw A' cap' W h h1 h2).mono (R' := fun e w' => e = .returned (.tuple #[.int .i64 (fwN N l), .int .i64 0]) ∧ Below W.heap.size W w') fun e w' hr => by
      rcases hr.2 with ⟨h3, _⟩ | ⟨_, h4⟩
      · exact absurd HOK.out h3
      · exact ⟨h4, hr.1⟩)
    have HRF := Lib.hid (fun W h => (hrf W h).mono (R' := fun e w' => e = .returned (.tuple #[.int .i64 (fwN N l), .int .i64 0]) ∧ Below W.heap.size W w') fun e w' hr => by
      rcases hr.2 with ⟨h3, _⟩ | ⟨_, h4⟩
      · exact absurd HOK.out h3
      · exact ⟨h4, hr.1⟩)
    have HRU := Lib.hid (fun A' cap' W h h1 h2 => (hru A' cap' W h h1 h2).mono (R' := fun e w' => (∃ R A' c', e = .returned (.tuple #[.slice A' (List.length R) c', .int .i64 0]) ∧ R.length ≤ c' ∧ c' ≤ 9223372036854775807 ∧ RSl w' A' R ∧ RunsI l (fun _ => True) (cE N l) R ∧ R.length = fwN N l) ∧ Below W.heap.size W w') fun e w' hr => by
      rcases hr.2 with ⟨h3, _⟩ | ⟨_, h4⟩
      · exact absurd HOK.out h3
      · exact ⟨h4, hr.1⟩)
    obtain ⟨x, hx⟩ : ∃ x, x = fwN N l := ⟨_, rfl⟩
    rw [← hx] at HFW HRF HRU
    have hl64 := hok.2.2.1
    clear hok hx hfw hrf hru
    go_enter Try.func11, Try.ntmps11
    go_wp2_with (first
      | (go_at_call 16; refine (HG.out _ (H.out.ext HE0.out)).mono ?_; rintro e w1 ⟨A1, c1, rfl, k1, k2, hs1, hx1⟩; have B1 := ext_trans HE0.out hx1; have HS1 := Lib.hid hs1; have HK1 := Lib.hid (HB0.out.ext hx1); clear hs1 hx1)
      | (go_at_call 47; refine (HFW.out _ _ _ HS1.out k1 k2).mono ?_; rintro e w2 ⟨rfl, hx2⟩; have B2 := bext B1 hx2 B1.size; have HK2 := Lib.hid (HK1.out.ext hx2); obtain ⟨f1, f2, f3⟩ := HK2.out.facts; clear hx2)
      | (go_at_call 48; refine (HRF.out _ (H.out.ext B2)).mono ?_; rintro e w3 ⟨rfl, hx3⟩; have B3 := bext B2 hx3 B2.size; have HK3 := Lib.hid (HK2.out.ext hx3); clear f1 f2 f3; obtain ⟨f1, f2, f3⟩ := HK3.out.facts; clear hx3)
      | (go_at_call 16; refine (HG.out _ (H.out.ext B3)).mono ?_; rintro e w4 ⟨A4, c4, rfl, k3, k4, hs4, hx4⟩; have B4 := bext B3 hx4 B3.size; have HS4 := Lib.hid hs4; have HK4 := Lib.hid (HK3.out.ext hx4); clear hs4 hx4)
      | (go_at_call 49; refine (HRU.out _ _ _ HS4.out k3 k4).mono ?_; rintro e w5 ⟨⟨R, A5, c5, rfl, k5, k6, hrs, hri, hrn⟩, hx5⟩; have B5 := Lib.hid (bext B4 hx5 B4.size); have HK5 := Lib.hid (HK4.out.ext hx5); have HRI := Lib.hid hri; have HRS5 := Lib.hid hrs; have hrl := hri.len; subst hrn; clear hri hrs hx5 f1 f2 f3)
      | (go_at_call 18; refine (awake_any _).mono ?_; rintro e w6 ⟨rfl, hx6⟩; have B6 := Lib.hid (bext B5.out hx6 B5.out.size); have HK6 := Lib.hid (HK5.out.ext hx6); have HRS6 := Lib.hid (HRS5.out.ext hx6); clear hx6))
    have hsew := HRI.out.sews
    have HSW := Lib.hid (sewB_iff.2 hsew)
    have HRN := Lib.hid (show ∀ run ∈ R, run.length ≤ 64 from fun run hr => Nat.le_trans (flat_run hr) (by rw [hsew.2.2]; exact hl64))
    clear hsew
    go_loopg [54, 9] R.length (fun g i z wr => ∃ k : Nat, i = .int .i64 (k : Int) ∧ k ≤ R.length ∧ g = R.length - k ∧ Below w6.heap.size w6 wr ∧ Vr 60 66 w6.heap.size wr z (R.take k))
    case atStart => exact ⟨0, rfl, by omega, by omega, Below.refl _ _, Vr.nil _ _ _ _⟩
    case round =>
      obtain ⟨k, rfl, hk, hg, hb, hv⟩ := hrel
      have HG := Lib.hid hg
      have HV := Lib.hid hv
      have HB := Lib.hid hb
      obtain ⟨A7, c7, hz7, h71, h72, h73⟩ := hv.rsl
      rw [takeLen hk] at hz7
      subst hz7
      have H73 := Lib.hid h73
      rw [takeLen hk] at h71
      unfold maxLen at h72
      clear hg hv hb h73
      by_cases hlt : k < R.length
      · rcases HRS6.out.ext HB.out with hf | ⟨b, off, rfl, hblt, hcl⟩
        · rw [hf] at hlt; simp at hlt
        obtain ⟨A', c', d1, d2, d3, hm⟩ := hcl k hlt
        have HTK := Lib.hid (fun run hr => takeSnoc hlt (x := run) hr)
        have hrl2 := HRN.out R[k] (List.getElem_mem hlt)
        obtain ⟨run, hrun⟩ : ∃ run, run = R[k] := ⟨_, rfl⟩
        rw [← hrun] at d1 d2 hm hrl2
        have HTK := Lib.hid (HTK.out run hrun)
        have HMV := Lib.hid (movesV_any A' c' run wr (by omega) d2 d3 hm)
        clear hrun hcl hm
        go_wp2_with (first
          | (go_at_call 35; refine HMV.out.mono ?_; rintro e w7 ⟨A8, c8, rfl, hv8, hx8⟩; have HV8 := Lib.hid hv8; have HX8 := Lib.hid hx8; have HB8 := Lib.hid (bext HB.out hx8 HB.out.size); clear hv8 hx8)
          | (at_builtin; refine wpList_pushR Try.underlying43 info_rmoves (by decide) _ rfl _ _ rfl w6.heap.size (HV.out.ext HX8.out) (by rfl) (own_base HV8.out HB.out.size) (by rfl) (by simp) ?hn6 ?hb6 ?_; (case hn6 => rw [List.length_take]; omega); (case hb6 => have := HB8.out.size; simp; omega); intro v9 w9 hv9 hb9 hk9; have HV9 := Lib.hid hv9; have HB9 := Lib.hid hb9; clear hv9 hb9 hk9))
        go_roundg (R.length - (k + 1))
        case measure => have := HG.out; omega
        case rel => exact ⟨k + 1, by go_num, by omega, rfl, HB8.out.trans HB9.out, by rw [HTK.out]; exact HV9.out⟩
      · obtain rfl : k = R.length := by omega
        have H74 := Lib.hid (show RSl wr A7 R from by have h := H73.out; rw [List.take_length] at h; exact h)
        have hBf := bext B6.out HB.out B6.out.size
        have HBF := Lib.hid hBf
        have HK7 := Lib.hid (HK6.out.ext HB.out)
        obtain ⟨f1, f2, f3⟩ := HK7.out.facts
        have HSE := Lib.hid (HRS.out wr A7 c7 R HOK.out (H.out.ext hBf) h71 (by omega) H74.out)
        rw [HSW.out] at HSE
        clear hBf
        go_wp2_with (go_at_call 27; refine HSE.out.mono ?_; rintro e w8 ⟨rfl, hx8⟩)
        go_ret
        exact ⟨rfl, bext HBF.out hx8 HBF.out.size⟩
  · have HOK := Lib.hid hok
    have HFW := Lib.hid (fun A' cap' W h h1 h2 => (hfw A' cap' W h h1 h2).mono (R' := fun e w' => e = .returned (.tuple #[.int .i64 0, .int .i64 2]) ∧ Below W.heap.size W w') fun e w' hr => by
      rcases hr.2 with ⟨_, h4⟩ | ⟨h3, _⟩
      · exact ⟨h4, hr.1⟩
      · exact absurd h3 HOK.out)
    have HRF := Lib.hid (fun W h => (hrf W h).mono (R' := fun e w' => e = .returned (.tuple #[.int .i64 0, .int .i64 2]) ∧ Below W.heap.size W w') fun e w' hr => by
      rcases hr.2 with ⟨_, h4⟩ | ⟨h3, _⟩
      · exact ⟨h4, hr.1⟩
      · exact absurd h3 HOK.out)
    have HRU := Lib.hid (fun A' cap' W h h1 h2 => (hru A' cap' W h h1 h2).mono (R' := fun e w' => e = .returned (.tuple #[.slice none 0 0, .int .i64 2]) ∧ Below W.heap.size W w') fun e w' hr => by
      rcases hr.2 with ⟨_, h4⟩ | ⟨h3, _⟩
      · exact ⟨h4, hr.1⟩
      · exact absurd h3 HOK.out)
    clear hok hfw hrf hru HRS
    go_enter Try.func11, Try.ntmps11
    go_wp2_with (first
      | (go_at_call 16; refine (HG.out _ (H.out.ext HE0.out)).mono ?_; rintro e w1 ⟨A1, c1, rfl, k1, k2, hs1, hx1⟩; have B1 := ext_trans HE0.out hx1; have HS1 := Lib.hid hs1; have HK1 := Lib.hid (HB0.out.ext hx1); clear hs1 hx1)
      | (go_at_call 47; refine (HFW.out _ _ _ HS1.out k1 k2).mono ?_; rintro e w2 ⟨rfl, hx2⟩; have B2 := bext B1 hx2 B1.size; have HK2 := Lib.hid (HK1.out.ext hx2); obtain ⟨f1, f2, f3⟩ := HK2.out.facts; clear hx2)
      | (go_at_call 48; refine (HRF.out _ (H.out.ext B2)).mono ?_; rintro e w3 ⟨rfl, hx3⟩; have B3 := bext B2 hx3 B2.size; have HK3 := Lib.hid (HK2.out.ext hx3); clear f1 f2 f3; obtain ⟨f1, f2, f3⟩ := HK3.out.facts; clear hx3)
      | (go_at_call 16; refine (HG.out _ (H.out.ext B3)).mono ?_; rintro e w4 ⟨A4, c4, rfl, k3, k4, hs4, hx4⟩; have B4 := bext B3 hx4 B3.size; have HS4 := Lib.hid hs4; have HK4 := Lib.hid (HK3.out.ext hx4); clear hs4 hx4)
      | (go_at_call 49; refine (HRU.out _ _ _ HS4.out k3 k4).mono ?_; rintro e w5 ⟨rfl, hx5⟩; have B5 := Lib.hid (bext B4 hx5 B4.size); have HK5 := Lib.hid (HK4.out.ext hx5); clear hx5 f1 f2 f3)
      | (go_at_call 18; refine (awake_any _).mono ?_; rintro e w6 ⟨rfl, hx6⟩; have B6 := Lib.hid (bext B5.out hx6 B5.out.size); have HK6 := Lib.hid (HK5.out.ext hx6); obtain ⟨f1, f2, f3⟩ := HK6.out.facts; clear hx6))
    go_loopg [54] 0 (fun g i wr => i = .int .i64 0 ∧ wr = w6)
    case atStart => exact ⟨rfl, rfl⟩
    case round =>
      obtain ⟨rfl, rfl⟩ := hrel
      go_wp2_with (fail)
      go_ret
      exact ⟨rfl, B6.out⟩
end Go.Proofs.Ytbhjhajnhpohlaa
