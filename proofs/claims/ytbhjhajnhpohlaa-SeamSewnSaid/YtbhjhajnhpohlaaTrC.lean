/- moves walked; plain: a walk along lines, hop by hop. No conditions. -/
import Derived.Test.YtbhjhajnhpohlaaRs
import Derived.Test.YtbhjhajnhpohlaaRoQ
namespace Go.Proofs.Ytbhjhajnhpohlaa
open Go.RowKit

set_option maxRecDepth 100000 in
set_option maxHeartbeats 4000000 in
theorem movesV_any (C : Option Addr) (cc : Nat) (run : List Mv) (w : World) (hn : run.length ≤ 100000) (hcc : run.length ≤ cc) (hcc2 : cc ≤ 9223372036854775807) (hr : MSl w C run) :
    Calls Try.prog 35 #[.slice C run.length cc] w fun e w' => ∃ A' c', e = .returned (.slice A' run.length c') ∧ Vm 66 w.heap.size w' (.slice A' run.length c') run ∧ Below w.heap.size w w' := by
  have HM := Lib.hid hr
  clear hr
  go_enter Try.func35, Try.ntmps35
  go_wp2
  go_loopg [8, 3] run.length (fun g j y wr => ∃ (i : Nat), j = .int .i64 i ∧ i ≤ run.length ∧ g = run.length - i ∧ Below w.heap.size w wr ∧ Vm 66 w.heap.size wr y (run.take i))
  case atStart => exact ⟨0, rfl, by omega, by omega, Below.refl _ _, Vm.nil _ _ _⟩
  case round =>
    obtain ⟨i, rfl, hi, hg2, hb2, hv2⟩ := hrel
    have HG2 := Lib.hid hg2
    have HV2 := Lib.hid hv2
    obtain ⟨A2, c2, hz2, -, -, -⟩ := hv2.msl
    rw [takeLen hi] at hz2
    subst hz2
    clear hg2 hv2
    by_cases hli : i < run.length
    · rcases HM.out.ext hb2 with hf2 | ⟨b2, off2, rfl, hblt2, hcl2⟩
      · rw [hf2] at hli; simp at hli
      · obtain ⟨d1, d2⟩ := hcl2 i hli
        have htk := takeSnoc hli (x := run[i]) rfl
        obtain ⟨m, hm⟩ : ∃ m, m = run[i] := ⟨_, rfl⟩
        rw [← hm] at d1 d2 htk
        obtain ⟨mk, mr⟩ := m
        dsimp only at d1 d2
        have HTK2 := Lib.hid htk
        have HX2 := Lib.hid (ext_alloc wr (.cells #[.int .i64 mk, .bool mr] 72))
        clear hm hcl2 htk
        go_wp2_with (at_builtin; refine wpList_pushM Try.underlying60 info_rmove _ rfl _ _ rfl w.heap.size (own_ext HV2.out HX2.out) (by rfl) (by rfl) (by simp) ?hn5 ?hb5 ?_; (case hn5 => rw [List.length_take]; omega); (case hb5 => have := hb2.size; simp; omega); intro v5 w5 hv5 hb5 hk5; rw [← HTK2.out] at hv5)
        go_roundg (run.length - (i + 1))
        case measure => have := HG2.out; omega
        case rel => exact ⟨i + 1, by go_num, by omega, rfl, (bext hb2 HX2.out hb2.size).trans hb5, hv5⟩
    · obtain rfl : i = run.length := by omega
      have hv3 := HV2.out
      rw [List.take_length] at hv3
      have HV3 := Lib.hid hv3
      clear hv3
      go_wp2
      go_ret
      exact ⟨A2, c2, rfl, HV3.out, hb2⟩
theorem moves_any (C : Option Addr) (cc : Nat) (run : List Mv) (w : World) (hn : run.length ≤ 100000) (hcc : run.length ≤ cc) (hcc2 : cc ≤ 9223372036854775807) (hr : MSl w C run) :
    Calls Try.prog 35 #[.slice C run.length cc] w fun e w' => ∃ A' c', e = .returned (.slice A' run.length c') ∧ run.length ≤ c' ∧ c' ≤ 9223372036854775807 ∧ MSl w' A' run ∧ Below w.heap.size w w' := by
  refine (movesV_any C cc run w hn hcc hcc2 hr).mono ?_
  rintro e w' ⟨A', c', rfl, hv, hb⟩
  obtain ⟨A5, c5, hz5, k1, k2, k3⟩ := hv.msl
  injection hz5 with e1 _ e3
  subst e1
  have e3' : c' = c5 := e3
  subst e3'
  exact ⟨A', c', rfl, k1, by unfold maxLen at k2; exact k2, k3, hb⟩
/-- a walk along lines, move by move -/
theorem Trk.chain {Y : List Ln} {x y : Int} {hs : List Hop} (h : Trk Y x hs y) : ∀ i (hi : i + 1 < hs.length), hs[i].to_ Y = hs[i + 1].fr Y := by
  induction h with
  | nil => intro i hi; simp at hi
  | cons h hs hk hx t ih =>
    intro i hi
    cases i with
    | zero =>
      cases t with
      | nil => simp at hi
      | cons g gs _ hgx _ => simp only [List.getElem_cons_zero, List.getElem_cons_succ]; exact hgx.symm
    | succ i =>
      simp only [List.getElem_cons_succ]
      exact ih i (by simpa using hi)
theorem Trk.first {Y : List Ln} {x y : Int} {hs : List Hop} (h : Trk Y x hs y) (h0 : 0 < hs.length) : hs[0].fr Y = x := by
  cases h with
  | nil => simp at h0
  | cons g gs hk hx t => exact hx
theorem Trk.last {Y : List Ln} {x y : Int} {hs : List Hop} (h : Trk Y x hs y) (h0 : 0 < hs.length) : (hs[hs.length - 1]'(by omega)).to_ Y = y := by
  induction h with
  | nil => simp at h0
  | cons g gs hk hx t ih =>
    by_cases hg : gs = []
    · subst hg
      exact t.nil_eq
    · have hl : 0 < gs.length := List.length_pos_iff.2 hg
      have := ih hl
      rw [← this]
      congr 1
      have e : (g :: gs).length - 1 = (gs.length - 1) + 1 := by simp; omega
      simp only [e, List.getElem_cons_succ]
theorem rWalk_all {l : List Sm} {run : List Mv} (h1 : ∀ i, i < run.length → (run.getD i default).inG l) (h2 : ∀ i, i < run.length → fol l run i) : ∀ n i, n + i = run.length → rWalk l run n i = true := by
  intro n
  induction n with
  | zero => intro i _; rfl
  | succ n ih =>
    intro i hi
    show (if (run.getD i default).inG l ∧ fol l run i then rWalk l run n (i + 1) else false) = true
    rw [if_pos ⟨h1 i (by omega), h2 i (by omega)⟩]
    exact ih (i + 1) (by omega)
end Go.Proofs.Ytbhjhajnhpohlaa
