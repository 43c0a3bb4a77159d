/- moves, slices.Contains at no false, walked; plain law of the tour's moves. No conditions. -/
import Derived.Test.YtbhjhajnhpohlaaRre
import Derived.Test.YtbhjhajnhpohlaaRs
import Derived.Test.YtbhjhajnhpohlaaGr
namespace Go.Proofs.Ytbhjhajnhpohlaa
open Go.RowKit

set_option maxRecDepth 100000 in
set_option maxHeartbeats 4000000 in
theorem moves_any (C : Option Addr) (cc : Nat) (run : List Mv) (w : World) (hn : run.length ≤ 100000) (hcc : run.length ≤ cc) (hcc2 : cc ≤ 9223372036854775807) (hr : MSl w C run) :
    Calls Try.prog 35 #[.slice C run.length cc] w fun e w' => ∃ A' c', e = .returned (.slice A' run.length c') ∧ run.length ≤ c' ∧ c' ≤ 9223372036854775807 ∧ MSl w' A' run ∧ Below w.heap.size w w' := by
  have HM := Lib.hid hr
  clear hr
  go_enter Try.func35, Try.ntmps35
  go_wp2
  go_loopg [8, 3] run.length (fun g j y wr => ∃ (i : Nat), j = .int .i64 i ∧ i ≤ run.length ∧ g = run.length - i ∧ Below w.heap.size w wr ∧ Vm 66 w.heap.size wr y (run.take i))
  case atStart => exact ⟨0, rfl, by omega, by omega, Below.refl _ _, Vm.nil _ _ _⟩
  case round =>
    obtain ⟨i, rfl, hi, hg2, hb2, hv2⟩ := hrel
    have HG2 := Lib.hid hg2
    have HV2 := Lib.hid hv2
    obtain ⟨A2, c2, hz2, -, -, -⟩ := hv2.msl
    rw [takeLen hi] at hz2
    subst hz2
    clear hg2 hv2
    by_cases hli : i < run.length
    · rcases HM.out.ext hb2 with hf2 | ⟨b2, off2, rfl, hblt2, hcl2⟩
      · rw [hf2] at hli; simp at hli
      · obtain ⟨d1, d2⟩ := hcl2 i hli
        have htk := takeSnoc hli (x := run[i]) rfl
        obtain ⟨m, hm⟩ : ∃ m, m = run[i] := ⟨_, rfl⟩
        rw [← hm] at d1 d2 htk
        obtain ⟨mk, mr⟩ := m
        dsimp only at d1 d2
        have HTK2 := Lib.hid htk
        have HX2 := Lib.hid (ext_alloc wr (.cells #[.int .i64 mk, .bool mr] 72))
        clear hm hcl2 htk
        go_wp2_with (at_builtin; refine wpList_pushM Try.underlying60 info_rmove _ rfl _ _ rfl w.heap.size (own_ext HV2.out HX2.out) (by rfl) (by rfl) (by simp) ?hn5 ?hb5 ?_; (case hn5 => rw [List.length_take]; omega); (case hb5 => have := hb2.size; simp; omega); intro v5 w5 hv5 hb5 hk5; rw [← HTK2.out] at hv5)
        go_roundg (run.length - (i + 1))
        case measure => have := HG2.out; omega
        case rel => exact ⟨i + 1, by go_num, by omega, rfl, (bext hb2 HX2.out hb2.size).trans hb5, hv5⟩
    · obtain rfl : i = run.length := by omega
      have hv3 := HV2.out
      rw [List.take_length] at hv3
      obtain ⟨A5, c5, hz5, k1, k2, k3⟩ := hv3.msl
      injection hz5 with e1 _ e3
      subst e1
      have e3' : c2 = c5 := e3
      subst e3'
      go_wp2
      go_ret
      exact ⟨A2, c2, rfl, k1, by unfold maxLen at k2; exact k2, k3, hb2⟩
set_option maxRecDepth 100000 in
set_option maxHeartbeats 4000000 in
theorem contains_all (b n : Nat) (d : Nat → Bool) (w : World) (hn : n ≤ 1000000) (h : OwB b n d w) (hd : ∀ i, i < n → d i = true) :
    Calls Try.prog 38 #[.slice (some ⟨b, 0, none⟩) n n, .bool false] w fun e w' => e = .returned (.bool false) ∧ Below w.heap.size w w' := by
  have H := Lib.hid h
  have HD := Lib.hid hd
  have hix : Calls Try.prog 66 #[.slice (some ⟨b, 0, none⟩) n n, .bool false] w fun e w' => e = .returned (.int .i64 (-1)) ∧ Below w.heap.size w w' := by
    clear h hd
    go_enter Try.func66, Try.ntmps66
    go_wp2
    go_loopg [8] n (fun g i wr => ∃ k : Nat, i = .int .i64 k ∧ k ≤ n ∧ g = n - k ∧ Below w.heap.size w wr)
    case atStart => exact ⟨0, rfl, by omega, by omega, Below.refl _ _⟩
    case round =>
      obtain ⟨k, rfl, hk, hg, hb⟩ := hrel
      have HG := Lib.hid hg
      clear hg
      by_cases hlt : k < n
      · have c1 := (H.out.ext hb).cell hlt
        rw [HD.out k hlt] at c1
        go_wp2
        go_roundg (n - (k + 1))
        case measure => have := HG.out; omega
        case rel => exact ⟨k + 1, by go_num, by omega, rfl, hb⟩
      · obtain rfl : k = n := by omega
        go_wp2
        go_ret
        exact ⟨rfl, hb⟩
  have HIX := Lib.hid hix
  clear h hd hix
  go_enter Try.func38, Try.ntmps38
  go_wp2_with (go_at_call 66; refine HIX.out.mono ?_; rintro e w1 ⟨rfl, hx1⟩)
  go_ret
  exact ⟨rfl, hx1⟩

/-- the tour's moves -/
def tmv (Y : List Ln) (hs : List Hop) : List Mv := hs.map (Hop.mv Y)
theorem tmv_len (Y : List Ln) (hs : List Hop) : (tmv Y hs).length = hs.length := by simp [tmv]
theorem mv_ends {l : List Sm} {Y : List Ln} (hY : ∀ s ∈ Y, IsLn l s) {h : Hop} (hk : h.k < Y.length) : (Hop.mv Y h).inG l ∧ (Hop.mv Y h).from l = h.fr Y ∧ (Hop.mv Y h).to_ l = h.to_ Y := by
  obtain ⟨q, hq, e⟩ := hY _ (lnAt_mem hk)
  unfold Mv.inG Mv.from Mv.to_ Hop.mv Hop.fr Hop.to_ Ln.fr Ln.to_
  rw [e]
  dsimp only
  rw [Int.toNat_natCast, List.getElem?_eq_getElem hq]
  exact ⟨⟨by omega, by omega⟩, rfl, rfl⟩
/-- a walk along lines, move by move -/
theorem Trk.chain {Y : List Ln} {x y : Int} {hs : List Hop} (h : Trk Y x hs y) : ∀ i (hi : i + 1 < hs.length), hs[i].to_ Y = hs[i + 1].fr Y := by
  induction h with
  | nil => intro i hi; simp at hi
  | cons h hs hk hx t ih =>
    intro i hi
    cases i with
    | zero =>
      cases t with
      | nil => simp at hi
      | cons g gs _ hgx _ => simp only [List.getElem_cons_zero, List.getElem_cons_succ]; exact hgx.symm
    | succ i =>
      simp only [List.getElem_cons_succ]
      exact ih i (by simpa using hi)
theorem Trk.first {Y : List Ln} {x y : Int} {hs : List Hop} (h : Trk Y x hs y) (h0 : 0 < hs.length) : hs[0].fr Y = x := by
  cases h with
  | nil => simp at h0
  | cons g gs hk hx t => exact hx
theorem Trk.last {Y : List Ln} {x y : Int} {hs : List Hop} (h : Trk Y x hs y) (h0 : 0 < hs.length) : (hs[hs.length - 1]'(by omega)).to_ Y = y := by
  induction h with
  | nil => simp at h0
  | cons g gs hk hx t ih =>
    by_cases hg : gs = []
    · subst hg
      exact t.nil_eq
    · have hl : 0 < gs.length := List.length_pos_iff.2 hg
      have := ih hl
      rw [← this]
      congr 1
      have e : (g :: gs).length - 1 = (gs.length - 1) + 1 := by simp; omega
      simp only [e, List.getElem_cons_succ]
theorem rWalk_all {l : List Sm} {run : List Mv} (h1 : ∀ i, i < run.length → (run.getD i default).inG l) (h2 : ∀ i, i < run.length → fol l run i) : ∀ n i, n + i = run.length → rWalk l run n i = true := by
  intro n
  induction n with
  | zero => intro i _; rfl
  | succ n ih =>
    intro i hi
    show (if (run.getD i default).inG l ∧ fol l run i then rWalk l run n (i + 1) else false) = true
    rw [if_pos ⟨h1 i (by omega), h2 i (by omega)⟩]
    exact ih (i + 1) (by omega)
theorem tmv_get {Y : List Ln} {hs : List Hop} {i : Nat} (hi : i < hs.length) : (tmv Y hs).getD i default = Hop.mv Y hs[i] := by
  rw [List.getD_eq_getElem?_getD, List.getElem?_eq_getElem (by rw [tmv_len]; exact hi)]
  simp [tmv]
theorem tmv_walk {l : List Sm} {Y : List Ln} {f : Int} {hs : List Hop} (hY : ∀ s ∈ Y, IsLn l s) (ht : Tour Y f hs) : rWalk l (tmv Y hs) (tmv Y hs).length 0 = true := by
  have hlt := ht.1.lt
  refine rWalk_all (fun i hi => ?_) (fun i hi => ?_) _ 0 rfl
  · rw [tmv_len] at hi
    rw [tmv_get hi]
    exact (mv_ends hY (hlt _ (List.getElem_mem hi))).1
  · rw [tmv_len] at hi
    unfold fol
    cases i with
    | zero => exact .inl rfl
    | succ i =>
      right
      rw [Nat.add_sub_cancel, tmv_get hi, tmv_get (show i < hs.length by omega)]
      rw [(mv_ends hY (hlt _ (List.getElem_mem _))).2.2, (mv_ends hY (hlt _ (List.getElem_mem _))).2.1]
      exact ht.1.chain i hi
/-- the length of a move's seam -/
def mvLen (l : List Sm) (m : Mv) : Int := (l.getD m.k.toNat ⟨0, 0, 0, 0⟩).n
def mvSum (l : List Sm) (ms : List Mv) : Int := (ms.map (mvLen l)).sum
theorem perm_sum {a b : List Int} (h : a.Perm b) : a.sum = b.sum := by
  induction h with
  | nil => rfl
  | cons x _ ih => simp [ih]
  | swap x y l => simp; omega
  | trans _ _ ih1 ih2 => exact ih1.trans ih2
theorem tmv_sum {l : List Sm} {Y : List Ln} {f : Int} {hs : List Hop} (ht : Tour Y f hs) : mvSum l (tmv Y hs) = lnSum l Y := by
  have h1 : (tmv Y hs).map (mvLen l) = (hs.map Hop.k).map fun k => lnLen l (lnAt Y k) := by
    unfold tmv
    rw [List.map_map, List.map_map]
    rfl
  unfold mvSum
  rw [h1, perm_sum (ht.2.map _)]
  unfold lnSum
  congr 1
  apply List.ext_getElem
  · simp
  · intro i a1 a2
    have : i < Y.length := by simpa using a2
    simp [lnAt_get this]
theorem tmv_all {l : List Sm} {Y : List Ln} {n f' : Nat} {f : Int} {hs : List Hop} (hr : RnL n f' l Y) (ht : Tour Y f hs) {q : Nat} (hq : q < l.length) : ∃ m ∈ tmv Y hs, m.k = (q : Int) := by
  obtain ⟨s, hs', e⟩ := hr.all q hq
  obtain ⟨k, hk, rfl⟩ := List.getElem_of_mem hs'
  have : k ∈ hs.map Hop.k := ht.2.mem_iff.2 (List.mem_range.2 hk)
  obtain ⟨h, hh, rfl⟩ := List.mem_map.1 this
  refine ⟨Hop.mv Y h, List.mem_map.2 ⟨h, hh, rfl⟩, ?_⟩
  show (lnAt Y h.k).k = _
  rw [lnAt_get hk]
  exact e
theorem tour_len {Y : List Ln} {f : Int} {hs : List Hop} (ht : Tour Y f hs) : hs.length = Y.length := by
  have := ht.2.length_eq
  rwa [List.length_map, List.length_range] at this
end Go.Proofs.Ytbhjhajnhpohlaa
