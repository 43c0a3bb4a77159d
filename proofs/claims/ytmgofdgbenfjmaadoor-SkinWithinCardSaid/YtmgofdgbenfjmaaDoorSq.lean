/- slices.SortFunc at a row of different rectangles: sorted, the same ones. No conditions. -/
import Derived.Test.YtmgofdgbenfjmaaDoorSo
namespace Go.Proofs.YtmgofdgbenfjmaaDoor
open Go.RowKit Go.Shelf

set_option maxRecDepth 100000 in
theorem insertion_none (p : Option Addr) (cap : Nat) (fv : Value) (w : World) :
    Calls Tryd.prog 140 #[.slice p 0 cap, .int .i64 0, .int .i64 0, fv] w fun e w' => e = .returned (.tuple #[]) ∧ w' = w := by
  go_enter Tryd.func140, Tryd.ntmps140
  go_wp2_with (fail)
  refine wp_loop_rounds 1 ?_
  rw [rounds_succ]
  go_wp2
  go_end0
  exact ⟨rfl, rfl⟩
set_option maxRecDepth 100000 in
theorem pdq_none (p : Option Addr) (cap : Nat) (lim : Int) (fv : Value) (w : World) :
    Calls Tryd.prog 119 #[.slice p 0 cap, .int .i64 0, .int .i64 0, .int .i64 lim, fv] w fun e w' => e = .returned (.tuple #[]) ∧ w' = w := by
  have hi := fun W => insertion_none p cap fv W
  go_enter Tryd.func119, Tryd.ntmps119
  go_wp2_with (fail)
  refine wp_loop_rounds 1 ?_
  rw [rounds_succ]
  go_wp2_with (go_at_call 140; refine (hi _).mono ?_; rintro e w' ⟨rfl, rfl⟩)
  (try simp only [Exit.inBlock, Exit.then]); refine bodyPost_ret (results_none rfl _ _ _) rfl ?_
  exact ⟨rfl, rfl⟩
set_option maxRecDepth 100000 in
theorem sort_none (p : Option Addr) (cap : Nat) (fv : Value) (w : World) :
    Calls Tryd.prog 90 #[.slice p 0 cap, fv] w fun e w' => e = .returned (.tuple #[]) ∧ w' = w := by
  have hp := fun lim W => pdq_none p cap lim fv W
  have L := Tryd.sortR
  have hl : ∀ W, Calls Tryd.prog 120 #[.int .u64 0] W fun e w' => e = .returned (.int .i64 (Lib.bitLen 0 : Nat)) ∧ w' = W := fun W => by
    have h := Any.bits_Len (SlLaysF0.n15.bits (P := Tryd.prog) (ρ := Tryd.sortR_ren) { L with }) 0 W (by omega) (by omega)
    exact h
  clear L
  go_enter Tryd.func90, Tryd.ntmps90
  go_wp2_with (first | (go_at_call 120; refine (hl _).mono ?_; rintro e w' ⟨rfl, rfl⟩) | (go_at_call 119; refine (hp _ _).mono ?_; rintro e w' ⟨rfl, rfl⟩))
  go_end0
  exact ⟨rfl, rfl⟩
/-- the sort's worlds leave what lies below the row -/
theorem sortWorld_below {B : Nat} {w : World} {g n : Nat} {d : Array Rn} {os : Array Obj} (hB : B ≤ g) (hBw : B ≤ w.heap.size) : Below B w (sortWorldK rcs 4 w g 0 n d os) := by
  refine ⟨rfl, rfl, rfl, ?_, fun k hk => ?_⟩
  · exact size_sortWorldK_c rcs 4 w g 0 n d os
  · unfold sortWorldK Go.Sort.grow Go.Sort.putRowK Go.Sort.putRow Go.Sort.mapBlock Go.Sort.ahead
    dsimp only
    rw [Array.getElem?_append_left (by rw [Array.size_modify]; omega), Array.getElem?_modify, if_neg (by omega)]
theorem pair_sorted {d : Array Rn} (hn : d.toList.Nodup) (hs : Go.Sort.SortedIn (ltOf befC) 0 d.size d) : d.toList.Pairwise rlt := by
  rw [List.pairwise_iff_getElem]
  intro i j hi hj hij
  have hi' : i < d.size := by simpa using hi
  have hj' : j < d.size := by simpa using hj
  have h := hs i j (Nat.zero_le _) hij hj'
  unfold ltOf at h
  rw [decide_eq_false_iff_not, befC_lt] at h
  have e1 : d[i]! = d.toList[i] := by rw [getElem!_pos d i hi']; simp
  have e2 : d[j]! = d.toList[j] := by rw [getElem!_pos d j hj']; simp
  rw [e1, e2] at h
  by_cases hlt : rlt d.toList[i] d.toList[j]
  · exact hlt
  · have := rlt_tot hlt h
    exact absurd this (List.pairwise_iff_getElem.1 hn i j hi hj hij)
set_option maxHeartbeats 1000000 in
theorem sort_any (base : Nat) (A : Option Addr) (cap : Nat) (ms : List Rn) (W : World) (hv : Vr base W (.slice A ms.length cap) ms) (hbw : base ≤ W.heap.size) (hlen : ms.length ≤ 10000000) (hnd : ms.Nodup) :
    Calls Tryd.prog 90 #[.slice A ms.length cap, .func (.func 91) #[] #[]] W fun e w' => e = .returned (.tuple #[]) ∧ Below base W w' ∧ ∃ ms', ms'.Pairwise rlt ∧ (∀ r, r ∈ ms' ↔ r ∈ ms) ∧ ms'.length = ms.length ∧ RSl w' A ms' := by
  by_cases h0 : ms = []
  · subst h0
    refine (sort_none A cap _ W).mono ?_
    rintro e w' ⟨rfl, rfl⟩
    exact ⟨rfl, Below.refl _ _, [], List.Pairwise.nil, fun r => Iff.rfl, rfl, .inl rfl⟩
  · obtain ⟨hl, hv⟩ := hv
    rcases hv with ⟨_, hz⟩ | ⟨g, c, cur, hv, hg, hh, hn, hm, hcur, hx⟩
    · exact absurd (List.eq_nil_of_length_eq_zero hz) h0
    · injection hv with e1 _ e3
      subst e1
      have hf : ∀ a : Rn, (rcs a).length = 4 := fun _ => rfl
      have hH : Go.Sort.HoldsK rcs 4 W g 0 ms.toArray := by
        intro t ht
        rw [Go.Sort.size_flatK] at ht
        have ht' : t < ms.length * 4 := by simpa using ht
        rw [Nat.zero_add, cell_of_row W g t cur _ (0, 0) hh]
        refine ⟨?_, frozen_of_row W g t cur _ hh⟩
        rw [Go.Sort.get_flatK _ _ _ _ ht]
        have hq : t / 4 < ms.length := by omega
        have h1 : (ms.flatMap rcs)[t / 4 * 4 + t % 4]? = (rcs ms[t / 4])[t % 4]? := flat_get hf ms (t / 4) (t % 4) hq (by omega)
        rw [show t / 4 * 4 + t % 4 = t by omega, ← hx, List.getElem?_take] at h1
        rw [if_pos (by omega)] at h1
        have h2 : cur[t]? = (rcs ms[t / 4])[t % 4]? := by simpa using h1
        rw [h2]
        have e : ms.toArray[t / 4]! = ms[t / 4] := by rw [getElem!_pos ms.toArray (t / 4) (by simpa using hq)]; simp
        rw [e]
        have hr : t % 4 < (rcs ms[t / 4]).length := by rw [hf]; omega
        rw [List.getElem?_eq_getElem hr, getElem!_pos (rcs ms[t / 4]) (t % 4) hr]
        rfl
      have eg : ∀ args w, (callFunc 91 args).run Tryd.prog w = .ok (.enter 91 args) w := enters_of Tryd.func91 (by kernel_rfl) rfl
      have hgl : g < W.heap.size := lt_of_block hh
      have hcon := AnyQ.slices_SortFunc Tryd.sortR 4 Tryd.isAgg31 Tryd.sizeOf31 rcs rcs_len rcs_one befC swo_bef 91 #[] g 0 cap ms.toArray W eg (fun _ _ _ _ x y => before_any x y _) hH hgl (by simp; omega)
      rw [show ms.toArray.size = ms.length from by simp] at hcon
      refine hcon.mono ?_
      rintro e w' ⟨rfl, d', n, os, hp, hs, rfl⟩
      obtain ⟨hps, _, hpp⟩ := hp
      have hds : d'.size = ms.length := by simpa using hps
      have hperm : d'.toList.Perm ms := by
        have e1 : d'.extract 0 ms.length = d' := by rw [← hds]; simp
        have e2 : ms.toArray.extract 0 ms.length = ms.toArray := by
          have : ms.length = ms.toArray.size := by simp
          rw [this]; simp
        rw [e1, e2] at hpp
        simpa using hpp
      have hnd' : d'.toList.Nodup := hperm.nodup_iff.2 hnd
      refine ⟨rfl, sortWorld_below hg hbw, d'.toList, pair_sorted hnd' (by rw [hds]; exact hs), fun r => hperm.mem_iff, by simpa using hds, .inr ⟨g, 0, rfl, ?_, fun j hj => ?_⟩⟩
      · exact Nat.lt_of_lt_of_le hgl (size_sortWorldK_c rcs 4 W g 0 n d' os)
      · have hj' : j < d'.size := by simpa using hj
        have hH2 := holdsK_sortWorldK_c rcs 4 W g 0 ms.toArray d' n os hH hgl (by simpa using hds)
        have e : d'[j]! = d'.toList[j] := by rw [getElem!_pos d' j hj']; simp
        have k0 := (hH2.cell (c := 0) hj' (by omega)).1
        have k1 := (hH2.cell (c := 1) hj' (by omega)).1
        have k2 := (hH2.cell (c := 2) hj' (by omega)).1
        have k3 := (hH2.cell (c := 3) hj' (by omega)).1
        rw [e] at k0 k1 k2 k3
        exact ⟨k0, k1, k2, k3⟩
end Go.Proofs.YtmgofdgbenfjmaaDoor
