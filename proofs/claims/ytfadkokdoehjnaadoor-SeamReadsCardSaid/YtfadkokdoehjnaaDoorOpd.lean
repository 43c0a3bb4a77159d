/- The law's copy of ops back, slices.Equal at ops, walked; as Opc, without the compile chain. Conditions: the slices read as lists of ops. -/
import Derived.Test.YtfadkokdoehjnaaDoorTxW
import Derived.Test.YtfadkokdoehjnaaDoorEq
namespace Go.Proofs.YtfadkokdoehjnaaDoor
open Go.RowKit

set_option maxRecDepth 100000 in
set_option maxHeartbeats 4000000 in
/-- the law's 'ops' copies -/
theorem opsL_any (A : Option Addr) (cap : Nat) (l : List Opr) (w : World) (_hc : l.length ≤ cap) (_hcm : cap ≤ 9223372036854775807) (h5 : l.length ≤ 5000) (h : OSl w A l) :
    Calls Tryd.prog 11 #[.slice A l.length cap] w fun e w' => ∃ A' c', e = .returned (.slice A' l.length c') ∧ l.length ≤ c' ∧ c' ≤ 9223372036854775807 ∧ OSl w' A' l ∧ Below w.heap.size w w' := by
  have H := Lib.hid h
  clear h
  go_enter Tryd.func11, Tryd.ntmps11
  go_wp2
  go_loopg [8, 3] l.length (fun g i z wr => ∃ (k : Nat), i = .int .i64 k ∧ k ≤ l.length ∧ g = l.length - k ∧ Below w.heap.size w wr ∧ Vo 34 w.heap.size wr z (l.take k))
  case atStart => exact ⟨0, rfl, by omega, by omega, Below.refl _ _, Vo.nil _ _ _⟩
  case round =>
    obtain ⟨k, rfl, hk, hg, hb, hv⟩ := hrel
    have HG := Lib.hid hg
    have HV := Lib.hid hv
    obtain ⟨A2, c2, hz2, k1, k2, k3⟩ := hv.osl
    rw [takeLen3 hk] at hz2 k1
    subst hz2
    have K3 := Lib.hid k3
    clear hg hv k3
    by_cases hlt : k < l.length
    · rcases H.out.ext hb with hf | ⟨b, off, rfl, hblt, hcl⟩
      · rw [hf] at hlt; simp at hlt
      · obtain ⟨d1, d2, d3⟩ := hcl k hlt
        have htk : l.take (k + 1) = l.take k ++ [l[k]] := List.take_succ_eq_append_getElem hlt
        obtain ⟨m, hm⟩ : ∃ m, m = l[k] := ⟨_, rfl⟩
        rw [← hm] at d1 d2 d3 htk
        obtain ⟨oc, og, ob⟩ := m
        dsimp only at d1 d2 d3
        have HTK := Lib.hid htk
        have HX := Lib.hid (ext_alloc wr (.cells #[.int .i64 oc, .int .i64 og, .bool ob] 49))
        clear hm hcl htk
        go_wp2_with (at_builtin; refine wpList_pushO Tryd.underlying22 info_rop _ rfl _ _ rfl w.heap.size (own_ext HV.out HX.out) (by rfl) (by rfl) (by simp) ?hn5 ?hb5 ?_; (case hn5 => rw [List.length_take]; omega); (case hb5 => have := hb.size; simp; omega); intro v5 w5 hv5 hb5 hk5; rw [← HTK.out] at hv5; obtain ⟨A5, c5, hz5, -, -, -⟩ := hv5.osl; rw [takeLen3 (by omega)] at hz5; subst hz5)
        go_roundg (l.length - (k + 1))
        case measure => have := HG.out; omega
        case rel => exact ⟨k + 1, by go_num, by omega, rfl, (bext hb HX.out hb.size).trans hb5, hv5⟩
    · obtain rfl : k = l.length := by omega
      rw [List.take_length] at K3
      unfold maxLen at k2
      go_wp2
      go_ret
      exact ⟨A2, c2, rfl, k1, by omega, K3.out, hb⟩

set_option maxHeartbeats 1000000 in
theorem equalO_same (A B : Option Addr) (c c' : Nat) (l : List Opr) (w : World) (hl : l.length ≤ 1000000) (hA : OSl w A l) (hB : OSl w B l) :
    Calls Tryd.prog 10 #[.slice A l.length c, .slice B l.length c'] w fun e w' => e = .returned (.bool true) ∧ Below w.heap.size w w' := by
  have HA := Lib.hid hA
  have HB := Lib.hid hB
  clear hA hB
  go_enter Tryd.func10, Tryd.ntmps10
  go_wp2
  go_loopg [13] l.length (fun g i wr => ∃ k : Nat, i = .int .i64 k ∧ k ≤ l.length ∧ g = l.length - k ∧ Below w.heap.size w wr)
  case atStart => exact ⟨0, rfl, by omega, by omega, Below.refl _ _⟩
  case round =>
    obtain ⟨k, rfl, hk, hg, hbl⟩ := hrel
    have HG := Lib.hid hg
    clear hg
    by_cases hlt : k < l.length
    · have hf := HA.out.ext hbl
      have hf' := HB.out.ext hbl
      rcases hf with hf | ⟨b, off, rfl, hblt, hc⟩
      · rw [hf] at hlt; simp at hlt
      · rcases hf' with hf' | ⟨b', off', rfl, hblt', hc'⟩
        · rw [hf'] at hlt; simp at hlt
        · obtain ⟨c1, c2, c3⟩ := hc k hlt
          obtain ⟨d1, d2, d3⟩ := hc' k hlt
          obtain ⟨m, hm⟩ : ∃ m, m = l[k] := ⟨_, rfl⟩
          rw [← hm] at c1 c2 c3 d1 d2 d3
          obtain ⟨y1, y2, y3⟩ := m
          dsimp only at c1 c2 c3 d1 d2 d3
          have i0 : (0 : Int) ≤ (k : Int) := by omega
          have i1 : (k : Int) < (l.length : Int) := by omega
          clear hc hc' hm
          go_wp2
          go_quiet (fail)
          go_wp2
          go_roundg (l.length - (k + 1))
          case measure => have := HG.out; omega
          case rel => exact ⟨k + 1, by go_num, by omega, rfl, ext_trans hbl (ext_drewN _ _)⟩
    · go_wp2
      go_ret
      exact ⟨rfl, hbl⟩
end Go.Proofs.YtfadkokdoehjnaaDoor
