/- The program's Maximal, and slices.Equal at rectangles, walked. Conditions: each string's length is an int. -/
import Derived.Test.YtmgofdgbenfjmaaDoorMxa
import Derived.Test.YtmgofdgbenfjmaaDoorSq
import Derived.Test.YtmgofdgbenfjmaaDoorRm
namespace Go.Proofs.YtmgofdgbenfjmaaDoor
open Go.RowKit

set_option maxRecDepth 100000 in
set_option maxHeartbeats 1000000 in
theorem equal_rects (A B : Option Addr) (c c' : Nat) (l : List Rn) (w : World) (hl : l.length ≤ 9223372036854775807) (hA : RSl w A l) (hB : RSl w B l) :
    Calls Tryd.prog 17 #[.slice A l.length c, .slice B l.length c'] w fun e w' => e = .returned (.bool true) ∧ Below w.heap.size w w' := by
  have HA := Lib.hid hA
  have HB := Lib.hid hB
  clear hA hB
  go_enter Tryd.func17, Tryd.ntmps17
  go_wp2
  go_loopg [13] l.length (fun g i wr => ∃ k : Nat, i = .int .i64 k ∧ k ≤ l.length ∧ g = l.length - k ∧ Below w.heap.size w wr)
  case atStart => exact ⟨0, rfl, by omega, by omega, Below.refl _ _⟩
  case round =>
    obtain ⟨k, rfl, hk, hg, hbl⟩ := hrel
    have HG := Lib.hid hg
    clear hg
    by_cases hlt : k < l.length
    · have hf := HA.out.ext hbl
      have hf' := HB.out.ext hbl
      rcases hf with hf | ⟨b, off, rfl, hblt, hc⟩
      · rw [hf] at hlt; simp at hlt
      · rcases hf' with hf' | ⟨b', off', rfl, hblt', hc'⟩
        · rw [hf'] at hlt; simp at hlt
        · obtain ⟨c1, c2, c3, c4⟩ := hc k hlt
          obtain ⟨d1, d2, d3, d4⟩ := hc' k hlt
          generalize l[k] = y at *
          obtain ⟨yx, yy, ya, yb⟩ := y
          dsimp only at c1 c2 c3 c4 d1 d2 d3 d4
          have i0 : (0 : Int) ≤ (k : Int) := by omega
          have i1 : (k : Int) < (l.length : Int) := by omega
          clear hc hc'
          go_wp2
          go_quiet (fail)
          go_wp2
          go_roundg (l.length - (k + 1))
          case measure => have := HG.out; omega
          case rel => exact ⟨k + 1, by go_num, by omega, rfl, ext_trans hbl (ext_drewN _ _)⟩
    · go_wp2
      go_ret
      exact ⟨rfl, hbl⟩
/-- the table's maximal, the sort paid -/
theorem tmaximal_any (l : List ByteArray) (g : Int) (base q : Nat) (w : World) (k : TbS (wid l) l.length l g base q l.length w) (hg : 1 ≤ g) (hok : SkOk l) :
    Calls Tryd.prog 54 #[.pointer (some ⟨q, 0, none⟩)] w fun e w' => Below w.heap.size w w' ∧ ∃ A cap ms, e = .returned (.slice A ms.length cap) ∧ ms.length ≤ cap ∧ cap ≤ 9223372036854775807 ∧ ms.length ≤ 10000000 ∧ RSl w' A ms ∧ ms.Pairwise rlt ∧ ∀ r, r ∈ ms ↔ Mx (usb l g) r := by
  refine maximal_any l g base q w k hg hok fun A cap ms W hv hW hl hn => ?_
  refine (sort_any w.heap.size A cap ms W hv hW.size hl hn).mono ?_
  rintro e w' ⟨rfl, hb, ms', h1, h2, h3, h4⟩
  exact ⟨rfl, hW.trans hb, ms', h1, h2, h3, h4⟩
set_option maxRecDepth 100000 in
set_option maxHeartbeats 2000000 in
theorem smaximal_any (A : Option Addr) (cap : Nat) (l : List ByteArray) (g : Int) (w : World) (hc : l.length ≤ cap) (hcm : cap ≤ 9223372036854775807) (h : TSl w A l) (hz : TSz l) :
    Calls Tryd.prog 15 #[.slice A l.length cap, .int .i64 g] w (RetMx w l g) := by
  have HNT := Lib.hid (newtable_any A cap l g w hc hcm h hz)
  clear h hz
  by_cases hps : PsOk l g
  · have HPS := Lib.hid hps
    have HNT := Lib.hid (HNT.out.mono (R' := fun e w' => Below w.heap.size w w' ∧ ∃ q, e = .returned (.tuple #[.pointer (some ⟨q, 0, none⟩), .int .i64 0]) ∧ TbS (wid l) l.length l g w.heap.size q l.length w') (fun e w' hr => ⟨hr.1, hr.2.elim (fun h => absurd hps h.1) (fun h => h.2)⟩))
    have HMX := Lib.hid (fun base q W k => tmaximal_any l g base q W k hps.2.1 hps.1)
    clear hps
    go_enter Tryd.func15, Tryd.ntmps15
    go_wp2_with (first
      | (go_at_call 53; refine (HNT.out).mono ?_; rintro e w1 ⟨hx1, q, rfl, ht⟩)
      | (go_at_call 54; refine (HMX.out _ _ _ ht).mono ?_; rintro e w2 ⟨hx2, A2, cap2, ms, rfl, k1, k2, k3, k4, k5, k6⟩))
    refine bodyPost_ret (v := .tuple #[.slice A2 ms.length cap2, .int .i64 0]) (by simp [results, Tryd.results15, go_sem]) rfl ?_
    exact ⟨bext hx1 hx2 hx1.size, .inr ⟨HPS.out, A2, cap2, ms, rfl, k1, k2, k3, k4, k5, k6⟩⟩
  · have HPS := Lib.hid hps
    have HNT := Lib.hid (HNT.out.mono (R' := fun e w' => Below w.heap.size w w' ∧ e = .returned (.tuple #[.pointer none, .int .i64 2])) (fun e w' hr => ⟨hr.1, hr.2.elim (fun h => h.2) (fun h => absurd h.1 hps)⟩))
    clear hps
    go_enter Tryd.func15, Tryd.ntmps15
    go_wp2_with (go_at_call 53; refine (HNT.out).mono ?_; rintro e w1 ⟨hx1, rfl⟩)
    refine bodyPost_ret (v := .tuple #[.slice none 0 0, .int .i64 2]) (by simp [results, Tryd.results15, go_sem]) rfl ?_
    exact ⟨hx1, .inl ⟨HPS.out, rfl⟩⟩
/-- the error of a skin and a grade -/
def erM (l : List ByteArray) (g : Int) : Int := if PsOk l g then 0 else 2
/-- both answers have one form -/
theorem mx_same (l : List ByteArray) (g : Int) : (∀ w e w', RetMx w l g e w' → ∃ P er, (P = [] ∨ PsOk l g) ∧ er = erM l g ∧ (PsOk l g → P.Pairwise rlt ∧ ∀ r, r ∈ P ↔ Mx (usb l g) r) ∧ P.length ≤ 10000000 ∧ ∃ A cap, e = .returned (.tuple #[.slice A P.length cap, .int .i64 er]) ∧ P.length ≤ cap ∧ cap ≤ 9223372036854775807 ∧ RSl w' A P ∧ Below w.heap.size w w') := by
  rintro w e w' ⟨hb, ⟨hn, rfl⟩ | ⟨hp, A, cap, ms, rfl, k1, k2, k3, k4, k5, k6⟩⟩
  · exact ⟨[], 2, .inl rfl, by unfold erM; rw [if_neg hn], fun h => absurd h hn, by simp, none, 0, rfl, by simp, by simp, .inl rfl, hb⟩
  · exact ⟨ms, 0, .inr hp, by unfold erM; rw [if_pos hp], fun _ => ⟨k5, k6⟩, k3, A, cap, rfl, k1, k2, k4, hb⟩
end Go.Proofs.YtmgofdgbenfjmaaDoor
