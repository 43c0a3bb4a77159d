/- rounds and Round walked where no joint is odd; awake. No conditions. -/
import Derived.Test.YtfadkokdoehjnaaDoorRd
namespace Go.Proofs.YtfadkokdoehjnaaDoor
open Go.RowKit

/-- the lengths of the first k seams -/
def sumN (l : List Sm) : Nat → Int
  | 0 => 0
  | k + 1 => match l[k]? with
    | none => sumN l k
    | some s => sumN l k + s.n
theorem sumN_succ {l : List Sm} {k : Nat} (h : k < l.length) {s : Sm} (hs : s = l[k]) : sumN l (k + 1) = sumN l k + s.n := by
  show (match l[k]? with | none => _ | some s => _) = _
  rw [List.getElem?_eq_getElem h, hs]
theorem sumN_bd {N : Int} {l : List Sm} (h : ∀ s ∈ l, SmOk N s) : ∀ k, 0 ≤ sumN l k ∧ sumN l k ≤ k * 10000
  | 0 => by unfold sumN; omega
  | k + 1 => by
    have ih := sumN_bd h k
    unfold sumN
    split
    · push_cast; omega
    · rename_i s hs
      have hm := h s (List.mem_of_getElem? hs)
      unfold SmOk at hm
      push_cast
      omega

set_option maxRecDepth 100000 in
set_option maxHeartbeats 4000000 in
theorem rounds_even (n f : Nat) (A : Option Addr) (cap : Nat) (l : List Sm) (w : World) (hok : GOk n l) (hf : f < n) (hall : ∀ s ∈ l, cls allK l l.length s.a.toNat = cls allK l l.length f) (hodd : oddN allS l 16 = []) (hc : l.length ≤ cap) (hcm : cap ≤ 9223372036854775807) (h : SSl w A l) :
    Calls Tryd.prog 24 #[.agg #[.int .i64 (n : Int), .slice A l.length cap], .int .i64 (f : Int)] w fun e w' => ∃ A' cap', e = .returned (.tuple #[.slice A' l.length cap', .int .i64 0]) ∧ LSl w' A' (lnsN l l.length) ∧ Below w.heap.size w w' := by
  have hv := fun W (h : SSl W A l) => valid_any n A cap l W hc hcm h
  rw [vldG_yes hok] at hv
  have HV := Lib.hid hv
  have HR := Lib.hid (fun W (h : SSl W A l) => round_even n f A cap l W hok hf hall hodd hc hcm h)
  have H := Lib.hid h
  have HB0 := Lib.hid (Bk.new 46 w #[.int .i64 (n : Int), .slice A l.length cap])
  have HE0 := Lib.hid (ext_alloc w (.cells #[.int .i64 (n : Int), .slice A l.length cap] 46))
  clear hv h hall hodd hok
  have hfn : (f : Int) < (n : Int) := by omega
  have hfn2 : ¬ (n : Int) ≤ (f : Int) := by omega
  go_enter Tryd.func24, Tryd.ntmps24
  go_wp2_with (first
    | (go_at_call 37; refine (HV.out _ (H.out.ext HE0.out)).mono ?_; rintro e w1 ⟨rfl, hx1⟩; have B1 := ext_trans HE0.out hx1; obtain ⟨f1, f2, f3⟩ := (HB0.out.ext hx1).facts)
    | (go_at_call 38; refine (HR.out _ (H.out.ext B1)).mono ?_; rintro e w2 ⟨A2, c2, rfl, hls, hx2⟩; have B2 := bext B1 hx2 B1.size))
  go_ret2
  exact ⟨A2, c2, rfl, hls, B2⟩

set_option maxRecDepth 100000 in
set_option maxHeartbeats 4000000 in
theorem Round_even (n f : Nat) (A : Option Addr) (cap : Nat) (l : List Sm) (w : World) (hok : GOk n l) (hf : f < n) (hall : ∀ s ∈ l, cls allK l l.length s.a.toNat = cls allK l l.length f) (hodd : oddN allS l 16 = []) (hc : l.length ≤ cap) (hcm : cap ≤ 9223372036854775807) (h : SSl w A l) :
    Calls Tryd.prog 13 #[.agg #[.int .i64 (n : Int), .slice A l.length cap], .int .i64 (f : Int)] w fun e w' => e = .returned (.tuple #[.int .i64 (sumN l l.length), .int .i64 0]) ∧ Below w.heap.size w w' := by
  have HR := Lib.hid (fun W (h : SSl W A l) => rounds_even n f A cap l W hok hf hall hodd hc hcm h)
  have H := Lib.hid h
  have HOK := Lib.hid hok
  have l64 := hok.2.2.1
  have HB0 := Lib.hid (Bk.new 46 w #[.int .i64 (n : Int), .slice A l.length cap])
  have HE0 := Lib.hid (ext_alloc w (.cells #[.int .i64 (n : Int), .slice A l.length cap] 46))
  clear h hall hodd hok
  go_enter Tryd.func13, Tryd.ntmps13
  go_wp2_with (go_at_call 24; refine (HR.out _ (H.out.ext HE0.out)).mono ?_; rintro e w1 ⟨A2, c2, rfl, hls, hx1⟩; have B1 := Lib.hid (ext_trans HE0.out hx1); have HLS := Lib.hid hls; have HG1 := Lib.hid (HB0.out.ext hx1); clear hls hx1)
  go_loopg [19, 8] l.length (fun g i z wr => ∃ k : Nat, i = .int .i64 k ∧ z = .int .i64 (sumN l k) ∧ k ≤ l.length ∧ g = l.length - k ∧ Below w1.heap.size w1 wr)
  case atStart => exact ⟨0, rfl, rfl, by omega, by omega, Below.refl _ _⟩
  case round =>
    obtain ⟨k, rfl, rfl, hk, hg, hb⟩ := hrel
    have HG := Lib.hid hg
    have hbw := bext B1.out hb B1.out.size
    obtain ⟨f1, f2, f3⟩ := (HG1.out.ext hb).facts
    clear hg
    by_cases hlt : k < l.length
    · have hf' := H.out.ext hbw
      rcases hf' with hf' | ⟨b, off, rfl, hblt, hcl⟩
      · rw [hf'] at hlt; simp at hlt
      · have hl2 := HLS.out.ext hb
        rcases hl2 with hl2 | ⟨b2, off2, rfl, hblt2, hcl2⟩
        · have := lnsN_len' l l.length (Nat.le_refl _)
          rw [hl2] at this
          simp at this
          omega
        · obtain ⟨c1, c2', c3, c4⟩ := hcl k hlt
          have hk2 : k < (lnsN l l.length).length := by rw [lnsN_len' l l.length (Nat.le_refl _)]; exact hlt
          obtain ⟨d1, d2, d3⟩ := hcl2 k hk2
          obtain ⟨_, hget⟩ := lnsN_get l l.length (Nat.le_refl _) k hk2
          rw [hget] at d1 d2 d3
          have hbd := sumN_bd (l := l) (fun s hs => HOK.out.2.2.2 s hs) k
          have hso := HOK.out.2.2.2 _ (List.getElem_mem hlt)
          have HSN := Lib.hid (sumN_succ hlt rfl)
          unfold SmOk at hso
          obtain ⟨s, hs⟩ : ∃ s, s = l[k] := ⟨_, rfl⟩
          rw [← hs] at c1 c2' c3 c4 d1 d2 d3 HSN hso
          obtain ⟨a, b', m, t⟩ := s
          dsimp only at c1 c2' c3 c4 d1 d2 d3 hso
          obtain ⟨-, -, -, -, o5, o6, -, -⟩ := hso
          clear hs hcl hcl2 hget
          generalize sumN l k = x at *
          go_wp2
          go_roundg (l.length - (k + 1))
          case measure => have := HG.out; omega
          case rel => exact ⟨k + 1, by go_num, by rw [HSN.out], by omega, rfl, hb.alloc hb.size _⟩
    · obtain rfl : k = l.length := by omega
      go_wp2
      go_ret2
      exact ⟨rfl, hbw⟩

/-- the triangle -/
def tri : List Sm := [⟨0, 1, 5, 0⟩, ⟨1, 2, 4, 0⟩, ⟨2, 0, 3, 0⟩]
theorem tri_ok : GOk ((3 : Nat) : Int) tri := by decide
theorem tri_odd : oddN allS tri 16 = [] := by decide
theorem tri_cls : ∀ s ∈ tri, cls allK tri tri.length s.a.toNat = cls allK tri tri.length 0 := by decide

set_option maxRecDepth 100000 in
set_option maxHeartbeats 4000000 in
theorem awake_any (w : World) : Calls Tryd.prog 5 #[] w fun e w' => e = .returned (.bool true) ∧ Below w.heap.size w w' := by
  have hs : ∀ cs : Array Value, cs = #[.int .i64 0, .int .i64 1, .int .i64 5, .int .i64 0, .int .i64 1, .int .i64 2, .int .i64 4, .int .i64 0, .int .i64 2, .int .i64 0, .int .i64 3, .int .i64 0] → SSl (w.alloc (.cells cs 43)) (some ⟨w.heap.size, 0, none⟩) tri := by
    intro cs hcs
    subst hcs
    have hb := Bk.new 43 w #[.int .i64 0, .int .i64 1, .int .i64 5, .int .i64 0, .int .i64 1, .int .i64 2, .int .i64 4, .int .i64 0, .int .i64 2, .int .i64 0, .int .i64 3, .int .i64 0]
    refine .inr ⟨w.heap.size, 0, rfl, hb.lt, fun j hj => ?_⟩
    have hj' : j < 3 := hj
    rcases (by omega : j = 0 ∨ j = 1 ∨ j = 2) with rfl | rfl | rfl
    all_goals exact ⟨hb.cell _, hb.cell _, hb.cell _, hb.cell _⟩
  have HR := Lib.hid (Round_even 3 0 (some ⟨w.heap.size, 0, none⟩) 3 tri _ tri_ok (by omega) tri_cls tri_odd (by decide) (by decide) (hs _ rfl))
  clear hs
  go_enter Tryd.func5, Tryd.ntmps5
  go_wp2_with (go_at_call 13; refine HR.out.mono ?_; rintro e w1 ⟨rfl, hx1⟩; have B1 := ext_trans (ext_alloc w _) hx1)
  go_ret
  exact ⟨rfl, B1⟩
end Go.Proofs.YtfadkokdoehjnaaDoor
