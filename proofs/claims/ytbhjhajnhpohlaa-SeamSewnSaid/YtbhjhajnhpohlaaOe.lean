/- Odd walked whole, the program's and the reference's. Conditions: the slice reads as a list of seams. -/
import Derived.Test.YtbhjhajnhpohlaaOd
namespace Go.Proofs.Ytbhjhajnhpohlaa
open Go.RowKit

theorem enters59 : Enters 59 := fun _ _ => by kernel_rfl
def chT (t : Int) (s : Sm) : Bool := decide (s.t = t)

set_option maxHeartbeats 1000000 in
theorem odd1_any (s : Sm) (g : Nat) (t : Int) (W : World) (h : W.cell? ⟨g, 0, none⟩ = some (.int .i64 t)) :
    Calls Try.prog 59 (#[s.val] ++ #[.pointer (some ⟨g, 0, none⟩)]) W fun e w' => e = .returned (.bool (chT t s)) ∧ Below W.heap.size W w' := by
  obtain ⟨a, b, n, t'⟩ := s
  have hg := World.block_lt_of_cell? W ⟨g, 0, none⟩ h
  show Calls Try.prog 59 #[.agg #[.int .i64 a, .int .i64 b, .int .i64 n, .int .i64 t'], .pointer (some ⟨g, 0, none⟩)] W _
  dsimp only at hg
  go_enter Try.func59, Try.ntmps59
  go_wp2
  go_ret
  exact ⟨ret_bool (by unfold chT; rfl), ext_alloc _ _⟩
theorem chs_odd1 (l : List Sm) (w : World) (g : Nat) (t : Int) (h : w.cell? ⟨g, 0, none⟩ = some (.int .i64 t)) : ChS w 59 #[.pointer (some ⟨g, 0, none⟩)] l (chT t) :=
  ⟨enters59, fun W hW s _ => odd1_any s g t W ((hW.cell (p := ⟨g, 0, none⟩) (World.block_lt_of_cell? w ⟨g, 0, none⟩ h)).trans h)⟩

/-- what Odd answers -/
def RetOd (w : World) (N : Int) (l : List Sm) (t : Int) (e : Ending) (w' : World) : Prop :=
  Below w.heap.size w w' ∧ ((¬ (GOk N l ∧ 0 ≤ t ∧ t < 8) ∧ e = .returned (.tuple #[.slice none 0 0, .int .i64 2])) ∨
    ((GOk N l ∧ 0 ≤ t ∧ t < 8) ∧ ∃ A cap, e = .returned (.tuple #[.slice A (oddN (chT t) l N.toNat).length cap, .int .i64 0]) ∧ ISl w' A (oddN (chT t) l N.toNat)))

set_option maxRecDepth 100000 in
set_option maxHeartbeats 4000000 in
theorem Odd_any (N : Int) (A : Option Addr) (cap : Nat) (l : List Sm) (t : Int) (w : World) (hc : l.length ≤ cap) (hcm : cap ≤ 9223372036854775807) (h : SSl w A l) :
    Calls Try.prog 19 #[.agg #[.int .i64 N, .slice A l.length cap], .int .i64 t] w (RetOd w N l t) := by
  have HV := Lib.hid (fun W (h : SSl W A l) => valid_any N A cap l W hc hcm h)
  have H := Lib.hid h
  have hx := ((Below.refl w.heap.size w).alloc (Nat.le_refl _) (.cells #[.int .i64 N, .slice A l.length cap] 30)).alloc (by simp) (.cells #[.int .i64 t] 3)
  have HX := Lib.hid hx
  have HB1 := Lib.hid ((Bk.new 30 w #[.int .i64 N, .slice A l.length cap]).alloc (.cells #[.int .i64 t] 3))
  have hb2 := Bk.new 3 (w.alloc (.cells #[.int .i64 N, .slice A l.length cap] 30)) #[.int .i64 t]
  rw [World.size_alloc] at hb2
  have HB2 := Lib.hid hb2
  have HW := Lib.hid (fun W (hW : Below w.heap.size w W) => H.out.ext hW)
  clear h hx hb2
  by_cases hok : GOk N l
  · have hv := vldG_yes hok
    rw [hv] at HV
    have HOK := Lib.hid hok
    by_cases ht : 0 ≤ t ∧ t < 8
    · have HT := Lib.hid (show GOk N l ∧ 0 ≤ t ∧ t < 8 from ⟨hok, ht⟩)
      have HE := Lib.hid (show oddN (chT t) l 16 = oddN (chT t) l N.toNat from oddN_out (N := N.toNat) (fun s hs => by rw [Int.toNat_of_nonneg (by have := hok.1; omega)]; exact hok.2.2.2 s hs) 16 (by have := hok.2.1; omega))
      have HOD := Lib.hid (fun W (h : SSl W A l) (hch : ChS W 59 #[.pointer (some ⟨w.heap.size + 1, 0, none⟩)] l (chT t)) => odd_any N A cap l _ _ (chT t) W hok hc hcm h hch)
      obtain ⟨t1, t2⟩ := ht
      clear hok hv
      go_enter Try.func19, Try.ntmps19
      go_wp2_with (first
        | (go_at_call 21; refine (HV.out _ (HW.out _ HX.out)).mono ?_; rintro e w1 ⟨rfl, hx1⟩; have B1 := bext HX.out hx1 HX.out.size; obtain ⟨f1, f2, f3⟩ := (HB1.out.ext hx1).facts; obtain ⟨g1, g2, g3⟩ := (HB2.out.ext hx1).facts)
        | (go_at_call 58; refine (HOD.out _ (HW.out _ B1) (chs_odd1 _ _ _ _ (g1 0))).mono ?_; rintro e w2 ⟨v2, rfl, hv2, hx2⟩; obtain ⟨A2, cap2, rfl, -, -, hi2⟩ := hv2.isl))
      go_ret2
      rw [HE.out] at hi2
      exact ⟨bext B1 hx2 B1.size, .inr ⟨HT.out, A2, cap2, by rw [HE.out]; rfl, hi2⟩⟩
    · have HT := Lib.hid (show ¬ (GOk N l ∧ 0 ≤ t ∧ t < 8) from fun h => ht h.2)
      clear hok hv
      rcases (by omega : t < 0 ∨ 8 ≤ t) with h1 | h1
      all_goals
        clear ht
        go_enter Try.func19, Try.ntmps19
        go_wp2_with (go_at_call 21; refine (HV.out _ (HW.out _ HX.out)).mono ?_; rintro e w1 ⟨rfl, hx1⟩; have B1 := bext HX.out hx1 HX.out.size; obtain ⟨f1, f2, f3⟩ := (HB1.out.ext hx1).facts; obtain ⟨g1, g2, g3⟩ := (HB2.out.ext hx1).facts)
        go_ret2
        exact ⟨B1, .inl ⟨HT.out, rfl⟩⟩
  · have hv := vldG_no hok
    rw [hv] at HV
    have HT := Lib.hid (show ¬ (GOk N l ∧ 0 ≤ t ∧ t < 8) from fun h => hok h.1)
    clear hok hv
    go_enter Try.func19, Try.ntmps19
    go_wp2_with (go_at_call 21; refine (HV.out _ (HW.out _ HX.out)).mono ?_; rintro e w1 ⟨rfl, hx1⟩; have B1 := bext HX.out hx1 HX.out.size; obtain ⟨f1, f2, f3⟩ := (HB1.out.ext hx1).facts; obtain ⟨g1, g2, g3⟩ := (HB2.out.ext hx1).facts)
    go_ret2
    exact ⟨B1, .inl ⟨HT.out, rfl⟩⟩
end Go.Proofs.Ytbhjhajnhpohlaa
