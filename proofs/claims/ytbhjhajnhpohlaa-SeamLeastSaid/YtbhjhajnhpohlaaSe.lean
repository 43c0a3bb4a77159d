/- Sews walked. Conditions: the graph and the runs read as lists. -/
import Derived.Test.YtbhjhajnhpohlaaSw
import Derived.Test.YtbhjhajnhpohlaaVa
import Derived.Test.YtbhjhajnhpohlaaGr
namespace Go.Proofs.Ytbhjhajnhpohlaa
open Go.RowKit

/-- what Sews answers -/
def RetSw (w : World) (N : Int) (l : List Sm) (ls : List (List Mv)) (e : Ending) (w' : World) : Prop :=
  Below w.heap.size w w' ∧ ((¬ GOk N l ∧ e = .returned (.tuple #[.bool false, .int .i64 2])) ∨ (GOk N l ∧ e = .returned (.tuple #[.bool (sewB l ls), .int .i64 0])))
set_option maxRecDepth 100000 in
set_option maxHeartbeats 4000000 in
theorem Sews_any (N : Int) (A : Option Addr) (cap : Nat) (l : List Sm) (C : Option Addr) (cc : Nat) (ls : List (List Mv)) (w : World) (hc : l.length ≤ cap) (hcm : cap ≤ 9223372036854775807) (h : SSl w A l) (hcc : ls.length ≤ cc) (hcc2 : cc ≤ 9223372036854775807) (hr : RSl w C ls) :
    Calls Try.prog 25 #[.agg #[.int .i64 N, .slice A l.length cap], .slice C ls.length cc] w (RetSw w N l ls) := by
  have HV := Lib.hid (fun W (h : SSl W A l) => valid_any N A cap l W hc hcm h)
  have HX := Lib.hid (ext_alloc w (.cells #[.int .i64 N, .slice A l.length cap] 30))
  have HB := Lib.hid (Bk.new 30 w #[.int .i64 N, .slice A l.length cap])
  have HW := Lib.hid (fun W (hW : Below w.heap.size w W) => And.intro (h.ext hW) (hr.ext hW))
  have HSW := Lib.hid (fun W hok h hr => sews_any N A cap l C cc ls W hok hc hcm h hcc hcc2 hr)
  clear h hr
  by_cases hok : GOk N l
  · have hv := vldG_yes hok
    rw [hv] at HV
    have HOK := Lib.hid hok
    clear hok hv
    go_enter Try.func25, Try.ntmps25
    go_wp2_with (first
      | (go_at_call 21; refine (HV.out _ (HW.out _ HX.out).1).mono ?_; rintro e w1 ⟨rfl, hx1⟩; have B1 := bext HX.out hx1 HX.out.size; obtain ⟨f1, f2, f3⟩ := (HB.out.ext hx1).facts)
      | (go_at_call 61; refine (HSW.out _ HOK.out (HW.out _ B1).1 (HW.out _ B1).2).mono ?_; rintro e w2 ⟨rfl, hx2⟩))
    go_ret2
    exact ⟨bext B1 hx2 B1.size, .inr ⟨HOK.out, rfl⟩⟩
  · have hv := vldG_no hok
    rw [hv] at HV
    have HOK := Lib.hid hok
    clear hok hv
    go_enter Try.func25, Try.ntmps25
    go_wp2_with (go_at_call 21; refine (HV.out _ (HW.out _ HX.out).1).mono ?_; rintro e w1 ⟨rfl, hx1⟩; have B1 := bext HX.out hx1 HX.out.size; obtain ⟨f1, f2, f3⟩ := (HB.out.ext hx1).facts)
    go_ret2
    exact ⟨B1, .inl ⟨HOK.out, rfl⟩⟩
theorem RetSw.cpd {w : World} {N : Int} {l : List Sm} {ls : List (List Mv)} {e : Ending} {w' : World} (h : RetSw w N (cpy l) ls e w') : RetSw w N l ls e w' := by
  obtain ⟨hb, h⟩ := h
  refine ⟨hb, ?_⟩
  rcases h with ⟨h1, h2⟩ | ⟨h1, h2⟩
  · exact .inl ⟨fun h => h1 (cpy_ok.2 h), h2⟩
  · have hg := cpy_ok.1 h1
    rw [cpy_eq hg] at h2
    exact .inr ⟨hg, h2⟩
end Go.Proofs.Ytbhjhajnhpohlaa
