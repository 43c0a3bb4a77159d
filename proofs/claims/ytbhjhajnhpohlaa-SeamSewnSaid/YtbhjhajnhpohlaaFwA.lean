/- Fewest and Runs walked, the program's. Conditions: the slice reads as a list of seams. -/
import Derived.Test.YtbhjhajnhpohlaaRn7
import Derived.Test.YtbhjhajnhpohlaaVa
import Derived.Test.YtbhjhajnhpohlaaGr
namespace Go.Proofs.Ytbhjhajnhpohlaa
open Go.RowKit

/-- how many runs of each thread a least sewing has -/
def cE (N : Int) (l : List Sm) (t : Int) : Nat := if 0 ≤ t ∧ t < 8 then fwT l t N.toNat else 0
/-- the least number of runs -/
def fwN (N : Int) (l : List Sm) : Nat := fwA l N.toNat 8
theorem runT_rng {N : Int} {l : List Sm} (h : ∀ s ∈ l, SmOk N s) {run : List Mv} (hg : GoodRun l run) : 0 ≤ runT l run ∧ runT l run < 8 := by
  have h0 : 0 < run.length := List.length_pos_iff.2 hg.1
  obtain ⟨⟨h1, h2⟩, _⟩ := hg.2 0 h0
  unfold runT Mv.thr
  have hlt : (run.getD 0 default).k.toNat < l.length := by omega
  rw [List.getElem?_eq_getElem hlt]
  dsimp only
  have := h _ (List.getElem_mem hlt)
  unfold SmOk at this
  omega
theorem fwA_sum (l : List Sm) (n : Nat) : ∀ m, fwA l n m = ((List.range m).map fun t : Nat => fwT l (t : Int) n).sum
  | 0 => rfl
  | m + 1 => by
    rw [List.range_succ, List.map_append, List.sum_append_nat, ← fwA_sum l n m]
    show _ + fwT l m n = _ + (fwT l m n + 0)
    omega
theorem runs_num {N : Int} {l : List Sm} (h : ∀ s ∈ l, SmOk N s) {R : List (List Mv)} (hr : RunsI l (fun _ => True) (cE N l) R) : R.length = fwN N l := by
  rw [count_split (f := runT l) 8 (fun r hr' => runT_rng h (hr.good r hr')), fwN, fwA_sum]
  congr 1
  refine List.map_congr_left fun t ht => ?_
  have := List.mem_range.1 ht
  rw [hr.cnt]
  unfold cE
  rw [if_pos (by omega)]
/-- what runs answers -/
theorem runsZ_any (N : Int) (A : Option Addr) (cap : Nat) (l : List Sm) (w : World) (hok : GOk N l) (hc : l.length ≤ cap) (hcm : cap ≤ 9223372036854775807) (h : SSl w A l) :
    Calls Try.prog 71 #[.agg #[.int .i64 N, .slice A l.length cap]] w fun e w' => ∃ R A' c', e = .returned (.slice A' (List.length R) c') ∧ R.length ≤ c' ∧ c' ≤ 9223372036854775807 ∧ RSl w' A' R ∧ RunsI l (fun _ => True) (cE N l) R ∧ R.length ≤ l.length ∧ Below w.heap.size w w' := by
  obtain ⟨n, hn⟩ := Int.eq_ofNat_of_zero_le (show 0 ≤ N by have := hok.1; omega)
  subst hn
  refine (runs7_any n A cap l w hok hc hcm h).mono ?_
  rintro e w' ⟨v, R, rfl, hv, hr, hb⟩
  obtain ⟨A', c', rfl, h1, h2, h3⟩ := hv.rsl
  exact ⟨R, A', c', rfl, h1, by unfold maxLen at h2; exact h2, h3, hr, hr.len, hb⟩
/-- what Fewest answers -/
def RetFw (w : World) (N : Int) (l : List Sm) (e : Ending) (w' : World) : Prop :=
  Below w.heap.size w w' ∧ ((¬ GOk N l ∧ e = .returned (.tuple #[.int .i64 0, .int .i64 2])) ∨ (GOk N l ∧ e = .returned (.tuple #[.int .i64 (fwN N l), .int .i64 0])))
/-- what Runs answers -/
def RetRu (w : World) (N : Int) (l : List Sm) (e : Ending) (w' : World) : Prop :=
  Below w.heap.size w w' ∧ ((¬ GOk N l ∧ e = .returned (.tuple #[.slice none 0 0, .int .i64 2])) ∨ (GOk N l ∧ ∃ R A' c', e = .returned (.tuple #[.slice A' (List.length R) c', .int .i64 0]) ∧ R.length ≤ c' ∧ c' ≤ 9223372036854775807 ∧ RSl w' A' R ∧ RunsI l (fun _ => True) (cE N l) R ∧ R.length = fwN N l))
set_option maxRecDepth 100000 in
set_option maxHeartbeats 4000000 in
theorem Fewest_any (N : Int) (A : Option Addr) (cap : Nat) (l : List Sm) (w : World) (hc : l.length ≤ cap) (hcm : cap ≤ 9223372036854775807) (h : SSl w A l) :
    Calls Try.prog 47 #[.agg #[.int .i64 N, .slice A l.length cap]] w (RetFw w N l) := by
  have HV := Lib.hid (fun W (h : SSl W A l) => valid_any N A cap l W hc hcm h)
  have HX := Lib.hid (ext_alloc w (.cells #[.int .i64 N, .slice A l.length cap] 30))
  have HB := Lib.hid (Bk.new 30 w #[.int .i64 N, .slice A l.length cap])
  have HW := Lib.hid (fun W (hW : Below w.heap.size w W) => h.ext hW)
  have HR := Lib.hid (fun W hok h => runsZ_any N A cap l W hok hc hcm h)
  clear h
  by_cases hok : GOk N l
  · have hv := vldG_yes hok
    rw [hv] at HV
    have HOK := Lib.hid hok
    clear hok hv
    go_enter Try.func47, Try.ntmps47
    go_wp2_with (first
      | (go_at_call 21; refine (HV.out _ (HW.out _ HX.out)).mono ?_; rintro e w1 ⟨rfl, hx1⟩; have B1 := bext HX.out hx1 HX.out.size; obtain ⟨f1, f2, f3⟩ := (HB.out.ext hx1).facts)
      | (go_at_call 71; refine (HR.out _ HOK.out (HW.out _ B1)).mono ?_; rintro e w2 ⟨R, A2, c2, rfl, hk1, hk2, hrs, hri, hrl, hx2⟩; have HRI := Lib.hid hri; clear hri hrs))
    go_ret2
    exact ⟨bext B1 hx2 B1.size, .inr ⟨HOK.out, by rw [← runs_num HOK.out.2.2.2 HRI.out]; rfl⟩⟩
  · have hv := vldG_no hok
    rw [hv] at HV
    have HOK := Lib.hid hok
    clear hok hv
    go_enter Try.func47, Try.ntmps47
    go_wp2_with (go_at_call 21; refine (HV.out _ (HW.out _ HX.out)).mono ?_; rintro e w1 ⟨rfl, hx1⟩; have B1 := bext HX.out hx1 HX.out.size; obtain ⟨f1, f2, f3⟩ := (HB.out.ext hx1).facts)
    go_ret2
    exact ⟨B1, .inl ⟨HOK.out, rfl⟩⟩
set_option maxRecDepth 100000 in
set_option maxHeartbeats 4000000 in
theorem Runs_any (N : Int) (A : Option Addr) (cap : Nat) (l : List Sm) (w : World) (hc : l.length ≤ cap) (hcm : cap ≤ 9223372036854775807) (h : SSl w A l) :
    Calls Try.prog 49 #[.agg #[.int .i64 N, .slice A l.length cap]] w (RetRu w N l) := by
  have HV := Lib.hid (fun W (h : SSl W A l) => valid_any N A cap l W hc hcm h)
  have HX := Lib.hid (ext_alloc w (.cells #[.int .i64 N, .slice A l.length cap] 30))
  have HB := Lib.hid (Bk.new 30 w #[.int .i64 N, .slice A l.length cap])
  have HW := Lib.hid (fun W (hW : Below w.heap.size w W) => h.ext hW)
  have HR := Lib.hid (fun W hok h => runsZ_any N A cap l W hok hc hcm h)
  clear h
  by_cases hok : GOk N l
  · have hv := vldG_yes hok
    rw [hv] at HV
    have HOK := Lib.hid hok
    clear hok hv
    go_enter Try.func49, Try.ntmps49
    go_wp2_with (first
      | (go_at_call 21; refine (HV.out _ (HW.out _ HX.out)).mono ?_; rintro e w1 ⟨rfl, hx1⟩; have B1 := bext HX.out hx1 HX.out.size; obtain ⟨f1, f2, f3⟩ := (HB.out.ext hx1).facts)
      | (go_at_call 71; refine (HR.out _ HOK.out (HW.out _ B1)).mono ?_; rintro e w2 ⟨R, A2, c2, rfl, hk1, hk2, hrs, hri, hrl, hx2⟩; have HRI := Lib.hid hri; have HRS := Lib.hid hrs; clear hri hrs))
    go_ret2
    exact ⟨bext B1 hx2 B1.size, .inr ⟨HOK.out, R, A2, c2, rfl, hk1, hk2, HRS.out, HRI.out, runs_num HOK.out.2.2.2 HRI.out⟩⟩
  · have hv := vldG_no hok
    rw [hv] at HV
    have HOK := Lib.hid hok
    clear hok hv
    go_enter Try.func49, Try.ntmps49
    go_wp2_with (go_at_call 21; refine (HV.out _ (HW.out _ HX.out)).mono ?_; rintro e w1 ⟨rfl, hx1⟩; have B1 := bext HX.out hx1 HX.out.size; obtain ⟨f1, f2, f3⟩ := (HB.out.ext hx1).facts)
    go_ret2
    exact ⟨B1, .inl ⟨HOK.out, rfl⟩⟩
theorem RetFw.cpd {w : World} {N : Int} {l : List Sm} {e : Ending} {w' : World} (h : RetFw w N (cpy l) e w') : RetFw w N l e w' := by
  obtain ⟨hb, h⟩ := h
  refine ⟨hb, ?_⟩
  rcases h with ⟨h1, h2⟩ | ⟨h1, h2⟩
  · exact .inl ⟨fun h => h1 (cpy_ok.2 h), h2⟩
  · have hg := cpy_ok.1 h1
    rw [cpy_eq hg] at h2
    exact .inr ⟨hg, h2⟩
theorem RetRu.cpd {w : World} {N : Int} {l : List Sm} {e : Ending} {w' : World} (h : RetRu w N (cpy l) e w') : RetRu w N l e w' := by
  obtain ⟨hb, h⟩ := h
  refine ⟨hb, ?_⟩
  rcases h with ⟨h1, h2⟩ | ⟨h1, h2⟩
  · exact .inl ⟨fun h => h1 (cpy_ok.2 h), h2⟩
  · have hg := cpy_ok.1 h1
    rw [cpy_eq hg] at h2
    exact .inr ⟨hg, h2⟩
end Go.Proofs.Ytbhjhajnhpohlaa
