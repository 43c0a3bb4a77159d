/- Run walked. Conditions: the graph and the program read as lists. -/
import Derived.Test.YtbhjhajnhpohlaaMru
import Derived.Test.YtbhjhajnhpohlaaVa
namespace Go.Proofs.Ytbhjhajnhpohlaa
open Go.RowKit

/-- the machine at its start -/
def mc0 : Mc := ⟨0, 0, -1, 0, fun _ => 0, fun _ => 0⟩
theorem mc0_ok : McOk mc0 := ⟨by decide, by decide⟩
def machCells (bs bu n : Nat) (N : Int) (A : Option Addr) (cap : Nat) (fuel : Int) : Array Value := #[.int .i64 0, .int .i64 0, .int .i64 0, .int .i64 (-1), .int .i64 0, .slice (some ⟨bs, 0, none⟩) n n, .slice (some ⟨bu, 0, none⟩) 8 8, .int .i64 N, .slice A n cap, .int .i64 fuel]
theorem mk1 (W : World) (n : Nat) (N : Int) (A : Option Addr) (cap : Nat) (fuel : Int) : PmS (W.heap.size + 1 + 1) W.heap.size (W.heap.size + 1) n N A cap fuel 0 mc0 (((W.alloc (.cells (cellsOf n fun _ => 0) 3)).alloc (.cells (cellsOf 8 fun _ => 0) 3)).alloc (.cells (machCells W.heap.size (W.heap.size + 1) n N A cap fuel) 126)) := by
  have h1 := Ow.new 3 W n (fun _ => 0)
  have h2 := Ow.new 3 (W.alloc (.cells (cellsOf n fun _ => 0) 3)) 8 (fun _ => 0)
  have h3 := Bk.new 126 ((W.alloc (.cells (cellsOf n fun _ => 0) 3)).alloc (.cells (cellsOf 8 fun _ => 0) 3)) (machCells W.heap.size (W.heap.size + 1) n N A cap fuel)
  simp only [World.size_alloc] at h1 h2 h3
  exact ⟨h3, (h1.ext (ext_alloc _ _)).ext (ext_alloc _ _), h2.ext (ext_alloc _ _)⟩
theorem mk2 (W : World) (n : Nat) (N : Int) (A : Option Addr) (cap : Nat) (fuel : Int) : PmS (W.heap.size + 1 + 1) (W.heap.size + 1) W.heap.size n N A cap fuel 0 mc0 (((W.alloc (.cells (cellsOf 8 fun _ => 0) 3)).alloc (.cells (cellsOf n fun _ => 0) 3)).alloc (.cells (machCells (W.heap.size + 1) W.heap.size n N A cap fuel) 126)) := by
  have h1 := Ow.new 3 W 8 (fun _ => 0)
  have h2 := Ow.new 3 (W.alloc (.cells (cellsOf 8 fun _ => 0) 3)) n (fun _ => 0)
  have h3 := Bk.new 126 ((W.alloc (.cells (cellsOf 8 fun _ => 0) 3)).alloc (.cells (cellsOf n fun _ => 0) 3)) (machCells (W.heap.size + 1) W.heap.size n N A cap fuel)
  simp only [World.size_alloc] at h1 h2 h3
  exact ⟨h3, h2.ext (ext_alloc _ _), (h1.ext (ext_alloc _ _)).ext (ext_alloc _ _)⟩
theorem alloc3 (w : World) (a b c : Obj) : Below w.heap.size w (((w.alloc a).alloc b).alloc c).drew :=
  (((((Below.refl _ w).alloc (Nat.le_refl _) a).alloc (by simp) b).alloc (by simp; omega) c)).drew
theorem seven {T : TypeId} {w : World} {g : Nat} {c0 c1 c2 c3 c4 c5 c6 : Value} (h : Bk T w g #[c0, c1, c2, c3, c4, c5, c6]) (v0 v1 v2 v3 v4 v5 v6 : Value) : Bk T (((((((w.setCell ⟨g, 0, none⟩ v0).setCell ⟨g, 1, none⟩ v1).setCell ⟨g, 2, none⟩ v2).setCell ⟨g, 3, none⟩ v3).setCell ⟨g, 4, none⟩ v4).setCell ⟨g, 5, none⟩ v5).setCell ⟨g, 6, none⟩ v6) g #[v0, v1, v2, v3, v4, v5, v6] := by
  have h0 : Bk T _ g #[v0, c1, c2, c3, c4, c5, c6] := h.set 0 v0
  have h1 : Bk T _ g #[v0, v1, c2, c3, c4, c5, c6] := h0.set 1 v1
  have h2 : Bk T _ g #[v0, v1, v2, c3, c4, c5, c6] := h1.set 2 v2
  have h3 : Bk T _ g #[v0, v1, v2, v3, c4, c5, c6] := h2.set 3 v3
  have h4 : Bk T _ g #[v0, v1, v2, v3, v4, c5, c6] := h3.set 4 v4
  have h5 : Bk T _ g #[v0, v1, v2, v3, v4, v5, c6] := h4.set 5 v5
  have h6 : Bk T _ g #[v0, v1, v2, v3, v4, v5, v6] := h5.set 6 v6
  exact h6
theorem sevenB {B : Nat} {a w : World} {g : Nat} (h : Below B a w) (hg : B ≤ g) (v0 v1 v2 v3 v4 v5 v6 : Value) : Below B a (((((((w.setCell ⟨g, 0, none⟩ v0).setCell ⟨g, 1, none⟩ v1).setCell ⟨g, 2, none⟩ v2).setCell ⟨g, 3, none⟩ v3).setCell ⟨g, 4, none⟩ v4).setCell ⟨g, 5, none⟩ v5).setCell ⟨g, 6, none⟩ v6) :=
  ((((((h.setCell hg v0).setCell hg v1).setCell hg v2).setCell hg v3).setCell hg v4).setCell hg v5).setCell hg v6
theorem sevenO {T : TypeId} {b n : Nat} {d : Nat → Int} {w : World} {g : Nat} (h : Ow T b n d w) (hg : b ≠ g) (v0 v1 v2 v3 v4 v5 v6 : Value) : Ow T b n d (((((((w.setCell ⟨g, 0, none⟩ v0).setCell ⟨g, 1, none⟩ v1).setCell ⟨g, 2, none⟩ v2).setCell ⟨g, 3, none⟩ v3).setCell ⟨g, 4, none⟩ v4).setCell ⟨g, 5, none⟩ v5).setCell ⟨g, 6, none⟩ v6) :=
  ((((((h.set_ne hg v0).set_ne hg v1).set_ne hg v2).set_ne hg v3).set_ne hg v4).set_ne hg v5).set_ne hg v6
/-- the report of nothing -/
def rep0 : Value := .agg #[.int .i64 0, .int .i64 0, .int .i64 0, .int .i64 0, .int .i64 0, .slice none 0 0, .slice none 0 0]
/-- when Run runs -/
def RnOk (N : Int) (l : List Sm) (ops : List Opr) (fuel : Int) : Prop := GOk N l ∧ 0 ≤ fuel ∧ fuel ≤ 100000 ∧ ops.length ≤ 4096 ∧ PrOk ops
/-- the error else -/
def rnErr (N : Int) (l : List Sm) (ops : List Opr) (fuel : Int) : Int := if ¬ (GOk N l ∧ 0 ≤ fuel ∧ fuel ≤ 100000) then 2 else if 4096 < ops.length then 3 else 2
/-- what Run answers -/
def RetRn (w : World) (N : Int) (l : List Sm) (ops : List Opr) (fuel : Int) (e : Ending) (w' : World) : Prop :=
  Below w.heap.size w w' ∧ ((¬ RnOk N l ops fuel ∧ e = .returned (.tuple #[rep0, .int .i64 (rnErr N l ops fuel)])) ∨
    (RnOk N l ops fuel ∧ ∃ bs bu, e = .returned (.tuple #[.agg #[.int .i64 (exec fuel N l ops mc0).1, .int .i64 (exec fuel N l ops mc0).2.s, .int .i64 (exec fuel N l ops mc0).2.a, .int .i64 (exec fuel N l ops mc0).2.h, .int .i64 (exec fuel N l ops mc0).2.k, .slice (some ⟨bs, 0, none⟩) l.length l.length, .slice (some ⟨bu, 0, none⟩) 8 8], .int .i64 0]) ∧
      Ow 3 bs l.length (exec fuel N l ops mc0).2.sw w' ∧ Ow 3 bu 8 (exec fuel N l ops mc0).2.us w'))
set_option maxRecDepth 100000 in
set_option maxHeartbeats 4000000 in
theorem Run_any (N : Int) (A : Option Addr) (cap : Nat) (l : List Sm) (C : Option Addr) (cc : Nat) (ops : List Opr) (fuel : Int) (w : World) (hc : l.length ≤ cap) (hcm : cap ≤ 9223372036854775807) (h : SSl w A l) (hcc : ops.length ≤ cc) (hcc2 : cc ≤ 9223372036854775807) (hr : OSl w C ops) :
    Calls Try.prog 41 #[.agg #[.int .i64 N, .slice A l.length cap], .slice C ops.length cc, .int .i64 fuel] w (RetRn w N l ops fuel) := by
  have HV := Lib.hid (fun W (h : SSl W A l) => valid_any N A cap l W hc hcm h)
  have HP := Lib.hid (fun W (h : OSl W C ops) => prog_any C cc ops W hcc hcc2 h)
  have HX := Lib.hid (ext_trans (ext_alloc w (.cells #[.int .i64 N, .slice A l.length cap] 30)) (ext_alloc _ (.cells #[.int .i64 0, .int .i64 0, .int .i64 0, .int .i64 0, .int .i64 0, .slice none 0 0, .slice none 0 0] 76)))
  have HB := Lib.hid ((Bk.new 30 w #[.int .i64 N, .slice A l.length cap]).alloc (.cells #[.int .i64 0, .int .i64 0, .int .i64 0, .int .i64 0, .int .i64 0, .slice none 0 0, .slice none 0 0] 76))
  have hb2 := Bk.new 76 (w.alloc (.cells #[.int .i64 N, .slice A l.length cap] 30)) #[.int .i64 0, .int .i64 0, .int .i64 0, .int .i64 0, .int .i64 0, .slice none 0 0, .slice none 0 0]
  rw [World.size_alloc] at hb2
  have HB2 := Lib.hid hb2
  have HW := Lib.hid (fun W (hW : Below w.heap.size w W) => And.intro (h.ext hW) (hr.ext hW))
  clear h hr hb2
  by_cases hok : GOk N l
  · have hv := vldG_yes hok
    rw [hv] at HV
    by_cases hf0 : fuel < 0
    · have HN := Lib.hid (show ¬ RnOk N l ops fuel ∧ rnErr N l ops fuel = 2 from ⟨fun h => by have := h.2.1; omega, by unfold rnErr; rw [if_pos (fun h => by have := h.2.1; omega)]⟩)
      clear hok hv
      go_enter Try.func41, Try.ntmps41
      go_wp2_with (go_at_call 21; refine (HV.out _ (HW.out _ HX.out).1).mono ?_; rintro e w1 ⟨rfl, hx1⟩; have B1 := bext HX.out hx1 HX.out.size; obtain ⟨f1, f2, f3⟩ := (HB.out.ext hx1).facts; obtain ⟨g1, g2, g3⟩ := (HB2.out.ext hx1).facts)
      have hs := seven (HB2.out.ext hx1) (.int .i64 0) (.int .i64 0) (.int .i64 0) (.int .i64 0) (.int .i64 0) (.slice none 0 0) (.slice none 0 0)
      have hbs := sevenB B1 (show w.heap.size ≤ w.heap.size + 1 by omega) (.int .i64 0) (.int .i64 0) (.int .i64 0) (.int .i64 0) (.int .i64 0) (.slice none 0 0) (.slice none 0 0)
      have p1 := hs.facts.1
      refine bodyPost_ret (v := .tuple #[rep0, .int .i64 2]) (by simp [results, Try.results41, go_sem, p1, rep0]) rfl ?_
      exact ⟨hbs, .inl ⟨HN.out.1, by rw [HN.out.2]⟩⟩
    · by_cases hf1 : 100000 < fuel
      · have HN := Lib.hid (show ¬ RnOk N l ops fuel ∧ rnErr N l ops fuel = 2 from ⟨fun h => by have := h.2.2.1; omega, by unfold rnErr; rw [if_pos (fun h => by have := h.2.2; omega)]⟩)
        clear hok hv
        go_enter Try.func41, Try.ntmps41
        go_wp2_with (go_at_call 21; refine (HV.out _ (HW.out _ HX.out).1).mono ?_; rintro e w1 ⟨rfl, hx1⟩; have B1 := bext HX.out hx1 HX.out.size; obtain ⟨f1, f2, f3⟩ := (HB.out.ext hx1).facts; obtain ⟨g1, g2, g3⟩ := (HB2.out.ext hx1).facts)
        have hs := seven (HB2.out.ext hx1) (.int .i64 0) (.int .i64 0) (.int .i64 0) (.int .i64 0) (.int .i64 0) (.slice none 0 0) (.slice none 0 0)
        have hbs := sevenB B1 (show w.heap.size ≤ w.heap.size + 1 by omega) (.int .i64 0) (.int .i64 0) (.int .i64 0) (.int .i64 0) (.int .i64 0) (.slice none 0 0) (.slice none 0 0)
        have p1 := hs.facts.1
        refine bodyPost_ret (v := .tuple #[rep0, .int .i64 2]) (by simp [results, Try.results41, go_sem, p1, rep0]) rfl ?_
        exact ⟨hbs, .inl ⟨HN.out.1, by rw [HN.out.2]⟩⟩
      · have hfu : 0 ≤ fuel ∧ fuel ≤ 100000 := by omega
        by_cases h4 : 4096 < ops.length
        · have HN := Lib.hid (show ¬ RnOk N l ops fuel ∧ rnErr N l ops fuel = 3 from ⟨fun h => by have := h.2.2.2.1; omega, by unfold rnErr; rw [if_neg (fun h => h ⟨hok, hfu⟩), if_pos h4]⟩)
          rw [if_pos h4] at HP
          clear hok hv hfu
          go_enter Try.func41, Try.ntmps41
          go_wp2_with (first | (go_at_call 21; refine (HV.out _ (HW.out _ HX.out).1).mono ?_; rintro e w1 ⟨rfl, hx1⟩; have B1 := bext HX.out hx1 HX.out.size; obtain ⟨f1, f2, f3⟩ := (HB.out.ext hx1).facts; obtain ⟨g1, g2, g3⟩ := (HB2.out.ext hx1).facts) | (go_at_call 68; refine (HP.out _ (HW.out _ B1).2).mono ?_; rintro e w2 ⟨rfl, hx2⟩; have B2 := bext B1 hx2 B1.size; clear f1 f2 f3 g1 g2 g3; obtain ⟨f1, f2, f3⟩ := ((HB.out.ext hx1).ext hx2).facts; obtain ⟨g1, g2, g3⟩ := ((HB2.out.ext hx1).ext hx2).facts))
          have hs := seven ((HB2.out.ext hx1).ext hx2) (.int .i64 0) (.int .i64 0) (.int .i64 0) (.int .i64 0) (.int .i64 0) (.slice none 0 0) (.slice none 0 0)
          have hbs := sevenB B2 (show w.heap.size ≤ w.heap.size + 1 by omega) (.int .i64 0) (.int .i64 0) (.int .i64 0) (.int .i64 0) (.int .i64 0) (.slice none 0 0) (.slice none 0 0)
          have p1 := hs.facts.1
          refine bodyPost_ret (v := .tuple #[rep0, .int .i64 3]) (by simp [results, Try.results41, go_sem, p1, rep0]) rfl ?_
          exact ⟨hbs, .inl ⟨HN.out.1, by rw [HN.out.2]⟩⟩
        · rw [if_neg h4] at HP
          by_cases hp : PrOk ops
          · rw [if_pos hp] at HP
            have HOK := Lib.hid (show RnOk N l ops fuel from ⟨hok, hfu.1, hfu.2, by omega, hp⟩)
            have l64 := hok.2.2.1
            have hmk := run_zeros l.length (by omega)
            have hmk8 : ∀ W, (Instr.makeSlice 35 (.int .i64 8) (.int .i64 8)).run Try.prog W = .ok (.slice (some ⟨W.heap.size, 0, none⟩) 8 8) (W.alloc (.cells (cellsOf 8 fun _ => 0) 3)) := fun W => run_zeros 8 (by omega) W
            clear hok hv hfu hp
            go_enter Try.func41, Try.ntmps41
            go_upto_region 6 with (first | (go_at_call 21; refine (HV.out _ (HW.out _ HX.out).1).mono ?_; rintro e w1 ⟨rfl, hx1⟩; have B1 := bext HX.out hx1 HX.out.size; obtain ⟨f1, f2, f3⟩ := (HB.out.ext hx1).facts; obtain ⟨g1, g2, g3⟩ := (HB2.out.ext hx1).facts) | (go_at_call 68; refine (HP.out _ (HW.out _ B1).2).mono ?_; rintro e w2 ⟨rfl, hx2⟩; have B2 := bext B1 hx2 B1.size; clear f1 f2 f3 g1 g2 g3; obtain ⟨f1, f2, f3⟩ := ((HB.out.ext hx1).ext hx2).facts; obtain ⟨g1, g2, g3⟩ := ((HB2.out.ext hx1).ext hx2).facts))
            go_cut [9] (fun z wx => ∃ g bs bu, z = .pointer (some ⟨g, 0, none⟩) ∧ Ap w2.heap.size g bs bu ∧ PmS g bs bu l.length N A cap fuel 0 mc0 wx ∧ Below w2.heap.size w2 wx)
            case first =>
              go_region
              all_goals
                go_wp2
                go_meet
              · exact ⟨_, _, _, rfl, ⟨by omega, by omega, by omega, by omega, by omega, by omega⟩, (mk1 w2 l.length N A cap fuel).ext (ext_drew _), alloc3 _ _ _ _⟩
              · exact ⟨_, _, _, rfl, ⟨by omega, by omega, by omega, by omega, by omega, by omega⟩, (mk2 w2 l.length N A cap fuel).ext (ext_drew _), alloc3 _ _ _ _⟩
            case rest =>
              obtain ⟨g, bs, bu, rfl, ha, hp, hb⟩ := hcut
              have HRU := Lib.hid (run_any C cc HOK.out.2.2.2.2 hp ha mc0_ok HOK.out.2.2.1 (HW.out _ B2).1 (HW.out _ B2).2 hb hc hcm HOK.out.2.2.2.1 hcc hcc2)
              have hsz2 : w.heap.size + 1 < w2.heap.size := g3
              have HG2 := Lib.hid ((HB2.out.ext hx1).ext hx2)
              have HBW := Lib.hid (bext B2 hb B2.size)
              have HB3 := Lib.hid (HG2.out.ext hb)
              have HA := Lib.hid ha
              have hne : w.heap.size + 1 ≠ g ∧ w.heap.size + 1 ≠ bs ∧ w.heap.size + 1 ≠ bu := by have h1 := ha.1; have h2 := ha.2.1; have h3 := ha.2.2.1; omega
              have HNE := Lib.hid hne
              have hsz : w.heap.size ≤ w2.heap.size := by omega
              clear hp hb f1 f2 f3 g1 g2 g3 hne hmk hmk8
              obtain ⟨r, hr⟩ : ∃ r, r = exec fuel N l ops mc0 := ⟨_, rfl⟩
              have HR := Lib.hid hr
              rw [← hr] at HRU
              clear hr
              go_upto_region 8 with (go_at_call 69; refine HRU.out.mono ?_; rintro e w4 ⟨rfl, hp4, hb4⟩)
              obtain ⟨f1, f2, f3⟩ := hp4.1.facts
              have hb5 := hb4.bk HB3.out HNE.out.1 HNE.out.2.1 HNE.out.2.2
              obtain ⟨g1, g2, g3⟩ := hb5.facts
              have hbw : Below w.heap.size w w4 := HBW.out.trans (hb4.below (B := w.heap.size) (by have h := HA.out; exact ⟨by have := h.1; omega, by have := h.2.1; omega, by have := h.2.2.1; omega, h.2.2.2⟩) HBW.out.size)
              have hs := Lib.hid (seven hb5 (.int .i64 r.1) (.int .i64 r.2.s) (.int .i64 r.2.a) (.int .i64 r.2.h) (.int .i64 r.2.k) (.slice (some ⟨bs, 0, none⟩) l.length l.length) (.slice (some ⟨bu, 0, none⟩) 8 8))
              have hbs := Lib.hid (sevenB hbw (show w.heap.size ≤ w.heap.size + 1 by omega) (.int .i64 r.1) (.int .i64 r.2.s) (.int .i64 r.2.a) (.int .i64 r.2.h) (.int .i64 r.2.k) (.slice (some ⟨bs, 0, none⟩) l.length l.length) (.slice (some ⟨bu, 0, none⟩) 8 8))
              have ho1 := Lib.hid (sevenO hp4.2.1 (Ne.symm HNE.out.2.1) (.int .i64 r.1) (.int .i64 r.2.s) (.int .i64 r.2.a) (.int .i64 r.2.h) (.int .i64 r.2.k) (.slice (some ⟨bs, 0, none⟩) l.length l.length) (.slice (some ⟨bu, 0, none⟩) 8 8))
              have ho2 := Lib.hid (sevenO hp4.2.2 (Ne.symm HNE.out.2.2) (.int .i64 r.1) (.int .i64 r.2.s) (.int .i64 r.2.a) (.int .i64 r.2.h) (.int .i64 r.2.k) (.slice (some ⟨bs, 0, none⟩) l.length l.length) (.slice (some ⟨bu, 0, none⟩) 8 8))
              clear hp4 hb4 hb5 hbw
              go_wp2
              have p1 := hs.out.facts.1
              refine bodyPost_ret (v := .tuple #[.agg #[.int .i64 r.1, .int .i64 r.2.s, .int .i64 r.2.a, .int .i64 r.2.h, .int .i64 r.2.k, .slice (some ⟨bs, 0, none⟩) l.length l.length, .slice (some ⟨bu, 0, none⟩) 8 8], .int .i64 0]) (by simp [results, Try.results41, go_sem, p1]) rfl ?_
              exact ⟨hbs.out, .inr ⟨HOK.out, bs, bu, by rw [← HR.out], by rw [← HR.out]; exact ho1.out, by rw [← HR.out]; exact ho2.out⟩⟩
          · rw [if_neg hp] at HP
            have HN := Lib.hid (show ¬ RnOk N l ops fuel ∧ rnErr N l ops fuel = 2 from ⟨fun h => hp h.2.2.2.2, by unfold rnErr; rw [if_neg (fun h => h ⟨hok, hfu⟩), if_neg h4]⟩)
            clear hok hv hfu hp
            go_enter Try.func41, Try.ntmps41
            go_wp2_with (first | (go_at_call 21; refine (HV.out _ (HW.out _ HX.out).1).mono ?_; rintro e w1 ⟨rfl, hx1⟩; have B1 := bext HX.out hx1 HX.out.size; obtain ⟨f1, f2, f3⟩ := (HB.out.ext hx1).facts; obtain ⟨g1, g2, g3⟩ := (HB2.out.ext hx1).facts) | (go_at_call 68; refine (HP.out _ (HW.out _ B1).2).mono ?_; rintro e w2 ⟨rfl, hx2⟩; have B2 := bext B1 hx2 B1.size; clear f1 f2 f3 g1 g2 g3; obtain ⟨f1, f2, f3⟩ := ((HB.out.ext hx1).ext hx2).facts; obtain ⟨g1, g2, g3⟩ := ((HB2.out.ext hx1).ext hx2).facts))
            have hs := seven ((HB2.out.ext hx1).ext hx2) (.int .i64 0) (.int .i64 0) (.int .i64 0) (.int .i64 0) (.int .i64 0) (.slice none 0 0) (.slice none 0 0)
            have hbs := sevenB B2 (show w.heap.size ≤ w.heap.size + 1 by omega) (.int .i64 0) (.int .i64 0) (.int .i64 0) (.int .i64 0) (.int .i64 0) (.slice none 0 0) (.slice none 0 0)
            have p1 := hs.facts.1
            refine bodyPost_ret (v := .tuple #[rep0, .int .i64 2]) (by simp [results, Try.results41, go_sem, p1, rep0]) rfl ?_
            exact ⟨hbs, .inl ⟨HN.out.1, by rw [HN.out.2]⟩⟩
  · have hv := vldG_no hok
    rw [hv] at HV
    have HN := Lib.hid (show ¬ RnOk N l ops fuel ∧ rnErr N l ops fuel = 2 from ⟨fun h => hok h.1, by unfold rnErr; rw [if_pos (fun h => hok h.1)]⟩)
    clear hok hv
    go_enter Try.func41, Try.ntmps41
    go_wp2_with (go_at_call 21; refine (HV.out _ (HW.out _ HX.out).1).mono ?_; rintro e w1 ⟨rfl, hx1⟩; have B1 := bext HX.out hx1 HX.out.size; obtain ⟨f1, f2, f3⟩ := (HB.out.ext hx1).facts; obtain ⟨g1, g2, g3⟩ := (HB2.out.ext hx1).facts)
    have hs := seven (HB2.out.ext hx1) (.int .i64 0) (.int .i64 0) (.int .i64 0) (.int .i64 0) (.int .i64 0) (.slice none 0 0) (.slice none 0 0)
    have hbs := sevenB B1 (show w.heap.size ≤ w.heap.size + 1 by omega) (.int .i64 0) (.int .i64 0) (.int .i64 0) (.int .i64 0) (.int .i64 0) (.slice none 0 0) (.slice none 0 0)
    have p1 := hs.facts.1
    refine bodyPost_ret (v := .tuple #[rep0, .int .i64 2]) (by simp [results, Try.results41, go_sem, p1, rep0]) rfl ?_
    exact ⟨hbs, .inl ⟨HN.out.1, by rw [HN.out.2]⟩⟩
end Go.Proofs.Ytbhjhajnhpohlaa
