/- Run's loop walked (and the last steps). Conditions: the machine's blocks. -/
import Derived.Test.YtbhjhajnhpohlaaMsv
import Derived.Test.YtbhjhajnhpohlaaMrc
namespace Go.Proofs.Ytbhjhajnhpohlaa
open Go.RowKit

section
variable {g bs bu : Nat} {N : Int} {A : Option Addr} {cap : Nat} {fuel f : Int} {m : Mc} {l : List Sm} {w0 w : World}
theorem six1 {c : Int} (h1 : 0 ≤ c) (h2 : c ≤ 5) : c = 0 ∨ c = 1 ∨ c = 2 ∨ c = 3 ∨ c = 4 ∨ c = 5 := by omega
theorem pstep_ok {fuel N : Int} {l : List Sm} {o : Opr} {m m' : Mc} (hf : m.s < fuel) (h : pst N l o m = (0, m')) : pstep fuel N l o m = (0, { m' with s := m.s + 1 }) := by
  unfold pstep
  rw [if_neg (by omega), h]
  rfl
theorem pstep_no {fuel N : Int} {l : List Sm} {o : Opr} {m : Mc} (hf : m.s < fuel) {x : Int} (hx : x ≠ 0) (h : pst N l o m = (x, m)) : pstep fuel N l o m = (x, m) := by
  unfold pstep
  rw [if_neg (by omega), h]
  exact if_neg hx
/-- the step, at any op but a repeat -/
theorem step_any (o : Opr) (hok : OpOk o) (h5 : o.c ≠ 5) (h : PmS g bs bu l.length N A cap fuel f m w) (ha : Ap w0.heap.size g bs bu) (hs : 0 ≤ m.s ∧ m.s < 100000 ∨ fuel ≤ m.s) (hh : m.h < 8) (hS : SSl w0 A l) (hw0 : Below w0.heap.size w0 w) (hc : l.length ≤ cap) (hcm : cap ≤ 9223372036854775807) :
    Calls Try.prog 81 #[.pointer (some ⟨g, 0, none⟩), o.val] w fun e w' => PmS g bs bu l.length N A cap fuel f (pstep fuel N l o m).2 w' ∧ But3 g bs bu w w' ∧ StE (pstep fuel N l o m).1 e := by
  obtain ⟨c, og, ob⟩ := o
  obtain ⟨o1, o2, o3, o4, o5⟩ := hok
  dsimp only at o1 o2 o3 o4 o5 h5
  by_cases hf : fuel ≤ m.s
  · have e : pstep fuel N l ⟨c, og, ob⟩ m = (10, m) := by unfold pstep; rw [if_pos hf]
    rw [e]
    exact step_fuel' c og ob h hf
  · have hf : m.s < fuel := by omega
    have hs : 0 ≤ m.s ∧ m.s < 100000 := by omega
    have hb : c ≠ 3 → ob = false := fun h => by cases ob; rfl; exact absurd (o5 rfl) h
    rcases six1 o1 o2 with rfl | rfl | rfl | rfl | rfl | rfl
    · obtain rfl := hb (by decide)
      by_cases h0 : 0 ≤ m.h
      · rw [pstep_no hf (x := 1) (by decide) (by simp [pst, h0])]
        exact step_take_no (m := m) og h ha hs hf h0
      · rw [pstep_ok hf (m' := { m with h := og }) (by simp [pst, h0])]
        exact step_take (m := m) og h ha hs hf (by omega)
    · obtain rfl := hb (by decide)
      by_cases h0 : 0 ≤ m.h
      · rw [pstep_no hf (x := 2) (by decide) (by simp [pst, h0])]
        exact step_go_no (m := m) og h ha hs hf h0
      · by_cases h1 : N ≤ og
        · rw [pstep_no hf (x := 3) (by decide) (by simp [pst, h0, h1])]
          exact step_go_far (m := m) og h ha hs hf (by omega) h1
        · rw [pstep_ok hf (m' := { m with a := og }) (by simp [pst, h0, h1])]
          exact step_go (m := m) og h ha hs hf (by omega) (by omega)
    · obtain rfl := hb (by decide)
      by_cases h0 : m.h < 0
      · rw [pstep_no hf (x := 4) (by decide) (by simp [pst, h0])]
        exact step_lock_no (m := m) og h ha hs hf h0
      · rw [pstep_ok hf (m' := m.use 4) (by simp [pst, h0])]
        exact step_lock (m := m) og h ha hs hf (by omega) hh
    · obtain ⟨q, rfl⟩ := Int.eq_ofNat_of_zero_le o3
      by_cases h0 : m.h < 0
      · rw [pstep_no hf (x := 4) (by decide) (by simp [pst, h0])]
        exact step_sew_no (m := m) q ob h ha hs hf hS hw0 h0
      · by_cases h1 : (l.length : Int) ≤ q
        · rw [pstep_no hf (x := 5) (by decide) (by simp only [pst]; rw [if_neg (by decide), if_neg (by decide), if_neg h0, if_neg (by decide), if_neg (by decide), if_pos h1])]
          exact step_sew_far (m := m) q ob h ha hs hf hS hw0 (by omega) h1
        · by_cases h6 : (⟨(q : Int), ob⟩ : Mv).thr l = m.h
          · by_cases h7 : m.a = (⟨(q : Int), ob⟩ : Mv).from l
            · rw [pstep_ok hf (m' := { m.use (wrap64 (3 * (⟨(q : Int), ob⟩ : Mv).len l)) with sw := upd m.sw q (wrap64 (m.sw q + 1)), a := (⟨(q : Int), ob⟩ : Mv).to_ l }) (by simp only [pst]; rw [if_neg (by decide), if_neg (by decide), if_neg h0, if_neg (by decide), if_neg (by decide), if_neg h1, if_neg (by simpa using h6), if_neg (by simpa using h7)]; rfl)]
              exact step_sew (m := m) q ob h ha hs hf hS hw0 hc hcm (by omega) hh (by omega) h6 h7
            · rw [pstep_no hf (x := 7) (by decide) (by simp only [pst]; rw [if_neg (by decide), if_neg (by decide), if_neg h0, if_neg (by decide), if_neg (by decide), if_neg h1, if_neg (by simpa using h6), if_pos h7])]
              exact step_sew_at (m := m) q ob h ha hs hf hS hw0 hc hcm (by omega) hh (by omega) h6 h7
          · rw [pstep_no hf (x := 6) (by decide) (by simp only [pst]; rw [if_neg (by decide), if_neg (by decide), if_neg h0, if_neg (by decide), if_neg (by decide), if_neg h1, if_pos h6])]
            exact step_sew_thr (m := m) q ob h ha hs hf hS hw0 (by omega) hh (by omega) h6
    · obtain rfl := hb (by decide)
      by_cases h0 : m.h < 0
      · rw [pstep_no hf (x := 4) (by decide) (by simp [pst, h0])]
        exact step_cut_no (m := m) og h ha hs hf h0
      · rw [pstep_ok hf (m' := { m.use 2 with h := -1, k := wrap64 (m.k + 1) }) (by simp [pst, h0])]
        exact step_cut (m := m) og h ha hs hf (by omega) hh
    · exact absurd rfl h5
end

/-- the post of a body that defers, in words that do not hang on the frame: at a panic the fault, the deferred calls and a property of the world -/
def PanQ (d : List Deferred) (R : Int → World → Prop) (Q : Exit → Act → World → Prop) : Exit → Act → World → Prop
  | .panic c, a, w => ∃ f, c = [{ v := .iface 141 (.int .i64 f), recovered := false }] ∧ a.defers = d ∧ R f w
  | e, a, w => Q e a w
theorem PanQ.normal {d : List Deferred} {R : Int → World → Prop} {Q : Exit → Act → World → Prop} {a : Act} {w : World} (h : Q .normal a w) : PanQ d R Q .normal a w := h
/-- what run leaves -/
def RunR (g bs bu n : Nat) (N : Int) (A : Option Addr) (cap : Nat) (fuel : Int) (r : Int × Mc) (w : World) : Ending → World → Prop := fun e w' => e = .returned (.tuple #[]) ∧ PmS g bs bu n N A cap fuel r.1 r.2 w' ∧ But3 g bs bu w w'
/-- the run's own memory -/
def MuS (g bs bu n : Nat) (N : Int) (A : Option Addr) (cap : Nat) (fuel : Int) (w : World) (m : Mc) (wr : World) : Prop := PmS g bs bu n N A cap fuel 0 m wr ∧ But3 g bs bu w wr ∧ Bk 124 wr w.heap.size #[.pointer (some ⟨g, 0, none⟩)]
section
variable {g bs bu : Nat} {N : Int} {A : Option Addr} {cap : Nat} {fuel : Int} {m m' : Mc} {l : List Sm} {ops : List Opr} {w0 w wr w' : World} {n : Nat}
theorem MuS.next (h : MuS g bs bu n N A cap fuel w m wr) (hg : g < w.heap.size ∧ bs < w.heap.size ∧ bu < w.heap.size) (hp : PmS g bs bu n N A cap fuel 0 m' w') (hb : But3 g bs bu wr w') : MuS g bs bu n N A cap fuel w m' w' :=
  ⟨hp, h.2.1.trans hb, hb.bk h.2.2 (by omega) (by omega) (by omega)⟩
theorem MuS.ext (h : MuS g bs bu n N A cap fuel w m wr) (hb : Below wr.heap.size wr w') : MuS g bs bu n N A cap fuel w m w' := ⟨h.1.ext hb, h.2.1.trans (But3.of hb), h.2.2.ext hb⟩
theorem exec_fault {r x : Int × Mc} (h : x = if r.1 = 0 then (0, m) else r) (hr : r.1 ≠ 0) : x = (r.1, r.2) := by rw [h, if_neg hr]
theorem rep_step {o : Opr} {k j : Nat} (hj : j < k) : rep fuel N l o (k - j) m = if (pstep fuel N l o m).1 = 0 then rep fuel N l o (k - (j + 1)) (pstep fuel N l o m).2 else pstep fuel N l o m := by
  rw [show k - j = k - (j + 1) + 1 by omega]; rfl
theorem ste_ok {f : Int} {e : Ending} (h : StE f e) (hf : f = 0) : e = .returned (.tuple #[]) := by rcases h with h | h; exact h.2; exact absurd hf h.1
theorem ste_no {f : Int} {e : Ending} (h : StE f e) (hf : f ≠ 0) : e = .panicked [{ v := .iface 141 (.int .i64 f), recovered := false }] := by rcases h with h | h; exact absurd h.1 hf; exact h.2
set_option maxRecDepth 100000 in
set_option maxHeartbeats 8000000 in
theorem run_any (C : Option Addr) (cc : Nat) (hops : PrOk ops) (h : PmS g bs bu l.length N A cap fuel 0 m w) (ha : Ap w0.heap.size g bs bu) (hm : McOk m) (hfu : fuel ≤ 100000) (hS : SSl w0 A l) (hO : OSl w0 C ops) (hw0 : Below w0.heap.size w0 w) (hc : l.length ≤ cap) (hcm : cap ≤ 9223372036854775807) (h96 : ops.length ≤ 4096) (hcc : ops.length ≤ cc) (hcc2 : cc ≤ 9223372036854775807) :
    Calls Try.prog 69 #[.pointer (some ⟨g, 0, none⟩), .slice C ops.length cc] w (RunR g bs bu l.length N A cap fuel (exec fuel N l ops m) w) := by
  have hmf : ∀ (fn : Fn) (first cap : Array Value) (w : World), (Instr.makeFunc fn first cap).run Try.prog w = .ok (.func fn first cap) w := fun _ _ _ _ => rfl
  have HST := Lib.hid (fun (o : Opr) (hok : OpOk o) (h5 : o.c ≠ 5) (m : Mc) (w : World) (h : PmS g bs bu l.length N A cap fuel 0 m w) (hm : McOk m) (hw0 : Below w0.heap.size w0 w) => step_any o hok h5 h ha (by have := hm.1; omega) hm.2 hS hw0 hc hcm)
  go_enter_defers Try.func69, Try.ntmps69
  refine Code.wp_mono (Q := PanQ [{ target := .fn (.func 80) #[.pointer (some ⟨w.heap.size, 0, none⟩)], args := #[] }] (fun f w' => ∃ m', (exec fuel N l ops m) = (f, m') ∧ MuS g bs bu l.length N A cap fuel w m' w') (bodyPostD Try.prog Try.f69 (RunR g bs bu l.length N A cap fuel (exec fuel N l ops m) w))) ?mono ?_
  case mono =>
    intro e a w' hq
    cases e with
    | panic c =>
      obtain ⟨f, rfl, hd, m', he, hp, hb, hx⟩ := hq
      show Leaves _ _ _ _ a.defers _ _
      rw [hd]
      refine leaves_cons (f := 80) (args := #[.pointer (some ⟨w.heap.size, 0, none⟩)]) (by simp) (by simp [go_sem]) ?_
      refine (catch_panicking f [] w' (hx.cell 0) _ (hp.1.cell 0) (hp.1.frozen 0)).mono ?_
      rintro e u' w2 ⟨rfl, rfl, rfl⟩
      have hp2 := hp.setF ha f
      have hb2 := hb.set (k := g) (j := 0) (.inl rfl) (.int .i64 f)
      have hr : RunR g bs bu l.length N A cap fuel (exec fuel N l ops m) w (.returned (.tuple #[])) (w'.setCell ⟨g, 0, none⟩ (.int .i64 f)) := by
        rw [he]; exact ⟨rfl, hp2, hb2⟩
      exact ⟨.tuple #[], results_none rfl _ _ _, hr⟩
    | _ => exact hq
  have HGW := Lib.hid (show g < w.heap.size ∧ bs < w.heap.size ∧ bu < w.heap.size from ⟨h.1.lt, h.2.1.lt, h.2.2.lt⟩)
  have HS0 := Lib.hid (show MuS g bs bu l.length N A cap fuel w m (w.alloc (.cells #[.pointer (some ⟨g, 0, none⟩)] 124)) from ⟨h.ext (ext_alloc _ _), But3.of (ext_alloc _ _), Bk.new _ _ _⟩)
  have HM0 := Lib.hid hm
  have HBL := Lib.hid (fun wr (hb : But3 g bs bu w wr) => hw0.trans (hb.below ha hw0.size))
  have HOP := Lib.hid hops
  have HO := Lib.hid hO
  clear h hm hops hO hS hw0
  go_wp2
  go_loopg [4] ops.length (fun gg i wr => ∃ (k : Nat) (mm : Mc), i = .int .i64 k ∧ k ≤ ops.length ∧ gg = ops.length - k ∧ MuS g bs bu l.length N A cap fuel w mm wr ∧ McOk mm ∧ exec fuel N l ops m = exec fuel N l (ops.drop k) mm)
  case atStart => exact ⟨0, m, rfl, by omega, by omega, HS0.out, HM0.out, rfl⟩
  case round =>
    obtain ⟨k, mm, rfl, hk, hg, hs, hm, he⟩ := hrel
    have HG := Lib.hid hg
    have HS := Lib.hid hs
    have HM := Lib.hid hm
    have HE := Lib.hid he
    have HB := Lib.hid (HBL.out _ hs.2.1)
    obtain ⟨x1, x2, x3⟩ := hs.2.2.facts
    clear hg hs hm he HS0 HM0
    by_cases hlt : k < ops.length
    · rcases HO.out with hf | ⟨b, off, rfl, hblt, hcl⟩
      · rw [hf] at hlt; simp at hlt
      · have HCL := Lib.hid (show ∀ W, Below w0.heap.size w0 W → b < W.heap.size ∧ ∀ j (h : j < ops.length), W.cell? ⟨b, off + j * 3, none⟩ = some (.int .i64 ops[j].c) ∧ W.cell? ⟨b, off + j * 3 + 1, none⟩ = some (.int .i64 ops[j].g) ∧ W.cell? ⟨b, off + j * 3 + 2, none⟩ = some (.bool ops[j].b) from fun W hW => ⟨Nat.lt_of_lt_of_le hblt hW.size, fun j hj => by
          obtain ⟨c1, c2, c3⟩ := hcl j hj
          exact ⟨(hW.cell (p := ⟨b, _, none⟩) hblt).trans c1, (hW.cell (p := ⟨b, _, none⟩) hblt).trans c2, (hW.cell (p := ⟨b, _, none⟩) hblt).trans c3⟩⟩)
        clear hblt hcl
        obtain ⟨hblt, hcl⟩ := HCL.out _ HB.out
        obtain ⟨c1, c2, c3⟩ := hcl k hlt
        have hok := HOP.out _ (List.getElem_mem hlt)
        have HC1 := Lib.hid (fun (W : World) (hW : Below w0.heap.size w0 W) => (HCL.out W hW).2 k hlt)
        have HX1 := Lib.hid (fun (o : Opr) (ho : o = ops[k]) (h5 : o.c ≠ 5) => HE.out.trans (exec_one (fuel := fuel) (N := N) (l := l) (m := mm) hlt ho h5))
        obtain ⟨oo, hoo⟩ : ∃ oo, oo = ops[k] := ⟨_, rfl⟩
        rw [← hoo] at c1 c2 c3 hok HC1
        have HX1 := Lib.hid (HX1.out oo hoo)
        have HOO := Lib.hid hoo
        have HOK := Lib.hid hok
        clear hcl hoo hok
        by_cases h5 : oo.c = 5
        · have HXF := Lib.hid (fun hf => HE.out.trans (exec_fuel (fuel := fuel) (N := N) (l := l) (m := mm) hlt HOO.out h5 hf))
          have HXL := Lib.hid (fun hk hf => HE.out.trans (exec_last (fuel := fuel) (N := N) (l := l) (m := mm) hk HOO.out h5 hf))
          have HXT := Lib.hid (fun hk hf h2 => HE.out.trans (exec_two (fuel := fuel) (N := N) (l := l) (m := mm) hk HOO.out h5 hf h2))
          have HXR := Lib.hid (fun hk hf o2 (ho2 : o2 = _) h2 => HE.out.trans (exec_rep (fuel := fuel) (N := N) (l := l) (m := mm) hk HOO.out h5 hf (o2 := o2) ho2 h2))
          obtain ⟨oc, og, ob⟩ := oo
          dsimp only at c1 c2 c3 h5
          subst h5
          clear HX1
          obtain ⟨f1, f2, f3⟩ := HS.out.1.1.facts
          by_cases hf : fuel ≤ mm.s
          · have HX := Lib.hid (HXF.out hf)
            clear HXF HXL HXT HXR
            go_upto_region 7 with (fail)
            refine wp_region_held_drew (S := (fun wx => wx.cell? ⟨w.heap.size, 0, none⟩ = some (.pointer (some ⟨g, 0, none⟩)) ∧ wx.cell? ⟨g, 1, none⟩ = some (.int .i64 mm.s) ∧ wx.cell? ⟨g, 9, none⟩ = some (.int .i64 fuel))) (by kernel_rfl) (⟨x1 0, f1 1, f1 9⟩) (fun hHeld => ?_)
            refine wpAnyH_take (i := 0) (v := ?v40) rfl (by kernel_rfl) (by kernel_rfl) (by kernel_rfl) (fun _ _ _ h => h) (Or.inl ⟨by rfl, ?hy40⟩) hHeld ?rst40
            case hy40 => (intro wx hSw; (try dsimp only at hSw); go_simp; try (with_reducible rfl))
            try simp only [List.getElem_toArray, List.getElem_cons_zero, Act.put, List.setIfInBounds_toArray, List.set_cons_zero, List.set_cons_succ]
            refine wpAnyH_take (i := 1) (v := ?v41) rfl (by kernel_rfl) (by kernel_rfl) (by kernel_rfl) (fun _ _ _ h => h) (Or.inl ⟨by rfl, ?hy41⟩) hHeld ?rst41
            case hy41 => (intro wx hSw; (try dsimp only at hSw); go_simp; try (with_reducible rfl))
            try simp only [List.getElem_toArray, List.getElem_cons_zero, List.getElem_cons_succ, Act.put, List.setIfInBounds_toArray, List.set_cons_zero, List.set_cons_succ]
            refine wpAnyH_take (i := 2) (v := ?v42) rfl (by kernel_rfl) (by kernel_rfl) (by kernel_rfl) (fun _ _ _ h => h) (Or.inl ⟨by rfl, ?hy42⟩) hHeld ?rst42
            case hy42 => (intro wx hSw; (try dsimp only at hSw); go_simp; try (with_reducible rfl))
            try simp only [List.getElem_toArray, List.getElem_cons_zero, List.getElem_cons_succ, Act.put, List.setIfInBounds_toArray, List.set_cons_zero, List.set_cons_succ]
            refine wpAnyH_take (i := 3) (v := ?v43) rfl (by kernel_rfl) (by kernel_rfl) (by kernel_rfl) (fun _ _ _ h => h) (Or.inl ⟨by rfl, ?hy43⟩) hHeld ?rst43
            case hy43 => (intro wx hSw; (try dsimp only at hSw); go_simp; try (with_reducible rfl))
            try simp only [List.getElem_toArray, List.getElem_cons_zero, List.getElem_cons_succ, Act.put, List.setIfInBounds_toArray, List.set_cons_zero, List.set_cons_succ]
            refine wpAnyH_take (i := 4) (v := ?v44) rfl (by kernel_rfl) (by kernel_rfl) (by kernel_rfl) (fun _ _ _ h => h) (Or.inl ⟨by rfl, ?hy44⟩) hHeld ?rst44
            case hy44 => (intro wx hSw; (try dsimp only at hSw); go_simp; try (with_reducible rfl))
            try simp only [List.getElem_toArray, List.getElem_cons_zero, List.getElem_cons_succ, Act.put, List.setIfInBounds_toArray, List.set_cons_zero, List.set_cons_succ]
            refine wpAnyH_take (i := 5) (v := ?v45) rfl (by kernel_rfl) (by kernel_rfl) (by kernel_rfl) (fun _ _ _ h => h) (Or.inl ⟨by rfl, ?hy45⟩) hHeld ?rst45
            case hy45 => (intro wx hSw; (try dsimp only at hSw); go_simp; try (with_reducible rfl))
            try simp only [List.getElem_toArray, List.getElem_cons_zero, List.getElem_cons_succ, Act.put, List.setIfInBounds_toArray, List.set_cons_zero, List.set_cons_succ]
            refine wpAnyH_take (i := 6) (v := ?v46) rfl (by kernel_rfl) (by kernel_rfl) (by kernel_rfl) (fun _ _ _ h => h) (Or.inl ⟨by rfl, ?hy46⟩) hHeld ?rst46
            case hy46 => (intro wx hSw; (try dsimp only at hSw); go_simp; try (with_reducible rfl))
            try simp only [List.getElem_toArray, List.getElem_cons_zero, List.getElem_cons_succ, Act.put, List.setIfInBounds_toArray, List.set_cons_zero, List.set_cons_succ]
            refine wpAnyH_take (i := 7) (v := ?v47) rfl (by kernel_rfl) (by kernel_rfl) (by kernel_rfl) (fun _ _ _ h => h) (Or.inl ⟨by rfl, ?hy47⟩) hHeld ?rst47
            case hy47 => (intro wx hSw; (try dsimp only at hSw); go_simp; try (with_reducible rfl))
            try simp only [List.getElem_toArray, List.getElem_cons_zero, List.getElem_cons_succ, Act.put, List.setIfInBounds_toArray, List.set_cons_zero, List.set_cons_succ]
            refine wpAnyH_take (i := 8) (v := ?v48) rfl (by kernel_rfl) (by kernel_rfl) (by kernel_rfl) (fun _ _ _ h => h) (Or.inl ⟨by rfl, ?hy48⟩) hHeld ?rst48
            case hy48 => (intro wx hSw; (try dsimp only at hSw); go_simp; try (with_reducible rfl))
            try simp only [List.getElem_toArray, List.getElem_cons_zero, List.getElem_cons_succ, Act.put, List.setIfInBounds_toArray, List.set_cons_zero, List.set_cons_succ]
            refine wpAnyH_take (i := 9) (v := ?v49) rfl (by kernel_rfl) (by kernel_rfl) (by kernel_rfl) (fun _ _ _ h => h) (Or.inl ⟨by rfl, ?hy49⟩) hHeld ?rst49
            case hy49 => (intro wx hSw; (try dsimp only at hSw); go_simp; try (with_reducible rfl))
            try simp only [List.getElem_toArray, List.getElem_cons_zero, List.getElem_cons_succ, Act.put, List.setIfInBounds_toArray, List.set_cons_zero, List.set_cons_succ]
            refine wpAnyH_ready (rs := [10]) (by kernel_rfl) (by simp) ?_
            refine AllReadyH.cons rfl (fun K hK => ?_) AllReadyH.nil
            go_simp
            (go_at_call 82; refine (need_no' (decide_eq_false (Int.not_lt.2 hf)) 10 _).mono ?_; rintro e w2 ⟨rfl, hw2⟩; subst w2; exact ⟨_, rfl, rfl, _, HX.out, HS.out.ext (ext_drew _)⟩)
          · have hf : mm.s < fuel := by omega
            have HF := Lib.hid hf
            clear HXF
            go_upto_region 7 with (fail)
            go_quiet (exact Calls.quiet_of_same (need_yes 10 _))
            have hz := ext_drewN wr nq
            have HS7 := Lib.hid (HS.out.ext hz)
            have HB7 := Lib.hid (bext HB.out hz HB.out.size)
            obtain ⟨X, hX⟩ : ∃ X, X = wr.drewN nq := ⟨_, rfl⟩
            rw [← hX] at HS7 HB7 ⊢
            clear hX hz f1 f2 f3 x1 x2 x3 c1 c2 c3 hblt HS HB
            obtain ⟨f1, f2, f3⟩ := HS7.out.1.1.facts
            obtain ⟨x1, x2, x3⟩ := HS7.out.2.2.facts
            obtain ⟨hblt, hcl⟩ := HCL.out _ HB7.out
            obtain ⟨c1, c2, c3⟩ := HC1.out _ HB7.out
            dsimp only at c1 c2 c3
            by_cases hk1 : k + 1 = ops.length
            · have HX := Lib.hid (HXL.out hk1 HF.out)
              have hk2 : ¬ (k : Int) + 1 < (ops.length : Int) := by omega
              clear HXL HXT HXR hcl
              go_wp2_with (go_at_call 82; refine (need_no _ _).mono ?_; rintro e w2 ⟨rfl, hw2⟩; subst w2; exact ⟨_, rfl, rfl, _, HX.out, HS7.out⟩)
            · have hk1 : k + 1 < ops.length := by omega
              have hk2 : (k : Int) + 1 < (ops.length : Int) := by omega
              obtain ⟨d1, d2, d3⟩ := hcl (k + 1) hk1
              have HD1 := Lib.hid (fun (W : World) (hW : Below w0.heap.size w0 W) => (HCL.out W hW).2 (k + 1) hk1)
              have hok2 := HOP.out _ (List.getElem_mem hk1)
              have HXT := Lib.hid (HXT.out hk1 HF.out)
              have HXR := Lib.hid (HXR.out hk1 HF.out)
              obtain ⟨o2, ho2⟩ : ∃ o2, o2 = ops[k + 1] := ⟨_, rfl⟩
              rw [← ho2] at d1 d2 d3 hok2 HD1 HXT
              have HXR := Lib.hid (HXR.out o2 ho2)
              have HOK2 := Lib.hid hok2
              clear hcl ho2 hok2 HXL
              by_cases h52 : o2.c = 5
              · have HX := Lib.hid (HXT.out h52)
                obtain ⟨oc2, og2, ob2⟩ := o2
                dsimp only at d1 d2 d3 h52
                subst h52
                clear HXT HXR
                go_wp2_with (first | (go_at_call_of 82 (Value.int .i64 8); refine (need_yes _ _).mono ?_; rintro e w2 ⟨rfl, hw2⟩; subst w2) | (go_at_call_of 82 (Value.int .i64 9); refine (need_no _ _).mono ?_; rintro e w2 ⟨rfl, hw2⟩; subst w2; exact ⟨_, rfl, rfl, _, HX.out, HS7.out⟩))
              · have HX := Lib.hid (HXR.out h52)
                have HSC := Lib.hid (HST.out o2 HOK2.out h52)
                have hq0 := HOK.out.2.2.1
                dsimp only at hq0
                obtain ⟨q, rfl⟩ := Int.eq_ofNat_of_zero_le hq0
                have hog : (⟨5, (q : Int), ob⟩ : Opr).g.toNat = q := Int.toNat_natCast q
                rw [hog] at HX
                have hq99 : q ≤ 99 := by have := HOK.out.2.2.2.1; have e : most 5 = 99 := rfl; dsimp only at this; omega
                obtain ⟨oc2, og2, ob2⟩ := o2
                dsimp only at d1 d2 d3 h52
                have hmm1 : McOk { mm with s := mm.s + 1 } := ⟨by have := HM.out.1; show 0 ≤ mm.s + 1; omega, HM.out.2⟩
                have HM1 := Lib.hid hmm1
                have HS8 := Lib.hid (HS7.out.next HGW.out (HS7.out.1.setS ha (mm.s + 1)) ((But3.refl g bs bu X).set (k := g) (j := 1) (.inl rfl) _))
                have hs0 := HM.out.1
                clear HXT HXR hmm1 hog hq0
                obtain ⟨m1, hm1⟩ : ∃ m1, m1 = { mm with s := mm.s + 1 } := ⟨_, rfl⟩
                rw [← hm1] at HX HM1 HS8
                clear hm1
                obtain ⟨Z, hZ⟩ : ∃ Z, Z = X.setCell ⟨g, 1, none⟩ (.int .i64 (mm.s + 1)) := ⟨_, rfl⟩
                have HZ := Lib.hid hZ
                have HZC := Lib.hid (show Z.cell? ⟨b, off + k * 3 + 1, none⟩ = some (.int .i64 (q : Int)) from by
                  have h := HC1.out Z (by rw [hZ]; exact HBL.out _ HS8.out.2.1)
                  exact h.2.1)
                have HZB := Lib.hid (show b < Z.heap.size from (HCL.out Z (by rw [hZ]; exact HBL.out _ HS8.out.2.1)).1)
                have hs1 : mm.s < 100000 := by omega
                have h53 : (oc2 != 5) = true := by simpa using h52
                clear hZ h52
                go_upto_region 11 with (go_at_call 82; refine (need_yes _ _).mono ?_; rintro e w2 ⟨rfl, hw2⟩; subst w2)
                rw [← HZ.out] at HS8 ⊢
                have zc := HZC.out
                have zb := HZB.out
                clear HZ f1 f2 f3 x1 x2 x3 c1 c2 c3 d1 d2 d3 hblt HS7 HB7
                go_wp2
                go_loopg [63] q (fun gg j wr => ∃ (jn : Nat) (m2 : Mc), j = .int .i64 jn ∧ jn ≤ q ∧ gg = q - jn ∧ MuS g bs bu l.length N A cap fuel w m2 wr ∧ McOk m2 ∧ rep fuel N l ⟨oc2, og2, ob2⟩ q m1 = rep fuel N l ⟨oc2, og2, ob2⟩ (q - jn) m2)
                case atStart => exact ⟨0, m1, rfl, by omega, by omega, HS8.out, HM1.out, rfl⟩
                case round =>
                  obtain ⟨jn, m2, rfl, hj, hg2, hs2, hm2, he2⟩ := hrel
                  have HG2 := Lib.hid hg2
                  have HS9 := Lib.hid hs2
                  have HM2 := Lib.hid hm2
                  have HE2 := Lib.hid he2
                  have HB9 := Lib.hid (HBL.out _ hs2.2.1)
                  obtain ⟨x1, x2, x3⟩ := hs2.2.2.facts
                  clear hg2 hs2 hm2 he2 HS8 HM1 zc zb HZC HZB
                  obtain ⟨hblt, -⟩ := HCL.out _ HB9.out
                  by_cases hjq : jn < q
                  · obtain ⟨d1, d2, d3⟩ := HD1.out _ HB9.out
                    try dsimp only at d1 d2 d3
                    have HSC2 := Lib.hid (HSC.out m2)
                    have HRP := Lib.hid (HE2.out.trans (rep_step hjq))
                    by_cases hr : (pstep fuel N l ⟨oc2, og2, ob2⟩ m2).1 = 0
                    · have HRX := Lib.hid (HRP.out.trans (if_pos hr))
                      have HR := Lib.hid hr
                      clear hr HRP
                      go_upto_region 13 with (fail)
                      have hk3 : (0 : Int) ≤ (k : Int) + 1 := by omega
                      have hk4 : ((k : Int) + 1).toNat = k + 1 := by omega
                      have hk5 : IntKind.i64.wrap ((k : Int) + 1) = (k : Int) + 1 := IntWalk.i64_in _ ⟨by omega, by omega⟩
                      refine wp_region_held_drew (S := (fun wx => wx.cell? ⟨w.heap.size, 0, none⟩ = some (.pointer (some ⟨g, 0, none⟩)) ∧ wx.cell? ⟨b, off + (k + 1) * 3, none⟩ = some (.int .i64 oc2) ∧ wx.cell? ⟨b, off + (k + 1) * 3 + 1, none⟩ = some (.int .i64 og2) ∧ wx.cell? ⟨b, off + (k + 1) * 3 + 2, none⟩ = some (.bool ob2))) (by kernel_rfl) (⟨x1 0, d1, d2, d3⟩) (fun hHeld => ?_)
                      refine wpAnyH_take (i := 0) (v := ?v60) rfl (by kernel_rfl) (by kernel_rfl) (by kernel_rfl) (fun _ _ _ h => h) (Or.inl ⟨by rfl, ?hy60⟩) hHeld ?rst60
                      case hy60 => (intro wx hSw; (try dsimp only at hSw); go_simp; try (with_reducible rfl))
                      try simp only [List.getElem_toArray, List.getElem_cons_zero, Act.put, List.setIfInBounds_toArray, List.set_cons_zero, List.set_cons_succ]
                      refine wpAnyH_take (i := 1) (v := ?v61) rfl (by kernel_rfl) (by kernel_rfl) (by kernel_rfl) (fun _ _ _ h => h) (Or.inl ⟨by rfl, ?hy61⟩) hHeld ?rst61
                      case hy61 => (intro wx hSw; (try dsimp only at hSw); go_simp; try (with_reducible rfl))
                      try simp only [List.getElem_toArray, List.getElem_cons_zero, List.getElem_cons_succ, Act.put, List.setIfInBounds_toArray, List.set_cons_zero, List.set_cons_succ]
                      refine wpAnyH_take (i := 2) (v := ?v62) rfl (by kernel_rfl) (by kernel_rfl) (by kernel_rfl) (fun _ _ _ h => h) (Or.inl ⟨by rfl, ?hy62⟩) hHeld ?rst62
                      case hy62 => (intro wx hSw; (try dsimp only at hSw); go_simp; try (with_reducible rfl))
                      try simp only [List.getElem_toArray, List.getElem_cons_zero, List.getElem_cons_succ, Act.put, List.setIfInBounds_toArray, List.set_cons_zero, List.set_cons_succ]
                      refine wpAnyH_take (i := 3) (v := ?v63) rfl (by kernel_rfl) (by kernel_rfl) (by kernel_rfl) (fun _ _ _ h => h) (Or.inl ⟨by rfl, ?hy63⟩) hHeld ?rst63
                      case hy63 => (intro wx hSw; (try dsimp only at hSw); go_simp; try (with_reducible rfl))
                      try simp only [List.getElem_toArray, List.getElem_cons_zero, List.getElem_cons_succ, Act.put, List.setIfInBounds_toArray, List.set_cons_zero, List.set_cons_succ]
                      refine wpAnyH_take (i := 4) (v := ?v64) rfl (by kernel_rfl) (by kernel_rfl) (by kernel_rfl) (fun _ _ _ h => h) (Or.inl ⟨by rfl, ?hy64⟩) hHeld ?rst64
                      case hy64 => (intro wx hSw; (try dsimp only at hSw); go_simp; try (with_reducible rfl))
                      try simp only [List.getElem_toArray, List.getElem_cons_zero, List.getElem_cons_succ, Act.put, List.setIfInBounds_toArray, List.set_cons_zero, List.set_cons_succ]
                      refine wpAnyH_take (i := 5) (v := ?v65) rfl (by kernel_rfl) (by kernel_rfl) (by kernel_rfl) (fun _ _ _ h => h) (Or.inl ⟨by rfl, ?hy65⟩) hHeld ?rst65
                      case hy65 => (intro wx hSw; (try dsimp only at hSw); go_simp; try (with_reducible rfl))
                      try simp only [List.getElem_toArray, List.getElem_cons_zero, List.getElem_cons_succ, Act.put, List.setIfInBounds_toArray, List.set_cons_zero, List.set_cons_succ]
                      refine wpAnyH_ready (rs := [6]) (by kernel_rfl) (by simp) ?_
                      refine AllReadyH.cons rfl (fun K hK => ?_) AllReadyH.nil
                      go_simp
                      (go_at_call 81; refine (HSC2.out _ (HS9.out.1.ext (ext_drew _)) HM2.out (bext HB9.out (ext_drew _) HB9.out.size)).mono ?_; rintro e w2 ⟨hp2, hb2, he2⟩; obtain rfl := ste_ok he2 HR.out; have HS6 := Lib.hid (HS9.out.next HGW.out hp2 ((But3.of (ext_drew _)).trans hb2)); have HM6 := Lib.hid (pstep_keep (fuel := fuel) (N := N) (l := l) HM2.out HOK2.out))
                      refine hK.out _ _ (⟨HS6.out.2.2.cell 0, HD1.out _ (HBL.out _ HS6.out.2.1)⟩) (fun hHeld => ?_)
                      clear hK K
                      try simp only [List.getElem_toArray, List.getElem_cons_zero, List.getElem_cons_succ, Act.put, List.setIfInBounds_toArray, List.set_cons_zero, List.set_cons_succ]
                      refine wpAnyH_done (by kernel_rfl) ?_ _
                      go_wp2
                      go_roundg (q - (jn + 1))
                      case measure => have := HG2.out; omega
                      case rel => exact ⟨jn + 1, _, by go_num, by omega, rfl, HS6.out, HM6.out, HRX.out⟩
                    · have HRX := Lib.hid (HRP.out.trans (if_neg hr))
                      have HFX := Lib.hid (show exec fuel N l ops m = ((pstep fuel N l ⟨oc2, og2, ob2⟩ m2).1, (pstep fuel N l ⟨oc2, og2, ob2⟩ m2).2) from by
                        rw [HX.out, HRX.out, if_neg hr])
                      have HR := Lib.hid hr
                      clear hr HRP
                      go_upto_region 13 with (fail)
                      have hk3 : (0 : Int) ≤ (k : Int) + 1 := by omega
                      have hk4 : ((k : Int) + 1).toNat = k + 1 := by omega
                      have hk5 : IntKind.i64.wrap ((k : Int) + 1) = (k : Int) + 1 := IntWalk.i64_in _ ⟨by omega, by omega⟩
                      refine wp_region_held_drew (S := (fun wx => wx.cell? ⟨w.heap.size, 0, none⟩ = some (.pointer (some ⟨g, 0, none⟩)) ∧ wx.cell? ⟨b, off + (k + 1) * 3, none⟩ = some (.int .i64 oc2) ∧ wx.cell? ⟨b, off + (k + 1) * 3 + 1, none⟩ = some (.int .i64 og2) ∧ wx.cell? ⟨b, off + (k + 1) * 3 + 2, none⟩ = some (.bool ob2))) (by kernel_rfl) (⟨x1 0, d1, d2, d3⟩) (fun hHeld => ?_)
                      refine wpAnyH_take (i := 0) (v := ?v80) rfl (by kernel_rfl) (by kernel_rfl) (by kernel_rfl) (fun _ _ _ h => h) (Or.inl ⟨by rfl, ?hy80⟩) hHeld ?rst80
                      case hy80 => (intro wx hSw; (try dsimp only at hSw); go_simp; try (with_reducible rfl))
                      try simp only [List.getElem_toArray, List.getElem_cons_zero, Act.put, List.setIfInBounds_toArray, List.set_cons_zero, List.set_cons_succ]
                      refine wpAnyH_take (i := 1) (v := ?v81) rfl (by kernel_rfl) (by kernel_rfl) (by kernel_rfl) (fun _ _ _ h => h) (Or.inl ⟨by rfl, ?hy81⟩) hHeld ?rst81
                      case hy81 => (intro wx hSw; (try dsimp only at hSw); go_simp; try (with_reducible rfl))
                      try simp only [List.getElem_toArray, List.getElem_cons_zero, List.getElem_cons_succ, Act.put, List.setIfInBounds_toArray, List.set_cons_zero, List.set_cons_succ]
                      refine wpAnyH_take (i := 2) (v := ?v82) rfl (by kernel_rfl) (by kernel_rfl) (by kernel_rfl) (fun _ _ _ h => h) (Or.inl ⟨by rfl, ?hy82⟩) hHeld ?rst82
                      case hy82 => (intro wx hSw; (try dsimp only at hSw); go_simp; try (with_reducible rfl))
                      try simp only [List.getElem_toArray, List.getElem_cons_zero, List.getElem_cons_succ, Act.put, List.setIfInBounds_toArray, List.set_cons_zero, List.set_cons_succ]
                      refine wpAnyH_take (i := 3) (v := ?v83) rfl (by kernel_rfl) (by kernel_rfl) (by kernel_rfl) (fun _ _ _ h => h) (Or.inl ⟨by rfl, ?hy83⟩) hHeld ?rst83
                      case hy83 => (intro wx hSw; (try dsimp only at hSw); go_simp; try (with_reducible rfl))
                      try simp only [List.getElem_toArray, List.getElem_cons_zero, List.getElem_cons_succ, Act.put, List.setIfInBounds_toArray, List.set_cons_zero, List.set_cons_succ]
                      refine wpAnyH_take (i := 4) (v := ?v84) rfl (by kernel_rfl) (by kernel_rfl) (by kernel_rfl) (fun _ _ _ h => h) (Or.inl ⟨by rfl, ?hy84⟩) hHeld ?rst84
                      case hy84 => (intro wx hSw; (try dsimp only at hSw); go_simp; try (with_reducible rfl))
                      try simp only [List.getElem_toArray, List.getElem_cons_zero, List.getElem_cons_succ, Act.put, List.setIfInBounds_toArray, List.set_cons_zero, List.set_cons_succ]
                      refine wpAnyH_take (i := 5) (v := ?v85) rfl (by kernel_rfl) (by kernel_rfl) (by kernel_rfl) (fun _ _ _ h => h) (Or.inl ⟨by rfl, ?hy85⟩) hHeld ?rst85
                      case hy85 => (intro wx hSw; (try dsimp only at hSw); go_simp; try (with_reducible rfl))
                      try simp only [List.getElem_toArray, List.getElem_cons_zero, List.getElem_cons_succ, Act.put, List.setIfInBounds_toArray, List.set_cons_zero, List.set_cons_succ]
                      refine wpAnyH_ready (rs := [6]) (by kernel_rfl) (by simp) ?_
                      refine AllReadyH.cons rfl (fun K hK => ?_) AllReadyH.nil
                      go_simp
                      (go_at_call 81; refine (HSC2.out _ (HS9.out.1.ext (ext_drew _)) HM2.out (bext HB9.out (ext_drew _) HB9.out.size)).mono ?_; rintro e w2 ⟨hp2, hb2, he2⟩; obtain rfl := ste_no he2 HR.out; exact ⟨_, rfl, rfl, _, HFX.out, HS9.out.next HGW.out hp2 ((But3.of (ext_drew _)).trans hb2)⟩)
                  · obtain rfl : jn = q := by omega
                    have HFX := Lib.hid (show exec fuel N l ops m = exec fuel N l (ops.drop (k + 1 + 1)) m2 from by
                      have h := HE2.out
                      rw [Nat.sub_self] at h
                      rw [HX.out, h]
                      exact if_pos rfl)
                    go_wp2
                    go_roundg (ops.length - (k + 1 + 1))
                    case measure => have := HG.out; omega
                    case rel => exact ⟨k + 1 + 1, m2, by go_num, by omega, rfl, HS9.out, HM2.out, HFX.out⟩
        · have HX1 := Lib.hid (HX1.out h5)
          have HSC := Lib.hid (HST.out oo HOK.out h5 mm)
          obtain ⟨oc, og, ob⟩ := oo
          dsimp only at c1 c2 c3 h5
          by_cases hr : (pstep fuel N l ⟨oc, og, ob⟩ mm).1 = 0
          · have HNX := Lib.hid (HX1.out.trans (if_pos hr))
            have HR := Lib.hid hr
            clear hr HX1
            go_upto_region 6 with (fail)
            refine wp_region_held_drew (S := (fun wx => wx.cell? ⟨w.heap.size, 0, none⟩ = some (.pointer (some ⟨g, 0, none⟩)) ∧ wx.cell? ⟨b, off + k * 3, none⟩ = some (.int .i64 oc) ∧ wx.cell? ⟨b, off + k * 3 + 1, none⟩ = some (.int .i64 og) ∧ wx.cell? ⟨b, off + k * 3 + 2, none⟩ = some (.bool ob))) (by kernel_rfl) (⟨x1 0, c1, c2, c3⟩) (fun hHeld => ?_)
            refine wpAnyH_take (i := 0) (v := ?v1) rfl (by kernel_rfl) (by kernel_rfl) (by kernel_rfl) (fun _ _ _ h => h) (Or.inl ⟨by rfl, ?hy1⟩) hHeld ?rst1
            case hy1 => (intro wx hSw; (try dsimp only at hSw); go_simp; try (with_reducible rfl))
            try simp only [List.getElem_toArray, List.getElem_cons_zero, Act.put, List.setIfInBounds_toArray, List.set_cons_zero, List.set_cons_succ]
            refine wpAnyH_take (i := 1) (v := ?v2) rfl (by kernel_rfl) (by kernel_rfl) (by kernel_rfl) (fun _ _ _ h => h) (Or.inl ⟨by rfl, ?hy2⟩) hHeld ?rst2
            case hy2 => (intro wx hSw; (try dsimp only at hSw); go_simp; try (with_reducible rfl))
            try simp only [List.getElem_toArray, List.getElem_cons_zero, List.getElem_cons_succ, Act.put, List.setIfInBounds_toArray, List.set_cons_zero, List.set_cons_succ]
            refine wpAnyH_take (i := 2) (v := ?v3) rfl (by kernel_rfl) (by kernel_rfl) (by kernel_rfl) (fun _ _ _ h => h) (Or.inl ⟨by rfl, ?hy3⟩) hHeld ?rst3
            case hy3 => (intro wx hSw; (try dsimp only at hSw); go_simp; try (with_reducible rfl))
            try simp only [List.getElem_toArray, List.getElem_cons_zero, List.getElem_cons_succ, Act.put, List.setIfInBounds_toArray, List.set_cons_zero, List.set_cons_succ]
            refine wpAnyH_take (i := 3) (v := ?v4) rfl (by kernel_rfl) (by kernel_rfl) (by kernel_rfl) (fun _ _ _ h => h) (Or.inl ⟨by rfl, ?hy4⟩) hHeld ?rst4
            case hy4 => (intro wx hSw; (try dsimp only at hSw); go_simp; try (with_reducible rfl))
            try simp only [List.getElem_toArray, List.getElem_cons_zero, List.getElem_cons_succ, Act.put, List.setIfInBounds_toArray, List.set_cons_zero, List.set_cons_succ]
            refine wpAnyH_take (i := 4) (v := ?v5) rfl (by kernel_rfl) (by kernel_rfl) (by kernel_rfl) (fun _ _ _ h => h) (Or.inl ⟨by rfl, ?hy5⟩) hHeld ?rst5
            case hy5 => (intro wx hSw; (try dsimp only at hSw); go_simp; try (with_reducible rfl))
            try simp only [List.getElem_toArray, List.getElem_cons_zero, List.getElem_cons_succ, Act.put, List.setIfInBounds_toArray, List.set_cons_zero, List.set_cons_succ]
            refine wpAnyH_ready (rs := [5]) (by kernel_rfl) (by simp) ?_
            refine AllReadyH.cons rfl (fun K hK => ?_) AllReadyH.nil
            go_simp
            (go_at_call 81; refine (HSC.out _ (HS.out.1.ext (ext_drew _)) HM.out (bext HB.out (ext_drew _) HB.out.size)).mono ?_; rintro e w2 ⟨hp2, hb2, he2⟩; obtain rfl := ste_ok he2 HR.out; have HS6 := Lib.hid (HS.out.next HGW.out hp2 ((But3.of (ext_drew _)).trans hb2)); have HM6 := Lib.hid (pstep_keep (fuel := fuel) (N := N) (l := l) HM.out HOK.out))
            refine hK.out _ _ (⟨HS6.out.2.2.cell 0, HC1.out _ (HBL.out _ HS6.out.2.1)⟩) (fun hHeld => ?_)
            clear hK K
            try simp only [List.getElem_toArray, List.getElem_cons_zero, List.getElem_cons_succ, Act.put, List.setIfInBounds_toArray, List.set_cons_zero, List.set_cons_succ]
            refine wpAnyH_done (by kernel_rfl) ?_ _
            go_wp2
            go_roundg (ops.length - (k + 1))
            case measure => have := HG.out; omega
            case rel => exact ⟨k + 1, _, by go_num, by omega, rfl, HS6.out, HM6.out, HNX.out⟩
          · have HNX := Lib.hid (HX1.out.trans (if_neg hr))
            have HR := Lib.hid hr
            clear hr HX1
            go_upto_region 6 with (fail)
            refine wp_region_held_drew (S := (fun wx => wx.cell? ⟨w.heap.size, 0, none⟩ = some (.pointer (some ⟨g, 0, none⟩)) ∧ wx.cell? ⟨b, off + k * 3, none⟩ = some (.int .i64 oc) ∧ wx.cell? ⟨b, off + k * 3 + 1, none⟩ = some (.int .i64 og) ∧ wx.cell? ⟨b, off + k * 3 + 2, none⟩ = some (.bool ob))) (by kernel_rfl) (⟨x1 0, c1, c2, c3⟩) (fun hHeld => ?_)
            refine wpAnyH_take (i := 0) (v := ?v20) rfl (by kernel_rfl) (by kernel_rfl) (by kernel_rfl) (fun _ _ _ h => h) (Or.inl ⟨by rfl, ?hy20⟩) hHeld ?rst20
            case hy20 => (intro wx hSw; (try dsimp only at hSw); go_simp; try (with_reducible rfl))
            try simp only [List.getElem_toArray, List.getElem_cons_zero, Act.put, List.setIfInBounds_toArray, List.set_cons_zero, List.set_cons_succ]
            refine wpAnyH_take (i := 1) (v := ?v21) rfl (by kernel_rfl) (by kernel_rfl) (by kernel_rfl) (fun _ _ _ h => h) (Or.inl ⟨by rfl, ?hy21⟩) hHeld ?rst21
            case hy21 => (intro wx hSw; (try dsimp only at hSw); go_simp; try (with_reducible rfl))
            try simp only [List.getElem_toArray, List.getElem_cons_zero, List.getElem_cons_succ, Act.put, List.setIfInBounds_toArray, List.set_cons_zero, List.set_cons_succ]
            refine wpAnyH_take (i := 2) (v := ?v22) rfl (by kernel_rfl) (by kernel_rfl) (by kernel_rfl) (fun _ _ _ h => h) (Or.inl ⟨by rfl, ?hy22⟩) hHeld ?rst22
            case hy22 => (intro wx hSw; (try dsimp only at hSw); go_simp; try (with_reducible rfl))
            try simp only [List.getElem_toArray, List.getElem_cons_zero, List.getElem_cons_succ, Act.put, List.setIfInBounds_toArray, List.set_cons_zero, List.set_cons_succ]
            refine wpAnyH_take (i := 3) (v := ?v23) rfl (by kernel_rfl) (by kernel_rfl) (by kernel_rfl) (fun _ _ _ h => h) (Or.inl ⟨by rfl, ?hy23⟩) hHeld ?rst23
            case hy23 => (intro wx hSw; (try dsimp only at hSw); go_simp; try (with_reducible rfl))
            try simp only [List.getElem_toArray, List.getElem_cons_zero, List.getElem_cons_succ, Act.put, List.setIfInBounds_toArray, List.set_cons_zero, List.set_cons_succ]
            refine wpAnyH_take (i := 4) (v := ?v24) rfl (by kernel_rfl) (by kernel_rfl) (by kernel_rfl) (fun _ _ _ h => h) (Or.inl ⟨by rfl, ?hy24⟩) hHeld ?rst24
            case hy24 => (intro wx hSw; (try dsimp only at hSw); go_simp; try (with_reducible rfl))
            try simp only [List.getElem_toArray, List.getElem_cons_zero, List.getElem_cons_succ, Act.put, List.setIfInBounds_toArray, List.set_cons_zero, List.set_cons_succ]
            refine wpAnyH_ready (rs := [5]) (by kernel_rfl) (by simp) ?_
            refine AllReadyH.cons rfl (fun K hK => ?_) AllReadyH.nil
            go_simp
            (go_at_call 81; refine (HSC.out _ (HS.out.1.ext (ext_drew _)) HM.out (bext HB.out (ext_drew _) HB.out.size)).mono ?_; rintro e w2 ⟨hp2, hb2, he2⟩; obtain rfl := ste_no he2 HR.out; exact ⟨_, rfl, rfl, _, HNX.out, HS.out.next HGW.out hp2 ((But3.of (ext_drew _)).trans hb2)⟩)
    · obtain rfl : k = ops.length := by omega
      have HNX := Lib.hid (HE.out.trans (exec_end (Nat.le_refl _)))
      go_wp2
      refine PanQ.normal ?_
      refine leaves_cons (f := 80) (args := #[.pointer (some ⟨w.heap.size, 0, none⟩)]) (by simp) (by simp [go_sem]) ?_
      refine (catch_idle _).mono ?_
      rintro e u' w2 ⟨rfl, rfl, rfl⟩
      have hr : RunR g bs bu l.length N (A) cap fuel (exec fuel N l ops m) w (.returned (.tuple #[])) w2 := by
        rw [HNX.out]; exact ⟨rfl, HS.out.1, HS.out.2.1⟩
      exact ⟨.tuple #[], results_none rfl _ _ _, hr⟩
end
end Go.Proofs.Ytbhjhajnhpohlaa
