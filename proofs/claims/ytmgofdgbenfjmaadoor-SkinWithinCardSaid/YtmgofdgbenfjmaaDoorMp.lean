/- Maps that are sets of cells: look-up, store. Conditions: the cells' ints are ints. -/
import Derived.Test.YtmgofdgbenfjmaaDoorWd
import Derived.Maps.OwnOps
import Derived.WideKeyPair
import Derived.DeepKeys4
namespace Go.Proofs.YtmgofdgbenfjmaaDoor
open Go.RowKit

abbrev Cel := Int × Int
def kv (c : Cel) : Value := .agg #[.int .i64 c.1, .int .i64 c.2]
theorem kv_inj {a b : Cel} (h : kv a = kv b) : a = b := by
  unfold kv at h
  injection h with h
  simp at h
  exact Prod.ext h.1 h.2
theorem laidOut : laidOutB Tryd.prog = true := by kernel_rfl
theorem cell_law : WideMaps.KeyLaw Tryd.prog 71 := deep_law_laid laidOut (m := 2) (by omega) (of_decide_eq_true (by kernel_rfl)) (by kernel_rfl) (by rw [Tryd.underlying71])
def IsC (c : Cel) : Prop := IsI c.1 ∧ IsI c.2
theorem lit_wf {x : Int} (h : IsI x) : (Lit.int .i64 x).wf = true := by
  unfold IsI at h
  have e : wrap64 x = x := by unfold wrap64; omega
  rw [← e]; exact wrap64_wf x
theorem types_size : ∃ m, Tryd.prog.types.size = m + 1 := by
  obtain ⟨m, hm⟩ : ∃ m, Tryd.prog.types.size = m := ⟨_, rfl⟩
  have h : 0 < Tryd.prog.types.size := of_decide_eq_true (by kernel_rfl)
  exact ⟨m - 1, by omega⟩
theorem keyOf_kv {c : Cel} (h : IsC c) : ∃ l, keyOf Tryd.prog 71 (kv c) = some l := by
  obtain ⟨x, y⟩ := c
  have hx := lit_wf h.1
  have hy := lit_wf h.2
  dsimp only at hx hy
  have hkt : Tryd.prog.keyType 71 = true := by kernel_rfl
  obtain ⟨m, hm⟩ := types_size
  have hs : Tryd.prog.cellsOf 71 = 2 := by kernel_rfl
  have h1 : Tryd.prog.cellsOf 3 = 1 := by kernel_rfl
  show ∃ l, keyOf Tryd.prog 71 (.agg #[.int .i64 x, .int .i64 y]) = some l
  unfold keyOf
  simp only [Tryd.underlying71]
  rw [if_pos (by simp [hkt, Value.formed, Tryd.underlying71, hs]), hm]
  unfold Program.keyLits
  simp [Tryd.underlying71, Value.cells, hs, h1, Program.keyLits, Tryd.underlying3, hx, hy]
/-- block b is a set of cells -/
def Mp (b : Nat) (S : List Cel) (w : World) : Prop :=
  (∀ c ∈ S, IsC c) ∧ ∃ es clock, w.heap[b]? = some (.map es clock) ∧ es.toList.map (·.key) = S.map kv ∧ ∀ e ∈ es.toList, e.val = .bool true
theorem Mp.new (w : World) : Mp w.heap.size [] (w.alloc (.map #[] 0)) := ⟨by simp, #[], 0, by simpa using heap_alloc_new w _, rfl, by simp⟩
theorem Mp.lt {b : Nat} {S : List Cel} {w : World} (h : Mp b S w) : b < w.heap.size := by
  obtain ⟨_, es, clock, hb, _⟩ := h
  exact lt_of_block hb
theorem Mp.keep {b : Nat} {S : List Cel} {w w' : World} (h : Mp b S w) (hk : w'.heap[b]? = w.heap[b]?) : Mp b S w' := by
  obtain ⟨h1, es, clock, hb, h2⟩ := h
  exact ⟨h1, es, clock, hk.trans hb, h2⟩
theorem Mp.ext {b : Nat} {S : List Cel} {w w' : World} (h : Mp b S w) (hb : Below w.heap.size w w') : Mp b S w' := h.keep (hb.block b h.lt)
theorem Mp.set {b : Nat} {S : List Cel} {w : World} (h : Mp b S w) {k j : Nat} (hk : b ≠ k) (y : Value) : Mp b S (w.setCell ⟨k, j, none⟩ y) := h.keep (Below.heap_setCell _ _ _ _ hk)
theorem Mp.find {S : List Cel} {w : World} {es : Array MapEntry} (h1 : ∀ c ∈ S, IsC c) (h2 : es.toList.map (·.key) = S.map kv) {c : Cel} (hc : IsC c) :
    ((Instr.findKey 71 (kv c) es.toList).run Tryd.prog w = .ok none w ∧ c ∉ S) ∨ ∃ j e, (Instr.findKey 71 (kv c) es.toList).run Tryd.prog w = .ok (some (j, e.val)) w ∧ e ∈ es.toList ∧ c ∈ S := by
  obtain ⟨l, hl⟩ := keyOf_kv hc
  have hkeys : ∀ e ∈ es.toList, ∃ d ∈ S, e.key = kv d := by
    intro e he
    have : e.key ∈ S.map kv := by rw [← h2]; exact List.mem_map.2 ⟨e, he, rfl⟩
    obtain ⟨d, hd, e1⟩ := List.mem_map.1 this
    exact ⟨d, hd, e1.symm⟩
  rcases cell_law.find w hl es.toList (fun e he => by
    obtain ⟨d, hd, e1⟩ := hkeys e he
    rw [e1]; exact keyOf_kv (h1 d hd)) with ⟨f1, f2⟩ | ⟨j, e, f1, f2, f3⟩
  · refine .inl ⟨f1, fun hm => ?_⟩
    have : kv c ∈ es.toList.map (·.key) := by rw [h2]; exact List.mem_map.2 ⟨c, hm, rfl⟩
    obtain ⟨e, he, e1⟩ := List.mem_map.1 this
    exact f2 e he e1
  · have hm : e ∈ es.toList := List.mem_of_getElem? f2
    obtain ⟨d, hd, e1⟩ := hkeys e hm
    refine .inr ⟨j, e, f1, hm, ?_⟩
    have : d = c := kv_inj (e1.symm.trans f3)
    rw [← this]; exact hd
theorem zero_bool (w : World) : (zeroValue 4).run Tryd.prog w = .ok (.bool false) w := by kernel_rfl
/-- m[c] -/
theorem Mp.look {b : Nat} {S : List Cel} {w : World} (h : Mp b S w) {c : Cel} (hc : IsC c) : (Instr.lookup 73 (.map (some b)) (kv c) false).run Tryd.prog w = .ok (.bool (decide (c ∈ S))) w := by
  obtain ⟨h1, es, clock, hb, h2, h3⟩ := h
  obtain ⟨l, hl⟩ := keyOf_kv hc
  rcases Mp.find (w := w) h1 h2 hc with ⟨f1, f2⟩ | ⟨j, e, f1, f2, f3⟩
  · simp [Instr.lookup, run_underlying Tryd.underlying73, MapKept.run_getObj_map hb, cell_law.check w _ hl, f1, Result.andThen, f2]
  · simp [Instr.lookup, run_underlying Tryd.underlying73, MapKept.run_getObj_map hb, cell_law.check w _ hl, f1, Result.andThen, f3, h3 e f2]
/-- all blocks but one are as they were -/
structure But1 (g : Nat) (w w' : World) : Prop where
  os : w'.os = w.os
  tape : w'.tape = w.tape
  output : w'.output = w.output
  size : w.heap.size ≤ w'.heap.size
  block : ∀ k, k < w.heap.size → k ≠ g → w'.heap[k]? = w.heap[k]?
section
variable {g : Nat} {w w' w'' : World} {B : Nat}
theorem But1.refl (g : Nat) (w : World) : But1 g w w := ⟨rfl, rfl, rfl, Nat.le_refl _, fun _ _ _ => rfl⟩
theorem But1.trans (h : But1 g w w') (k : But1 g w' w'') : But1 g w w'' :=
  ⟨k.os.trans h.os, k.tape.trans h.tape, k.output.trans h.output, Nat.le_trans h.size k.size, fun i hi h1 => (k.block i (Nat.lt_of_lt_of_le hi h.size) h1).trans (h.block i hi h1)⟩
theorem But1.of (h : Below w.heap.size w w') : But1 g w w' := ⟨h.os, h.tape, h.output, h.size, fun k hk _ => h.block k hk⟩
theorem But1.below (h : But1 g w w') (ha : B ≤ g) (hB : B ≤ w.heap.size) : Below B w w' := ⟨h.os, h.tape, h.output, h.size, fun k hk => h.block k (by omega) (by omega)⟩
theorem But1.bk {T : TypeId} {b : Nat} {cs : Array Value} (h : But1 g w w') (hb : Bk T w b cs) (h1 : b ≠ g) : Bk T w' b cs := (h.block b hb.lt h1).trans hb
theorem But1.mp {b : Nat} {S : List Cel} (h : But1 g w w') (hb : Mp b S w) (h1 : b ≠ g) : Mp b S w' := hb.keep (h.block b hb.lt h1)
end
/-- m[c] = true, c new -/
theorem Mp.store {b : Nat} {S : List Cel} {w : World} (h : Mp b S w) {c : Cel} (hc : IsC c) (hn : c ∉ S) : ∃ w', (Instr.mapUpdate 73 (.map (some b)) (kv c) (.bool true)).run Tryd.prog w = .ok () w' ∧ Mp b (S ++ [c]) w' ∧ But1 b w w' := by
  obtain ⟨h1, es, clock, hb, h2, h3⟩ := h
  obtain ⟨l, hl⟩ := keyOf_kv hc
  rcases Mp.find (w := w) h1 h2 hc with ⟨f1, f2⟩ | ⟨j, e, f1, f2, f3⟩
  · refine ⟨ChangeMaps.setBlock w b (.map (es.push ⟨kv c, .bool true, clock⟩) (clock + 1)), ?_, ⟨?_, es.push ⟨kv c, .bool true, clock⟩, clock + 1, ChangeMaps.heap_setBlock_same hb _, ?_, ?_⟩, ⟨rfl, rfl, rfl, by simp [ChangeMaps.setBlock], fun i _ hi => ChangeMaps.heap_setBlock_other hb _ (fun e => hi (by rw [e]))⟩⟩
    · simp [Instr.mapUpdate, run_underlying Tryd.underlying73, MapKept.run_getObj_map hb, cell_law.check w false hl, f1, MapKept.run_setObj_map _ hb, Result.andThen, ChangeMaps.setBlock]
    · intro d hd
      rcases List.mem_append.1 hd with hd | hd
      · exact h1 d hd
      · simp at hd; subst hd; exact hc
    · simp [h2]
    · intro e he
      simp only [Array.toList_push, List.mem_append, List.mem_singleton] at he
      rcases he with he | rfl
      · exact h3 e he
      · rfl
  · exact absurd f3 hn
end Go.Proofs.YtmgofdgbenfjmaaDoor
