/- Texts joined: Mp, FlP. Conditions: see each. -/
import Derived.Test.YtmgofdgbenfjmaaDoorWd1
import Derived.Maps.OwnOps
import Derived.WideKeyPair
import Derived.DeepKeys4
namespace Go.Proofs.YtmgofdgbenfjmaaDoor
open Go.RowKit

abbrev Cel := Int × Int
def kv (c : Cel) : Value := .agg #[.int .i64 c.1, .int .i64 c.2]
theorem kv_inj {a b : Cel} (h : kv a = kv b) : a = b := by
  unfold kv at h
  injection h with h
  simp at h
  exact Prod.ext h.1 h.2
theorem laidOut : laidOutB Tryd.prog = true := by kernel_rfl
theorem cell_law : WideMaps.KeyLaw Tryd.prog 71 := deep_law_laid laidOut (m := 2) (by omega) (of_decide_eq_true (by kernel_rfl)) (by kernel_rfl) (by rw [Tryd.underlying71])
def IsC (c : Cel) : Prop := IsI c.1 ∧ IsI c.2
theorem lit_wf {x : Int} (h : IsI x) : (Lit.int .i64 x).wf = true := by
  unfold IsI at h
  have e : wrap64 x = x := by unfold wrap64; omega
  rw [← e]; exact wrap64_wf x
theorem types_size : ∃ m, Tryd.prog.types.size = m + 1 := by
  obtain ⟨m, hm⟩ : ∃ m, Tryd.prog.types.size = m := ⟨_, rfl⟩
  have h : 0 < Tryd.prog.types.size := of_decide_eq_true (by kernel_rfl)
  exact ⟨m - 1, by omega⟩
theorem keyOf_kv {c : Cel} (h : IsC c) : ∃ l, keyOf Tryd.prog 71 (kv c) = some l := by
  obtain ⟨x, y⟩ := c
  have hx := lit_wf h.1
  have hy := lit_wf h.2
  dsimp only at hx hy
  have hkt : Tryd.prog.keyType 71 = true := by kernel_rfl
  obtain ⟨m, hm⟩ := types_size
  have hs : Tryd.prog.cellsOf 71 = 2 := by kernel_rfl
  have h1 : Tryd.prog.cellsOf 3 = 1 := by kernel_rfl
  show ∃ l, keyOf Tryd.prog 71 (.agg #[.int .i64 x, .int .i64 y]) = some l
  unfold keyOf
  simp only [Tryd.underlying71]
  rw [if_pos (by simp [hkt, Value.formed, Tryd.underlying71, hs]), hm]
  unfold Program.keyLits
  simp [Tryd.underlying71, Value.cells, hs, h1, Program.keyLits, Tryd.underlying3, hx, hy]
/-- block b is a set of cells -/
def Mp (b : Nat) (S : List Cel) (w : World) : Prop :=
  (∀ c ∈ S, IsC c) ∧ ∃ es clock, w.heap[b]? = some (.map es clock) ∧ es.toList.map (·.key) = S.map kv ∧ ∀ e ∈ es.toList, e.val = .bool true
theorem Mp.new (w : World) : Mp w.heap.size [] (w.alloc (.map #[] 0)) := ⟨by simp, #[], 0, by simpa using heap_alloc_new w _, rfl, by simp⟩
theorem Mp.lt {b : Nat} {S : List Cel} {w : World} (h : Mp b S w) : b < w.heap.size := by
  obtain ⟨_, es, clock, hb, _⟩ := h
  exact lt_of_block hb
theorem Mp.keep {b : Nat} {S : List Cel} {w w' : World} (h : Mp b S w) (hk : w'.heap[b]? = w.heap[b]?) : Mp b S w' := by
  obtain ⟨h1, es, clock, hb, h2⟩ := h
  exact ⟨h1, es, clock, hk.trans hb, h2⟩
theorem Mp.ext {b : Nat} {S : List Cel} {w w' : World} (h : Mp b S w) (hb : Below w.heap.size w w') : Mp b S w' := h.keep (hb.block b h.lt)
theorem Mp.set {b : Nat} {S : List Cel} {w : World} (h : Mp b S w) {k j : Nat} (hk : b ≠ k) (y : Value) : Mp b S (w.setCell ⟨k, j, none⟩ y) := h.keep (Below.heap_setCell _ _ _ _ hk)
theorem Mp.find {S : List Cel} {w : World} {es : Array MapEntry} (h1 : ∀ c ∈ S, IsC c) (h2 : es.toList.map (·.key) = S.map kv) {c : Cel} (hc : IsC c) :
    ((Instr.findKey 71 (kv c) es.toList).run Tryd.prog w = .ok none w ∧ c ∉ S) ∨ ∃ j e, (Instr.findKey 71 (kv c) es.toList).run Tryd.prog w = .ok (some (j, e.val)) w ∧ e ∈ es.toList ∧ c ∈ S := by
  obtain ⟨l, hl⟩ := keyOf_kv hc
  have hkeys : ∀ e ∈ es.toList, ∃ d ∈ S, e.key = kv d := by
    intro e he
    have : e.key ∈ S.map kv := by rw [← h2]; exact List.mem_map.2 ⟨e, he, rfl⟩
    obtain ⟨d, hd, e1⟩ := List.mem_map.1 this
    exact ⟨d, hd, e1.symm⟩
  rcases cell_law.find w hl es.toList (fun e he => by
    obtain ⟨d, hd, e1⟩ := hkeys e he
    rw [e1]; exact keyOf_kv (h1 d hd)) with ⟨f1, f2⟩ | ⟨j, e, f1, f2, f3⟩
  · refine .inl ⟨f1, fun hm => ?_⟩
    have : kv c ∈ es.toList.map (·.key) := by rw [h2]; exact List.mem_map.2 ⟨c, hm, rfl⟩
    obtain ⟨e, he, e1⟩ := List.mem_map.1 this
    exact f2 e he e1
  · have hm : e ∈ es.toList := List.mem_of_getElem? f2
    obtain ⟨d, hd, e1⟩ := hkeys e hm
    refine .inr ⟨j, e, f1, hm, ?_⟩
    have : d = c := kv_inj (e1.symm.trans f3)
    rw [← this]; exact hd
theorem zero_bool (w : World) : (zeroValue 4).run Tryd.prog w = .ok (.bool false) w := by kernel_rfl
/-- m[c] -/
theorem Mp.look {b : Nat} {S : List Cel} {w : World} (h : Mp b S w) {c : Cel} (hc : IsC c) : (Instr.lookup 73 (.map (some b)) (kv c) false).run Tryd.prog w = .ok (.bool (decide (c ∈ S))) w := by
  obtain ⟨h1, es, clock, hb, h2, h3⟩ := h
  obtain ⟨l, hl⟩ := keyOf_kv hc
  rcases Mp.find (w := w) h1 h2 hc with ⟨f1, f2⟩ | ⟨j, e, f1, f2, f3⟩
  · simp [Instr.lookup, run_underlying Tryd.underlying73, MapKept.run_getObj_map hb, cell_law.check w _ hl, f1, Result.andThen, f2]
  · simp [Instr.lookup, run_underlying Tryd.underlying73, MapKept.run_getObj_map hb, cell_law.check w _ hl, f1, Result.andThen, f3, h3 e f2]
/-- all blocks but one are as they were -/
structure But1 (g : Nat) (w w' : World) : Prop where
  os : w'.os = w.os
  tape : w'.tape = w.tape
  output : w'.output = w.output
  size : w.heap.size ≤ w'.heap.size
  block : ∀ k, k < w.heap.size → k ≠ g → w'.heap[k]? = w.heap[k]?
section
variable {g : Nat} {w w' w'' : World} {B : Nat}
theorem But1.refl (g : Nat) (w : World) : But1 g w w := ⟨rfl, rfl, rfl, Nat.le_refl _, fun _ _ _ => rfl⟩
theorem But1.trans (h : But1 g w w') (k : But1 g w' w'') : But1 g w w'' :=
  ⟨k.os.trans h.os, k.tape.trans h.tape, k.output.trans h.output, Nat.le_trans h.size k.size, fun i hi h1 => (k.block i (Nat.lt_of_lt_of_le hi h.size) h1).trans (h.block i hi h1)⟩
theorem But1.of (h : Below w.heap.size w w') : But1 g w w' := ⟨h.os, h.tape, h.output, h.size, fun k hk _ => h.block k hk⟩
theorem But1.below (h : But1 g w w') (ha : B ≤ g) (hB : B ≤ w.heap.size) : Below B w w' := ⟨h.os, h.tape, h.output, h.size, fun k hk => h.block k (by omega) (by omega)⟩
theorem But1.bk {T : TypeId} {b : Nat} {cs : Array Value} (h : But1 g w w') (hb : Bk T w b cs) (h1 : b ≠ g) : Bk T w' b cs := (h.block b hb.lt h1).trans hb
theorem But1.mp {b : Nat} {S : List Cel} (h : But1 g w w') (hb : Mp b S w) (h1 : b ≠ g) : Mp b S w' := hb.keep (h.block b hb.lt h1)
end
/-- m[c] = true, c new -/
theorem Mp.store {b : Nat} {S : List Cel} {w : World} (h : Mp b S w) {c : Cel} (hc : IsC c) (hn : c ∉ S) : ∃ w', (Instr.mapUpdate 73 (.map (some b)) (kv c) (.bool true)).run Tryd.prog w = .ok () w' ∧ Mp b (S ++ [c]) w' ∧ But1 b w w' := by
  obtain ⟨h1, es, clock, hb, h2, h3⟩ := h
  obtain ⟨l, hl⟩ := keyOf_kv hc
  rcases Mp.find (w := w) h1 h2 hc with ⟨f1, f2⟩ | ⟨j, e, f1, f2, f3⟩
  · refine ⟨ChangeMaps.setBlock w b (.map (es.push ⟨kv c, .bool true, clock⟩) (clock + 1)), ?_, ⟨?_, es.push ⟨kv c, .bool true, clock⟩, clock + 1, ChangeMaps.heap_setBlock_same hb _, ?_, ?_⟩, ⟨rfl, rfl, rfl, by simp [ChangeMaps.setBlock], fun i _ hi => ChangeMaps.heap_setBlock_other hb _ (fun e => hi (by rw [e]))⟩⟩
    · simp [Instr.mapUpdate, run_underlying Tryd.underlying73, MapKept.run_getObj_map hb, cell_law.check w false hl, f1, MapKept.run_setObj_map _ hb, Result.andThen, ChangeMaps.setBlock]
    · intro d hd
      rcases List.mem_append.1 hd with hd | hd
      · exact h1 d hd
      · simp at hd; subst hd; exact hc
    · simp [h2]
    · intro e he
      simp only [Array.toList_push, List.mem_append, List.mem_singleton] at he
      rcases he with he | rfl
      · exact h3 e he
      · rfl
  · exact absurd f3 hn

/-- one neighbour looked at: marked cells, listed cells -/
def flStep (is : Cel → Bool) (st : List Cel × List Cel) (c : Cel) : List Cel × List Cel :=
  if c ∈ st.1 then st else if is c then (st.1 ++ [c], st.2 ++ [c]) else st
/-- flood from the i-th listed cell on, n at most -/
def flGo (next : Cel → List Cel) (is : Cel → Bool) : Nat → Nat → List Cel × List Cel → List Cel × List Cel
  | 0, _, st => st
  | n + 1, i, st => if h : i < st.2.length then flGo next is n (i + 1) ((next st.2[i]).foldl (flStep is) st) else st
/-- the whole flood -/
def fld (next : Cel → List Cel) (is : Cel → Bool) (n : Nat) (S : List Cel) (c : Cel) : List Cel × List Cel := flGo next is n 0 (S ++ [c], [c])
theorem flGo_end (next : Cel → List Cel) (is : Cel → Bool) (n i : Nat) (st : List Cel × List Cel) (h : st.2.length ≤ i) : flGo next is n i st = st := by
  cases n with
  | zero => rfl
  | succ n => unfold flGo; rw [dif_neg (by omega)]
theorem flGo_step (next : Cel → List Cel) (is : Cel → Bool) (n i : Nat) (st : List Cel × List Cel) (h : i < st.2.length) : flGo next is (n + 1) i st = flGo next is n (i + 1) ((next st.2[i]).foldl (flStep is) st) := by
  rw [flGo, dif_pos h]
/-- a list without a double fits into what holds it -/
theorem nodup_len {α : Type} [DecidableEq α] : ∀ (l m : List α), l.Nodup → (∀ x ∈ l, x ∈ m) → l.length ≤ m.length
  | [], m, _, _ => Nat.zero_le _
  | x :: l, m, hn, hs => by
    obtain ⟨h1, h2⟩ := List.nodup_cons.1 hn
    have hx : x ∈ m := hs x (by simp)
    have h3 := nodup_len l (m.erase x) h2 (fun y hy => (List.mem_erase_of_ne (fun e => h1 (by rw [← e]; exact hy))).2 (hs y (by simp [hy])))
    rw [List.length_erase_of_mem hx] at h3
    have : 0 < m.length := List.length_pos_of_mem hx
    simp only [List.length_cons]; omega
/-- what a flood keeps: the list is marked, without a double, and lies in U -/
def FlI (U : List Cel) (st : List Cel × List Cel) : Prop := (∀ c ∈ st.2, c ∈ st.1) ∧ st.2.Nodup ∧ (∀ c ∈ st.2, c ∈ U)
theorem FlI.len {U : List Cel} {st : List Cel × List Cel} (h : FlI U st) : st.2.length ≤ U.length := nodup_len _ _ h.2.1 h.2.2
theorem FlI.step {U : List Cel} {is : Cel → Bool} {st : List Cel × List Cel} (h : FlI U st) (hU : ∀ c, is c = true → c ∈ U) (c : Cel) : FlI U (flStep is st c) := by
  obtain ⟨h1, h2, h3⟩ := h
  unfold flStep
  split
  · exact ⟨h1, h2, h3⟩
  · rename_i hm
    split
    · rename_i hi
      refine ⟨fun x hx => ?_, ?_, fun x hx => ?_⟩
      · show x ∈ st.1 ++ [c]
        have hx : x ∈ st.2 ++ [c] := hx
        rcases List.mem_append.1 hx with hx | hx
        · exact List.mem_append.2 (.inl (h1 x hx))
        · exact List.mem_append.2 (.inr hx)
      · show (st.2 ++ [c]).Nodup
        rw [List.nodup_append]
        exact ⟨h2, by simp, fun a ha b hb e => by simp at hb; subst hb; subst e; exact hm (h1 a ha)⟩
      · have hx : x ∈ st.2 ++ [c] := hx
        rcases List.mem_append.1 hx with hx | hx
        · exact h3 x hx
        · simp at hx; subst hx; exact hU _ hi
    · exact ⟨h1, h2, h3⟩
theorem FlI.steps {U : List Cel} {is : Cel → Bool} (hU : ∀ c, is c = true → c ∈ U) : ∀ (cs : List Cel) {st : List Cel × List Cel}, FlI U st → FlI U (cs.foldl (flStep is) st)
  | [], _, h => h
  | c :: cs, _, h => FlI.steps hU cs (h.step hU c)
theorem FlI.go {U : List Cel} {next : Cel → List Cel} {is : Cel → Bool} (hU : ∀ c, is c = true → c ∈ U) : ∀ (n i : Nat) {st : List Cel × List Cel}, FlI U st → FlI U (flGo next is n i st)
  | 0, _, _, h => h
  | n + 1, i, st, h => by
    unfold flGo
    split
    · exact FlI.go hU n (i + 1) (FlI.steps hU _ h)
    · exact h
theorem flStep_len (is : Cel → Bool) (st : List Cel × List Cel) (c : Cel) : st.2.length ≤ (flStep is st c).2.length := by
  unfold flStep
  split
  · exact Nat.le_refl _
  · split
    · simp
    · exact Nat.le_refl _
theorem flSteps_len (is : Cel → Bool) : ∀ (cs : List Cel) (st : List Cel × List Cel), st.2.length ≤ (cs.foldl (flStep is) st).2.length
  | [], _ => Nat.le_refl _
  | c :: cs, st => Nat.le_trans (flStep_len is st c) (flSteps_len is cs _)
/-- the four neighbours -/
def sidesL (c : Cel) : List Cel := [(c.1, c.2 - 1), (c.1 - 1, c.2), (c.1 + 1, c.2), (c.1, c.2 + 1)]
/-- the eight cells around one -/
def nearL (c : Cel) : List Cel := [(c.1 - 1, c.2 - 1), (c.1, c.2 - 1), (c.1 + 1, c.2 - 1), (c.1 - 1, c.2), (c.1 + 1, c.2), (c.1 - 1, c.2 + 1), (c.1, c.2 + 1), (c.1 + 1, c.2 + 1)]
/-- a box: x0, y0, x1, y1 -/
structure Bx where
  x0 : Int
  y0 : Int
  x1 : Int
  y1 : Int
deriving DecidableEq
def Bx.no : Bx := ⟨48, 48, -1, -1⟩
def Bx.with_ (b : Bx) (c : Cel) : Bx := ⟨min b.x0 c.1, min b.y0 c.2, max b.x1 c.1, max b.y1 c.2⟩
def boxL (l : List Cel) : Bx := l.foldl Bx.with_ Bx.no
/-- how many neighbours of the cells are not cells -/
def edgeL (l : List Cel) : Nat := (l.map fun c => ((sidesL c).filter fun d => decide (d ∉ l)).length).sum
def freeL (l : List Cel) (b : Bx) (c : Cel) : Bool := decide (c ∉ l) && decide (b.x0 - 1 ≤ c.1) && decide (c.1 ≤ b.x1 + 1) && decide (b.y0 - 1 ≤ c.2) && decide (c.2 ≤ b.y1 + 1)
/-- one cell of the box: marked cells, holes -/
def holeStep (l : List Cel) (b : Bx) (n : Nat) (st : List Cel × Nat) (c : Cel) : List Cel × Nat :=
  if c ∈ l ∨ c ∈ st.1 then st else ((fld nearL (freeL l b) n st.1 c).1, st.2 + 1)
/-- the cells of a box, row by row -/
def rowL (x0 : Int) (n : Nat) (y : Int) : List Cel := (List.range n).map fun (i : Nat) => (x0 + (i : Int), y)
def boxCells (b : Bx) : List Cel := (List.range (b.y1 + 1 - b.y0).toNat).flatMap fun (j : Nat) => rowL b.x0 (b.x1 + 1 - b.x0).toNat (b.y0 + (j : Int))
def holesL (l : List Cel) (b : Bx) (n : Nat) : Nat := ((boxCells b).foldl (holeStep l b n) ((fld nearL (freeL l b) n [] (b.x0 - 1, b.y0 - 1)).1, 0)).2
/-- a part: its cells, its edge, its holes, its box -/
structure Prt where
  n : Nat
  e : Nat
  h : Nat
  b : Bx
deriving DecidableEq
def partL (l : List Cel) (n : Nat) : Prt := ⟨l.length, edgeL l, holesL l (boxL l) n, boxL l⟩
/-- one cell of the skin: marked cells, parts -/
def partStep (us : Cel → Bool) (n : Nat) (st : List Cel × List Prt) (c : Cel) : List Cel × List Prt :=
  if us c then (if c ∈ st.1 then st else ((fld sidesL us n st.1 c).1, st.2 ++ [partL (fld sidesL us n st.1 c).2 n])) else st
def partsL (us : Cel → Bool) (w h n : Nat) : List Prt := ((boxCells ⟨0, 0, (w : Int) - 1, (h : Int) - 1⟩).foldl (partStep us n) ([], [])).2
end Go.Proofs.YtmgofdgbenfjmaaDoor
