/- Words for the trail's memory: rows of rows of ints, the stack, what was popped. No conditions. -/
import Derived.Test.YtbhjhajnhpohlaaTrP
import Derived.Test.YtbhjhajnhpohlaaRv
import Derived.Test.YtbhjhajnhpohlaaRgT
import Derived.Deep.AppendLies
namespace Go.Proofs.Ytbhjhajnhpohlaa
open Go.RowKit

/-- n values in a row -/
def cellsU (n : Nat) (d : Nat → Value) : Array Value := ((List.range n).map d).toArray
theorem cellsU_get {n : Nat} {d : Nat → Value} {i : Nat} (h : i < n) : (cellsU n d)[i]? = some (d i) := by simp [cellsU, h]
def updV (d : Nat → Value) (i : Nat) (v : Value) : Nat → Value := fun k => if k = i then v else d k
def updL {α : Type} (d : Nat → α) (i : Nat) (v : α) : Nat → α := fun k => if k = i then v else d k
theorem updL_at {α : Type} (d : Nat → α) (i : Nat) (v : α) : updL d i v i = v := by simp [updL]
theorem updL_ne {α : Type} (d : Nat → α) {i k : Nat} (v : α) (h : k ≠ i) : updL d i v k = d k := by simp [updL, h]
theorem cellsU_set {n : Nat} {d : Nat → Value} {i : Nat} {v : Value} : (cellsU n d).setIfInBounds i v = cellsU n (updL d i v) := by
  unfold cellsU
  rw [List.setIfInBounds_toArray]
  congr 1
  apply List.ext_getElem
  · simp
  · intro k h1 h2
    rw [List.getElem_set]
    simp only [List.getElem_map, List.getElem_range]
    unfold updL
    by_cases hk : i = k
    · subst hk; simp
    · rw [if_neg hk, if_neg (fun h => hk h.symm)]
theorem nil_cellsU (n : Nat) : madeCells #[Value.slice none 0 0] n = cellsU n fun _ => .slice none 0 0 := by
  apply Array.ext'
  rw [toList_madeCells_one]
  simp [cellsU]
  apply List.ext_getElem <;> simp
theorem run_nilsU (n : Nat) (h : n ≤ 1000000) (W : World) : (Instr.makeSlice 107 (.int .i64 (n : Int)) (.int .i64 (n : Int))).run Try.prog W = .ok (.slice (some ⟨W.heap.size, 0, none⟩) n n) (W.alloc (.cells (cellsU n fun _ => .slice none 0 0) 35)) := by
  obtain ⟨i, hi, hz, hsz, hby⟩ := info_parts (show (Try.prog.info? 35).map (fun i => (i.zero, i.size, i.bytes)) = some (some (.slice none 0 0), 1, 24) from by kernel_rfl)
  have hr := run_make (P := Try.prog) W 107 35 i (.slice none 0 0) Try.underlying107 hi hz .i64 .i64 n n (by omega) (by omega) (by rw [hby]; omega) (by omega)
  rw [hr, hsz, Nat.mul_one, Int.toNat_natCast]
  rw [show (Value.slice none 0 0).cells = #[Value.slice none 0 0] from rfl, nil_cellsU]

/-- sixteen rows of ints that grow, each in memory of its own -/
def AtG (base ab : Nat) (w : World) (vs : Nat → Value) (ls : Nat → List Int) : Prop :=
  Bk 35 w ab (cellsU 16 vs) ∧ (∀ j, j < 16 → Vi base w (vs j) (ls j)) ∧ (∀ i j, i < 16 → j < 16 → i ≠ j → ∀ k, (vs i).ownBlock = some k → (vs j).ownBlock ≠ some k)
section
variable {base ab : Nat} {w w' : World} {vs : Nat → Value} {ls : Nat → List Int}
theorem AtG.ext (h : AtG base ab w vs ls) (hb : Below w.heap.size w w') : AtG base ab w' vs ls :=
  ⟨h.1.ext hb, fun j hj => own_ext (h.2.1 j hj) hb, h.2.2⟩
theorem AtG.ne (h : AtG base ab w vs ls) {j : Nat} (hj : j < 16) : some ab ≠ (vs j).ownBlock := own_ne (h.2.1 j hj) h.1 (by decide)
/-- a row has grown, the others stand; then it is stored -/
theorem AtG.grow (h : AtG base ab w vs ls) {j : Nat} (hj : j < 16) {v : Value} {l : List Int} (hv : Vi base w' v l) (hk : ∀ k, k < w.heap.size → some k ≠ (vs j).ownBlock → w'.heap[k]? = w.heap[k]?) (hw : (vs j).ownBlock = v.ownBlock ∨ ∀ k, v.ownBlock = some k → w.heap.size ≤ k) :
    AtG base ab (w'.setCell ⟨ab, j, none⟩ v) (updL vs j v) (updL ls j l) := by
  have hbk : Bk 35 w' ab (cellsU 16 vs) := (hk ab h.1.lt (h.ne hj)).trans h.1
  have hset := hbk.set j v
  rw [cellsU_set] at hset
  have hnew : ∀ i, i < 16 → i ≠ j → ∀ k, (vs i).ownBlock = some k → v.ownBlock ≠ some k := by
    intro i hi hij k hk1 hk2
    rcases hw with hw | hw
    · exact h.2.2 i j hi hj hij k hk1 (hw.trans hk2)
    · have := hw k hk2
      have := (own_lt (h.2.1 i hi) k hk1).2
      omega
  refine ⟨hset, fun i hi => ?_, fun i i2 hi hi2 hne k hk1 hk2 => ?_⟩
  · by_cases hij : i = j
    · subst hij
      rw [updL_at, updL_at]
      exact own_set hv (own_ne hv hbk (by decide))
    · rw [updL_ne _ _ hij, updL_ne _ _ hij]
      have h1 := h.2.1 i hi
      refine own_set (own_keep h1 fun k hk1 => hk k (own_lt h1 k hk1).2 (fun e => h.2.2 i j hi hj hij k hk1 e.symm)) (own_ne h1 h.1 (by decide))
  · unfold updL at hk1 hk2
    by_cases h1 : i = j
    · subst h1
      rw [if_pos rfl] at hk1
      rw [if_neg (fun e => hne e.symm)] at hk2
      exact hnew i2 hi2 (fun e => hne e.symm) k hk2 hk1
    · rw [if_neg h1] at hk1
      by_cases h2 : i2 = j
      · subst h2
        rw [if_pos rfl] at hk2
        exact hnew i hi h1 k hk1 hk2
      · rw [if_neg h2] at hk2
        exact h.2.2 i i2 hi hi2 hne k hk1 hk2
end
theorem AtG.start (base : Nat) (w : World) : AtG base w.heap.size (w.alloc (.cells (cellsU 16 fun _ => .slice none 0 0) 35)) (fun _ => .slice none 0 0) (fun _ => []) :=
  ⟨Bk.new _ w _, fun _ _ => Vi.nil _ _, fun _ _ _ _ _ k hk => by cases hk⟩

/-- a slice of ints in a block of ints -/
def ISt (w : World) (A : Option Addr) (l : List Int) : Prop :=
  l = [] ∨ ∃ b off cs, A = some ⟨b, off, none⟩ ∧ w.heap[b]? = some (.cells cs 3 (0, 0)) ∧ ∀ j (h : j < l.length), cs[off + j]? = some (.int .i64 l[j])
/-- the blocks of ints stand -/
def KeepI (w w' : World) : Prop := ∀ (b : Nat) (cs : Array Value), w.heap[b]? = some (Obj.cells cs 3 (0, 0)) → w'.heap[b]? = some (Obj.cells cs 3 (0, 0))
theorem ISt.keep {w w' : World} {A : Option Addr} {l : List Int} (h : ISt w A l) (hk : KeepI w w') : ISt w' A l := by
  rcases h with h | ⟨b, off, cs, hA, hb, hc⟩
  · exact .inl h
  · exact .inr ⟨b, off, cs, hA, hk b cs hb, hc⟩
theorem KeepI.ext {w w' : World} (hb : Below w.heap.size w w') : KeepI w w' := fun b _ h => (hb.block b (lt_of_block h)).trans h
theorem KeepI.trans {a b c : World} (h : KeepI a b) (k : KeepI b c) : KeepI a c := fun x cs hx => k x cs (h x cs hx)
theorem KeepI.set {w : World} {g : Nat} {cs : Array Value} {T : TypeId} (h : Bk T w g cs) (hT : T ≠ 3) (i : Nat) (v : Value) : KeepI w (w.setCell ⟨g, i, none⟩ v) := fun b cs' hb => by
  refine (Below.heap_setCell _ _ _ _ (fun e => ?_)).trans hb
  have e' : b = g := e
  subst e'
  unfold Bk at h
  rw [h] at hb
  injection hb with hb
  injection hb with _ e2
  exact hT e2
theorem KeepI.push {w w' : World} {base n sz : Nat} {T : TypeId} {v : Value} {xs : List Value} (h : w.ownsRow base T sz v n xs) (hT : T ≠ 3) (hk : ∀ k, k < w.heap.size → some k ≠ v.ownBlock → w'.heap[k]? = w.heap[k]?) : KeepI w w' := fun b cs hb =>
  (hk b (lt_of_block hb) (own_ne h (show Bk 3 w b cs from hb) hT)).trans hb
theorem ISt.cell {w : World} {b off : Nat} {l : List Int} (h : ISt w (some ⟨b, off, none⟩) l) {j : Nat} (hj : j < l.length) : w.cell? ⟨b, off + j, none⟩ = some (.int .i64 l[j]) := by
  rcases h with h | ⟨b', off', cs, hA, hb, hc⟩
  · rw [h] at hj; simp at hj
  · injection hA with hA
    injection hA with e1 e2
    subst e1 e2
    rw [cell_of_row w b (off + j) cs _ (0, 0) hb]
    exact hc j hj
theorem ISt.addr {w : World} {A : Option Addr} {l : List Int} (h : ISt w A l) (hl : l ≠ []) : ∃ b off, A = some ⟨b, off, none⟩ ∧ b < w.heap.size := by
  rcases h with h | ⟨b', off', cs, hA, hb, hc⟩
  · exact absurd h hl
  · exact ⟨b', off', hA, lt_of_block hb⟩
theorem ISt.tail {w : World} {b off : Nat} {x : Int} {l : List Int} (h : ISt w (some ⟨b, off, none⟩) (x :: l)) : ISt w (some ⟨b, off + 1, none⟩) l := by
  rcases h with h | ⟨b', off', cs, hA, hb, hc⟩
  · cases h
  · injection hA with hA
    injection hA with e1 e2
    subst e1 e2
    refine .inr ⟨b, off + 1, cs, rfl, hb, fun j hj => ?_⟩
    have := hc (j + 1) (by simp; omega)
    rw [show off + 1 + j = off + (j + 1) by omega]
    simpa using this
theorem Vi.ist {base : Nat} {w : World} {v : Value} {l : List Int} (h : Vi base w v l) : ∃ A cap, v = .slice A l.length cap ∧ l.length ≤ cap ∧ cap ≤ maxLen ∧ ISt w A l := by
  obtain ⟨hl, h⟩ := h
  rcases h with ⟨rfl, h0⟩ | ⟨g, cap, cur, rfl, hg, hh, hn, hm, hcur, hx⟩
  · have : l = [] := List.eq_nil_of_length_eq_zero h0
    subst this
    exact ⟨none, 0, rfl, by simp, by simp [maxLen], .inl rfl⟩
  · refine ⟨some ⟨g, 0, none⟩, cap, rfl, by omega, hm, .inr ⟨g, 0, cur, rfl, hh, fun j hj => ?_⟩⟩
    rw [Nat.zero_add]
    have : (ints l)[j]? = some (.int .i64 l[j]) := by simp [ints, hj]
    rw [← hx, List.getElem?_take] at this
    split at this
    · simpa using this
    · cases this
/-- sixteen slices of ints that are read -/
def AtR (ab : Nat) (w : World) (vs : Nat → Value) (ls : Nat → List Int) : Prop :=
  Bk 35 w ab (cellsU 16 vs) ∧ ∀ j, j < 16 → ∃ A cap, vs j = .slice A (ls j).length cap ∧ (ls j).length ≤ cap ∧ cap ≤ maxLen ∧ ISt w A (ls j)
theorem AtG.read {base ab : Nat} {w : World} {vs : Nat → Value} {ls : Nat → List Int} (h : AtG base ab w vs ls) : AtR ab w vs ls := ⟨h.1, fun j hj => (h.2.1 j hj).ist⟩
section
variable {ab : Nat} {w w' : World} {vs : Nat → Value} {ls : Nat → List Int}
theorem AtR.keep (h : AtR ab w vs ls) (hk : KeepI w w') (hb : w'.heap[ab]? = w.heap[ab]?) : AtR ab w' vs ls :=
  ⟨hb.trans h.1, fun j hj => by obtain ⟨A, cap, e, h1, h2, h3⟩ := h.2 j hj; exact ⟨A, cap, e, h1, h2, h3.keep hk⟩⟩
theorem AtR.ext (h : AtR ab w vs ls) (hb : Below w.heap.size w w') : AtR ab w' vs ls := h.keep (.ext hb) (hb.block ab h.1.lt)
theorem AtR.store (h : AtR ab w vs ls) {j : Nat} {A : Option Addr} {l : List Int} {cap : Nat} (h1 : l.length ≤ cap) (h2 : cap ≤ maxLen) (h3 : ISt w A l) : AtR ab (w.setCell ⟨ab, j, none⟩ (.slice A l.length cap)) (updL vs j (.slice A l.length cap)) (updL ls j l) := by
  have hk := KeepI.set h.1 (by decide) j (.slice A l.length cap)
  refine ⟨by have := h.1.set j (.slice A l.length cap); rw [cellsU_set] at this; exact this, fun i hi => ?_⟩
  by_cases hij : i = j
  · subst hij
    rw [updL_at, updL_at]
    exact ⟨A, cap, rfl, h1, h2, h3.keep hk⟩
  · rw [updL_ne _ _ hij, updL_ne _ _ hij]
    obtain ⟨A', cap', e, g1, g2, g3⟩ := h.2 i hi
    exact ⟨A', cap', e, g1, g2, g3.keep hk⟩
end

/-- a step of the stack: a joint, the move that led there -/
structure Stp where
  j : Int
  m : Mv
def Stp.cells (s : Stp) : List Value := [.int .i64 s.j, .int .i64 s.m.k, .bool s.m.r]
/-- a row of steps -/
def Vsp (base : Nat) (w : World) (v : Value) (l : List Stp) : Prop := w.ownsRow base 138 3 v l.length (l.flatMap Stp.cells)
theorem info_step : (Try.prog.info? 138).map (fun i => (i.zero, i.size, i.bytes)) = some (some (.agg #[.int .i64 0, .int .i64 0, .bool false]), 3, 24) := by kernel_rfl
/-- a row cut by its last element -/
theorem own_cut {w : World} {base : Nat} {e : TypeId} {sz : Nat} {A : Option Addr} {n cap : Nat} {xs : List Value} (h : w.ownsRow base e sz (.slice A n cap) n xs) {m : Nat} (hm : m ≤ n) (hA : 0 < n) : w.ownsRow base e sz (.slice A m cap) m (xs.take (m * sz)) := by
  obtain ⟨hl, h⟩ := h
  rcases h with ⟨hv, h0⟩ | ⟨g, c, cur, hv, hg, hh, hn, hmx, hcur, hx⟩
  · omega
  · injection hv with e1 _ e3
    subst e1
    have e3' : cap = c := e3
    subst e3'
    have hms : m * sz ≤ n * sz := Nat.mul_le_mul_right _ hm
    refine ⟨by rw [List.length_take, hl]; omega, .inr ⟨g, cap, cur, rfl, hg, hh, by omega, hmx, hcur, ?_⟩⟩
    rw [← hx, List.take_take]
    congr 1
    omega
theorem flat_take {α : Type} {f : α → List Value} {sz : Nat} (hf : ∀ a, (f a).length = sz) : ∀ (l : List α) (m : Nat), m ≤ l.length → (l.flatMap f).take (m * sz) = (l.take m).flatMap f
  | l, 0, _ => by simp
  | [], m + 1, h => absurd h (by simp)
  | x :: l, m + 1, h => by
    rw [List.flatMap_cons, List.take_succ_cons, List.flatMap_cons, ← flat_take hf l m (by simpa using h)]
    rw [List.take_append, hf]
    rw [show (m + 1) * sz - sz = m * sz by rw [Nat.succ_mul]; omega]
    rw [List.take_of_length_le (by rw [hf, Nat.succ_mul]; omega)]
theorem Vsp.cut {base : Nat} {w : World} {A : Option Addr} {cap : Nat} {l : List Stp} {s : Stp} (h : Vsp base w (.slice A (l ++ [s]).length cap) (l ++ [s])) : Vsp base w (.slice A l.length cap) l := by
  have h1 := own_cut h (m := l.length) (by simp) (by simp)
  rw [flat_take (f := Stp.cells) (sz := 3) (fun _ => rfl) _ _ (by simp)] at h1
  rw [List.take_left] at h1
  exact h1
theorem Vsp.top {base : Nat} {w : World} {v : Value} {l : List Stp} {s : Stp} (h : Vsp base w v (l ++ [s])) : ∃ g cap, v = .slice (some ⟨g, 0, none⟩) (l.length + 1) cap ∧ l.length + 1 ≤ cap ∧ cap ≤ maxLen ∧ base ≤ g ∧ g < w.heap.size ∧ w.cell? ⟨g, l.length * 3, none⟩ = some (.int .i64 s.j) ∧ w.cell? ⟨g, l.length * 3 + 1, none⟩ = some (.int .i64 s.m.k) ∧ w.cell? ⟨g, l.length * 3 + 2, none⟩ = some (.bool s.m.r) := by
  obtain ⟨A, cap, hv, h1, h2, h3⟩ := own_cells h
  rcases h3 with h3 | ⟨g, rfl, hb, hg, hc⟩
  · simp at h3
  · have hf : ∀ a : Stp, (Stp.cells a).length = 3 := fun _ => rfl
    have hlt : l.length < (l ++ [s]).length := by simp
    have hget : (l ++ [s])[l.length] = s := by simp
    refine ⟨g, cap, by rw [hv]; simp, by simpa using h1, h2, hb, hg, ?_, ?_, ?_⟩
    · exact hc (l.length * 3) _ (by rw [show l.length * 3 = l.length * 3 + 0 from rfl, flat_get hf _ _ 0 hlt (by omega), hget]; rfl)
    · exact hc (l.length * 3 + 1) _ (by rw [flat_get hf _ _ 1 hlt (by omega), hget]; rfl)
    · exact hc (l.length * 3 + 2) _ (by rw [flat_get hf _ _ 2 hlt (by omega), hget]; rfl)
end Go.Proofs.Ytbhjhajnhpohlaa
