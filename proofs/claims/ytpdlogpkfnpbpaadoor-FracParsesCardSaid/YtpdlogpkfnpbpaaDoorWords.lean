/- Words for memory: a slice that reads as a list of one-cell values, kept while the world only grows. No conditions. -/
import Derived.WalkKit
import Derived.WalkSpells
import Derived.WalkLawsBesides
import Derived.Handy
import Derived.Lib.Hide
import Derived.BigQuiet
import Derived.Deep.QuietTactic
import Derived.Deep.RegionHeld3
import Derived.Deep.DeepCutAuto
import Derived.Deep.LoopGhost
import Derived.Test.YtpdlogpkfnpbpaaDoorNum
namespace Go.Proofs.YtpdlogpkfnpbpaaDoor
open Go.RowKit

theorem ext_trans {a b c : World} (h : Below a.heap.size a b) (k : Below b.heap.size b c) : Below a.heap.size a c := h.trans (k.mono h.size)
theorem ext_trans' {B : Nat} {a b c : World} (h : Below B a b) (k : Below b.heap.size b c) (hB : B ≤ b.heap.size := by omega) : Below B a c := h.trans (k.mono hB)
theorem ext_drewN (w : World) (n : Nat) : Below w.heap.size w (w.drewN n) := ⟨rfl, rfl, rfl, Nat.le_refl _, fun _ _ => rfl⟩
theorem ext_drew (w : World) : Below w.heap.size w w.drew := ⟨rfl, rfl, rfl, Nat.le_refl _, fun _ _ => rfl⟩
theorem bcell {W w1 : World} {B : Nat} (hb : Below B W w1) : (∀ b o, b < B → w1.cell? ⟨b, o, none⟩ = W.cell? ⟨b, o, none⟩) ∧ (∀ b o, b < B → w1.frozen? ⟨b, o, none⟩ = W.frozen? ⟨b, o, none⟩) :=
  ⟨fun b o h => hb.cell (p := ⟨b, o, none⟩) h, fun b o h => hb.frozen (p := ⟨b, o, none⟩) h⟩

/-- the cells from an address on, in a block of elements of type T -/
def Sl (T : TypeId) (w : World) (A : Option Addr) (xs : List Value) : Prop :=
  xs = [] ∨ ∃ b off, A = some ⟨b, off, none⟩ ∧ (∃ cur, w.heap[b]? = some (.cells cur T (0, 0))) ∧ ∀ j u, xs[j]? = some u → w.cell? ⟨b, off + j, none⟩ = some u
/-- a slice value whose elements, a cell each, read as this list -/
def Row (T : TypeId) (w : World) (v : Value) (xs : List Value) : Prop :=
  ∃ A cap, v = .slice A xs.length cap ∧ xs.length ≤ cap ∧ cap ≤ maxLen ∧ Sl T w A xs
def u32s (l : List Nat) : List Value := l.map fun d : Nat => Value.int .u32 (d : Int)
/-- a natural number in memory -/
def NatAt (w : World) (v : Value) (n : Nat) : Prop := Row 70 w v (u32s (Num.dig n))

theorem lt_of_block {w : World} {b : Nat} {o : Obj} (h : w.heap[b]? = some o) : b < w.heap.size := by
  rcases Nat.lt_or_ge b w.heap.size with hlt | hge
  · exact hlt
  · rw [Array.getElem?_eq_none hge] at h; cases h
section
variable {T : TypeId} {w w' : World} {A : Option Addr} {v : Value} {xs : List Value}
theorem Sl.ext (h : Sl T w A xs) (hb : Below w.heap.size w w') : Sl T w' A xs := by
  rcases h with h | ⟨b, off, hA, ⟨cur, hcur⟩, hc⟩
  · exact .inl h
  · have hlt := lt_of_block hcur
    exact .inr ⟨b, off, hA, ⟨cur, (hb.block b hlt).trans hcur⟩, fun j u hu => (hb.cell (p := ⟨b, off + j, none⟩) hlt).trans (hc j u hu)⟩
theorem Row.ext (h : Row T w v xs) (hb : Below w.heap.size w w') : Row T w' v xs := by
  obtain ⟨A, cap, hv, hc, hm, hs⟩ := h
  exact ⟨A, cap, hv, hc, hm, hs.ext hb⟩
theorem NatAt.ext {n : Nat} (h : NatAt w v n) (hb : Below w.heap.size w w') : NatAt w' v n := Row.ext h hb
theorem Sl.at_ (h : Sl T w A xs) {k : Nat} (hk : k < xs.length) : ∃ b off, A = some ⟨b, off, none⟩ ∧ b < w.heap.size ∧ w.cell? ⟨b, off + k, none⟩ = some xs[k] := by
  rcases h with rfl | ⟨b, off, hA, ⟨cur, hcur⟩, hc⟩
  · simp at hk
  · exact ⟨b, off, hA, lt_of_block hcur, hc k _ (List.getElem?_eq_getElem hk)⟩
theorem Sl.take (h : Sl T w A xs) (k : Nat) : Sl T w A (xs.take k) := by
  rcases h with rfl | ⟨b, off, hA, hlt, hc⟩
  · exact .inl (by simp)
  · refine .inr ⟨b, off, hA, hlt, fun j u hu => hc j u ?_⟩
    rw [List.getElem?_take] at hu
    split at hu
    · exact hu
    · cases hu
theorem Row.of_own {base : Nat} {n : Nat} (h : w.ownsRow base T 1 v n xs) : Row T w v xs := by
  obtain ⟨hl, h⟩ := h
  rcases h with ⟨rfl, rfl⟩ | ⟨g, cap, cur, rfl, hg, hh, hn, hm, hcur, hx⟩
  · have : xs = [] := List.eq_nil_of_length_eq_zero (by simpa using hl)
    subst this
    exact ⟨none, 0, rfl, by simp, by simp [maxLen], .inl rfl⟩
  · have hn' : xs.length = n := by simpa using hl
    refine ⟨some ⟨g, 0, none⟩, cap, by rw [hn'], by omega, hm, .inr ⟨g, 0, rfl, ⟨cur, hh⟩, ?_⟩⟩
    intro j u hu
    rw [← hx, List.getElem?_take] at hu
    split at hu
    · rw [cell_of_row w g (0 + j) cur T (0, 0) hh, Nat.zero_add]
      simpa using hu
    · cases hu
theorem Row.nil (w : World) : Row T w (.slice none 0 0) [] := ⟨none, 0, rfl, by simp, by simp [maxLen], .inl rfl⟩
/-- a store into a block of another type turns nothing -/
theorem Row.far (h : Row T w v xs) {g j : Nat} {u : Value} {T' : TypeId} {cs : Array Value} (hg : w.heap[g]? = some (.cells cs T' (0, 0))) (hT : T ≠ T') : Row T (w.setCell ⟨g, j, none⟩ u) v xs := by
  obtain ⟨A, cap, hv, h1, h2, h3⟩ := h
  refine ⟨A, cap, hv, h1, h2, ?_⟩
  rcases h3 with h3 | ⟨b, off, rfl, ⟨cur, hcur⟩, hc⟩
  · exact .inl h3
  · have hne : b ≠ g := by
      intro e
      subst e
      rw [hcur] at hg
      injection hg with hg
      injection hg with _ e
      exact hT e
    refine .inr ⟨b, off, rfl, ⟨cur, ?_⟩, fun k x hx => ?_⟩
    · rw [Below.heap_setCell _ _ _ _ hne]; exact hcur
    · rw [World.cell?_setCell_other]
      · exact hc k x hx
      · intro e
        injection e with e1
        exact hne (by first | exact e1 | exact e1.symm)
theorem NatAt.far {n : Nat} (h : NatAt w v n) {g j : Nat} {u : Value} {T' : TypeId} {cs : Array Value} (hg : w.heap[g]? = some (.cells cs T' (0, 0))) (hT : 70 ≠ T') : NatAt (w.setCell ⟨g, j, none⟩ u) v n := Row.far h hg hT
end

theorem ret_int {k : IntKind} {a b : Int} (h : a = b) : Ending.returned (.int k a) = .returned (.int k b) := by rw [h]
theorem ret_bool {a b : Bool} (h : a = b) : Ending.returned (.bool a) = .returned (.bool b) := by rw [h]
theorem drew2 (w : World) (a b : Nat) : ∃ n, (w.drewN a).drewN b = w.drewN n := ⟨_, World.drewN_drewN _ _ _⟩
theorem drew3 (w : World) (a b c : Nat) : ∃ n, ((w.drewN a).drewN b).drewN c = w.drewN n := ⟨a + (b + c), by rw [World.drewN_drewN, World.drewN_drewN]⟩
/-- a slice's length, for a measure -/
def lenOf : Value → Nat
  | .slice _ n _ => n
  | _ => 0

theorem u32s_len (l : List Nat) : (u32s l).length = l.length := by simp [u32s]
theorem u32s_get (l : List Nat) (k : Nat) (h : k < (u32s l).length) : (u32s l)[k] = .int .u32 ((l.getD k 0 : Nat) : Int) := by
  have : k < l.length := by simpa [u32s] using h
  simp [u32s, List.getD_eq_getElem?_getD, this]
theorem u32s_append (a b : List Nat) : u32s (a ++ b) = u32s a ++ u32s b := by simp [u32s]
theorem u32s_take (l : List Nat) (k : Nat) : u32s (l.take k) = (u32s l).take k := by simp [u32s]

/-- 'append(out, x)' of one element, out nil or the call's own: x lies in a new block -/
theorem wpList_push {P : Program} (w : World) {ops : Array Oper} {rest : List Oper} {o : Oper} {a : Act} {Q : Exit → Act → World → Prop} (hgd : o.guard = none) (s x : Operand) (t : TypeId)
    (ho : o.op = .call { callee := .builtin .append, args := #[s, x], argTypes := #[t, t] })
    (base : Nat) (e : TypeId) (z : Value) (bytes : Nat) (ht : P.underlying t = some (.slice e)) (hinfo : (P.info? e).map (fun i => (i.zero, i.size, i.bytes)) = some (some z, 1, bytes)) (hzs : z.cells.size = 1)
    {v : Value} {n : Nat} {xs : List Value} (hown : w.ownsRow base e 1 v n xs) (hs : a.eval s = v)
    {u : Value} (hx : a.eval x = .slice (some ⟨w.heap.size, 0, none⟩) 1 1) (h1 : u.oneCell' = true)
    (h63 : n + 1 ≤ maxLen) (hbytes : (n + 1) * bytes ≤ 140737488355328) (hbase : base ≤ w.heap.size)
    (h : ∀ v' w', w'.ownsRow base e 1 v' (n + 1) (xs ++ [u]) → Below base w w' → v' ≠ .slice none 0 0 → wpList P ops Q rest (a.put o.dst v') w') :
    wpList P ops Q (o :: rest) a (w.alloc (.cells #[u] e)) := by
  obtain ⟨i, hi, hz, hsz, hby⟩ := info_parts hinfo
  have hlt := hown.lt
  refine wpList_append_own _ hgd s x t ho base e i z 1 bytes ht hi hz hsz hby hzs (by decide) v n xs hs (hown.alloc _) ⟨w.heap.size, 0, none⟩ 1 1 [u] hx rfl ?_ ?_ h63 hbytes (by simp; omega) ?_
  · intro j u' hj
    match j, hj with
    | 0, hj => simp at hj; subst hj; simp [Addr.add]
  · intro u' hu; simp at hu; subst hu; exact h1
  · intro v' w' h2 h3 h4
    refine h v' w' h2 (((Below.refl base w).alloc hbase _).grown h3 (by simp; omega) (fun k hk => (hlt k hk).1)) (fun hv => ?_)
    have := (h4.1 hv).2
    omega

/-- 'make([]T, n)', T of one cell: n zeros in a new block -/
theorem wpList_zeros {P : Program} (w : World) {ops : Array Oper} {rest : List Oper} {o : Oper} {a : Act} {Q : Exit → Act → World → Prop} (hgd : o.guard = none) (l c : Operand) (t : TypeId)
    (ho : o.op = Op.makeSlice t l c) (base : Nat) (e : TypeId) (z : Value) (bytes : Nat) (ht : P.underlying t = some (.slice e)) (hinfo : (P.info? e).map (fun i => (i.zero, i.size, i.bytes)) = some (some z, 1, bytes)) (hzs : z.cells = #[z])
    (n : Nat) (L : Int) (hl : a.eval l = .int .i64 L) (hc : a.eval c = .int .i64 L) (hL : L = n) (hbytes : bytes * n ≤ 281474976710656) (h63 : n ≤ maxLen) (hbase : base ≤ w.heap.size)
    (h : ∀ w', w'.ownsRow base e 1 (.slice (some ⟨w.heap.size, 0, none⟩) n n) n (List.replicate n z) → Below base w w' → w.heap.size < w'.heap.size → wpList P ops Q rest (a.put o.dst (.slice (some ⟨w.heap.size, 0, none⟩) n n)) w') :
    wpList P ops Q (o :: rest) a w := by
  obtain ⟨i, hi, hz, hsz, hby⟩ := info_parts hinfo
  refine wpList_make_full w hgd l c t ho base e i z 1 ht hi hz hsz .i64 .i64 L L n hl hc hL hL (by rw [hby]; exact hbytes) h63 hbase ?_
  intro w' h1 h2
  rw [hzs, toList_madeCells_one, Nat.mul_one] at h1
  refine h w' h1 ((Below.refl base w).grown h2 hbase (by intro k hk; cases hk)) ?_
  exact (h1.lt _ rfl).2
end Go.Proofs.YtpdlogpkfnpbpaaDoor
