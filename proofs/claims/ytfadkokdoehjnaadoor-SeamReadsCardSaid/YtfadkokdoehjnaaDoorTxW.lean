/- Rows of strings; a row of strings made at once. No conditions. -/
import Derived.Test.YtfadkokdoehjnaaDoorTxC
import Derived.Test.YtfadkokdoehjnaaDoorWe
namespace Go.Proofs.YtfadkokdoehjnaaDoor
open Go.RowKit

theorem info_str : (Tryd.prog.info? 9).map (fun i => (i.zero, i.size, i.bytes)) = some (some (.string ⟨#[]⟩), 1, 16) := by kernel_rfl
/-- a row of strings that grows -/
def VsT (base : Nat) (w : World) (v : Value) (l : List ByteArray) : Prop := w.ownsRow base 9 1 v l.length (l.map Value.string)
theorem VsT.nil (base : Nat) (w : World) : VsT base w (.slice none 0 0) [] := own_nil w base 9 1
theorem VsT.ext {base : Nat} {w w' : World} {v : Value} {l : List ByteArray} (h : VsT base w v l) (hb : Below w.heap.size w w') : VsT base w' v l := own_ext h hb
theorem VsT.tsl {base : Nat} {w : World} {v : Value} {l : List ByteArray} (h : VsT base w v l) : ∃ A cap, v = .slice A l.length cap ∧ l.length ≤ cap ∧ cap ≤ maxLen ∧ TSl w A l := by
  obtain ⟨A, cap, hv, h1, h2, h3⟩ := own_cells h
  refine ⟨A, cap, hv, h1, h2, ?_⟩
  rcases h3 with h3 | ⟨g, rfl, hb, hg, hc⟩
  · exact .inl (List.eq_nil_of_length_eq_zero h3)
  · exact .inr ⟨g, 0, rfl, hg, fun j hj => by rw [Nat.zero_add]; exact hc j _ (by simp [hj])⟩
/-- 'append(out, s)' of one string -/
theorem wpList_pushS (w : World) {ops : Array Oper} {rest : List Oper} {o : Oper} {a : Act} {Q : Exit → Act → World → Prop} (hgd : o.guard = none) (s x : Operand)
    (ho : o.op = .call { callee := .builtin .append, args := #[s, x], argTypes := #[48, 48] })
    (base : Nat) {v : Value} {l : List ByteArray} (hown : VsT base w v l) (hs : a.eval s = v) (u : ByteArray)
    {B : Nat} (hx : a.eval x = .slice (some ⟨B, 0, none⟩) 1 1) (hB : w.heap.size = B) (hn : l.length ≤ 1000000) (hbase : base ≤ w.heap.size)
    (h : ∀ v' w', VsT base w' v' (l ++ [u]) → Below base w w' → wpList Tryd.prog ops Q rest (a.put o.dst v') w') :
    wpList Tryd.prog ops Q (o :: rest) a (w.alloc (.cells #[.string u] 9)) := by
  refine wpList_push w hgd s x _ ho base 9 _ 1 16 Tryd.underlying48 info_str rfl (by decide) hown hs (news := [.string u]) hx hB rfl (by intro x hx; simp at hx; subst hx; rfl) (by decide) (by unfold maxLen; omega) (by omega) hbase ?_
  intro v' w' h2 h3 h4 _
  refine h v' w' ?_ h3
  have e : l.map Value.string ++ [Value.string u] = (l ++ [u]).map Value.string := by simp
  have e2 : (l ++ [u]).length = l.length + 1 := by simp
  unfold VsT
  rw [← e, e2]
  exact h2
def cellsT (n : Nat) (d : Nat → ByteArray) : Array Value := ((List.range n).map fun j => Value.string (d j)).toArray
theorem cellsT_get {n : Nat} {d : Nat → ByteArray} {i : Nat} (h : i < n) : (cellsT n d)[i]? = some (.string (d i)) := by simp [cellsT, h]
def updT (d : Nat → ByteArray) (i : Nat) (v : ByteArray) : Nat → ByteArray := fun k => if k = i then v else d k
theorem cellsT_set {n : Nat} {d : Nat → ByteArray} {i : Nat} {v : ByteArray} : (cellsT n d).setIfInBounds i (.string v) = cellsT n (updT d i v) := by
  unfold cellsT
  rw [List.setIfInBounds_toArray]
  congr 1
  apply List.ext_getElem
  · simp
  · intro k h1 h2
    rw [List.getElem_set]
    simp only [List.getElem_map, List.getElem_range]
    unfold updT
    by_cases hk : i = k
    · subst hk; simp
    · rw [if_neg hk, if_neg (fun h => hk h.symm)]
theorem cellsT_congr {n : Nat} {d e : Nat → ByteArray} (h : ∀ i, i < n → d i = e i) : cellsT n d = cellsT n e := by
  unfold cellsT
  congr 1
  apply List.map_congr_left
  intro a ha
  rw [h a (List.mem_range.1 ha)]
theorem made_cells (n : Nat) : madeCells #[Value.string ⟨#[]⟩] n = cellsT n fun _ => ⟨#[]⟩ := by
  apply Array.ext'
  rw [toList_madeCells_one]
  simp [cellsT]
  apply List.ext_getElem <;> simp
theorem run_strs (n : Nat) (h : n ≤ 1000000) (W : World) : (Instr.makeSlice 48 (.int .i64 (n : Int)) (.int .i64 (n : Int))).run Tryd.prog W = .ok (.slice (some ⟨W.heap.size, 0, none⟩) n n) (W.alloc (.cells (cellsT n fun _ => ⟨#[]⟩) 9)) := by
  obtain ⟨i, hi, hz, hsz, hby⟩ := info_parts info_str
  have hr := run_make (P := Tryd.prog) W 48 9 i (.string ⟨#[]⟩) Tryd.underlying48 hi hz .i64 .i64 n n (by omega) (by omega) (by rw [hby]; omega) (by omega)
  rw [hr, hsz, Nat.mul_one, Int.toNat_natCast]
  rw [show (Value.string ⟨#[]⟩).cells = #[Value.string ⟨#[]⟩] from rfl, made_cells]
/-- block b holds n strings, and nothing else -/
def OwT (b n : Nat) (d : Nat → ByteArray) (w : World) : Prop := Bk 9 w b (cellsT n d)
section
variable {b n : Nat} {d e : Nat → ByteArray} {w w' : World}
theorem OwT.lt (h : OwT b n d w) : b < w.heap.size := lt_of_block h
theorem OwT.cell (h : OwT b n d w) {i : Nat} (hi : i < n) : w.cell? ⟨b, i, none⟩ = some (.string (d i)) := (Bk.cell h i).trans (cellsT_get hi)
theorem OwT.frozen (h : OwT b n d w) (i : Nat) : w.frozen? ⟨b, i, none⟩ = false := Bk.frozen h i
theorem OwT.set (h : OwT b n d w) (i : Nat) (v : ByteArray) : OwT b n (updT d i v) (w.setCell ⟨b, i, none⟩ (.string v)) := by
  have h1 := Bk.set h i (.string v)
  rw [cellsT_set] at h1
  exact h1
theorem OwT.ext (h : OwT b n d w) (hb : Below w.heap.size w w') : OwT b n d w' := Bk.ext h hb
theorem OwT.congr (h : OwT b n d w) (hd : ∀ i, i < n → d i = e i) : OwT b n e w := by
  unfold OwT
  rw [← cellsT_congr hd]
  exact h
theorem OwT.new (w : World) (n : Nat) (d : Nat → ByteArray) : OwT w.heap.size n d (w.alloc (.cells (cellsT n d) 9)) := Bk.new _ w _
end
/-- the words so far -/
def wdT (L : List ByteArray) (i : Nat) : Nat → ByteArray := fun j => if j < i then L.getD j ⟨#[]⟩ else ⟨#[]⟩
theorem wdT_next {L : List ByteArray} {i n : Nat} {b : Nat} {d : Nat → ByteArray} {w : World} (h : OwT b n (updT d i (L.getD i ⟨#[]⟩)) w) (hd : ∀ j, j < n → j ≠ i → d j = wdT L i j) : OwT b n (wdT L (i + 1)) w := h.congr fun j hj => by
  unfold updT
  by_cases e : j = i
  · subst e; rw [if_pos rfl]; unfold wdT; rw [if_pos (by omega)]
  · rw [if_neg e, hd j hj e]
    unfold wdT
    by_cases h2 : j < i
    · rw [if_pos h2, if_pos (by omega)]
    · rw [if_neg h2, if_neg (by omega)]
/-- what Text answers -/
def RetTx (w : World) (l : List Opr) (e : Ending) (w' : World) : Prop :=
  Below w.heap.size w w' ∧ ((TxOk l ∧ e = .returned (.tuple #[.string (BS (txtL l)), .int .i64 0])) ∨ (¬ TxOk l ∧ e = .returned (.tuple #[.string ⟨#[]⟩, .int .i64 (if 4096 < l.length then 3 else 2)])))
def txB (o : Opr) : ByteArray := BS (txtO o)
theorem map_txB (l : List Opr) : (l.map txB).map (·.data.toList) = l.map txtO := by
  unfold txB
  rw [List.map_map]
  congr 1
theorem txt_len {l : List Opr} (h : TxOk l) : (Lib.join (l.map txtO) [32]).length ≤ 40000 := by
  have hl : Lib.lens (l.map txtO) ≤ 4 * l.length := by
    have hp := h.2
    clear h
    unfold Lib.lens
    induction l with
    | nil => simp
    | cons o t ih =>
      have h1 := txtO_len (hp o (by simp))
      have h2 := ih (fun p hq => hp p (by simp [hq]))
      simp only [List.map_cons, List.sum_cons, List.length_cons] at h2 ⊢
      omega
  have h2 := h.1
  have h3 : (l.map txtO).length = l.length := by simp
  cases hR : l.map txtO with
  | nil => rw [Lib.join_nil]; simp
  | cons r rs =>
    rw [hR] at hl h3
    rw [Lib.join_length]
    simp only [List.length_cons, List.length_nil] at h3 ⊢
    omega
/-- the letters -/
def letB : ByteArray := ⟨#[116, 103, 108, 115, 99, 114]⟩
theorem letB_at {k : Nat} (h : k ≤ 5) : letB.extract k (k + 1) = BS [lett (k : Int)] := by
  have h6 : k = 0 ∨ k = 1 ∨ k = 2 ∨ k = 3 ∨ k = 4 ∨ k = 5 := by omega
  rcases h6 with rfl | rfl | rfl | rfl | rfl | rfl <;> rfl
end Go.Proofs.YtfadkokdoehjnaaDoor
