/- Rows of strings and rows of bytes that grow. No conditions. -/
import Derived.Test.YtmgofdgbenfjmaaDoorPkC
import Derived.Test.YtmgofdgbenfjmaaDoorWe
import Derived.Lib.SlBytesRow
import Derived.Lib.BufferRead
namespace Go.Proofs.YtmgofdgbenfjmaaDoor
open Go.RowKit

theorem info_str : (Tryd.prog.info? 9).map (fun i => (i.zero, i.size, i.bytes)) = some (some (.string ⟨#[]⟩), 1, 16) := by kernel_rfl
theorem info_u8 : (Tryd.prog.info? 5).map (fun i => (i.zero, i.size, i.bytes)) = some (some (.int .u8 0), 1, 1) := by kernel_rfl
/-- a row of strings that grows -/
def Vs (base : Nat) (w : World) (v : Value) (l : List ByteArray) : Prop := w.ownsRow base 9 1 v l.length (l.map Value.string)
/-- a row of bytes that grows -/
def Vb (base : Nat) (w : World) (v : Value) (l : List UInt8) : Prop := w.ownsRow base 5 1 v l.length (l.map fun x => Value.int .u8 (x.toNat : Int))
theorem Vs.nil (base : Nat) (w : World) : Vs base w (.slice none 0 0) [] := own_nil w base 9 1
theorem Vb.nil (base : Nat) (w : World) : Vb base w (.slice none 0 0) [] := own_nil w base 5 1
theorem Vs.ext {base : Nat} {w w' : World} {v : Value} {l : List ByteArray} (h : Vs base w v l) (hb : Below w.heap.size w w') : Vs base w' v l := own_ext h hb
theorem Vb.ext {base : Nat} {w w' : World} {v : Value} {l : List UInt8} (h : Vb base w v l) (hb : Below w.heap.size w w') : Vb base w' v l := own_ext h hb
theorem Vs.tsl {base : Nat} {w : World} {v : Value} {l : List ByteArray} (h : Vs base w v l) : ∃ A cap, v = .slice A l.length cap ∧ l.length ≤ cap ∧ cap ≤ maxLen ∧ TSl w A l := by
  obtain ⟨A, cap, hv, h1, h2, h3⟩ := own_cells h
  refine ⟨A, cap, hv, h1, h2, ?_⟩
  rcases h3 with h3 | ⟨g, rfl, hb, hg, hc⟩
  · exact .inl (List.eq_nil_of_length_eq_zero h3)
  · exact .inr ⟨g, 0, rfl, hg, fun j hj => by rw [Nat.zero_add]; exact hc j _ (by simp [hj])⟩
/-- 'append(out, s)' of one string -/
theorem wpList_pushS (w : World) {ops : Array Oper} {rest : List Oper} {o : Oper} {a : Act} {Q : Exit → Act → World → Prop} (hgd : o.guard = none) (s x : Operand)
    (ho : o.op = .call { callee := .builtin .append, args := #[s, x], argTypes := #[22, 22] })
    (base : Nat) {v : Value} {l : List ByteArray} (hown : Vs base w v l) (hs : a.eval s = v) (u : ByteArray)
    {B : Nat} (hx : a.eval x = .slice (some ⟨B, 0, none⟩) 1 1) (hB : w.heap.size = B) (hn : l.length ≤ 1000000) (hbase : base ≤ w.heap.size)
    (h : ∀ v' w', Vs base w' v' (l ++ [u]) → Below base w w' → (∀ k, k < w.heap.size → some k ≠ v.ownBlock → w'.heap[k]? = w.heap[k]?) → (∀ k, k < w.heap.size → some k ≠ v.ownBlock → some k ≠ v'.ownBlock) → wpList Tryd.prog ops Q rest (a.put o.dst v') w') :
    wpList Tryd.prog ops Q (o :: rest) a (w.alloc (.cells #[.string u] 9)) := by
  refine wpList_push w hgd s x _ ho base 9 _ 1 16 Tryd.underlying22 info_str rfl (by decide) hown hs (news := [.string u]) hx hB rfl (by intro x hx; simp at hx; subst hx; rfl) (by decide) (by unfold maxLen; omega) (by omega) hbase ?_
  intro v' w' h2 h3 h4 h5 _ _
  refine h v' w' ?_ h3 h4 h5
  have e : l.map Value.string ++ [Value.string u] = (l ++ [u]).map Value.string := by simp
  have e2 : (l ++ [u]).length = l.length + 1 := by simp
  unfold Vs
  rw [← e, e2]
  exact h2
/-- 'append(out, x)' of one byte -/
theorem wpList_pushB (w : World) {ops : Array Oper} {rest : List Oper} {o : Oper} {a : Act} {Q : Exit → Act → World → Prop} (hgd : o.guard = none) (s x : Operand)
    (ho : o.op = .call { callee := .builtin .append, args := #[s, x], argTypes := #[101, 101] })
    (base : Nat) {v : Value} {l : List UInt8} (hown : Vb base w v l) (hs : a.eval s = v) (u : UInt8) {uv : Int} (hu : uv = (u.toNat : Int))
    {B : Nat} (hx : a.eval x = .slice (some ⟨B, 0, none⟩) 1 1) (hB : w.heap.size = B) (hn : l.length ≤ 1000000) (hbase : base ≤ w.heap.size)
    (h : ∀ v' w', Vb base w' v' (l ++ [u]) → Below base w w' → (∀ k, k < w.heap.size → some k ≠ v.ownBlock → w'.heap[k]? = w.heap[k]?) → (∀ k, k < w.heap.size → some k ≠ v.ownBlock → some k ≠ v'.ownBlock) → wpList Tryd.prog ops Q rest (a.put o.dst v') w') :
    wpList Tryd.prog ops Q (o :: rest) a (w.alloc (.cells #[.int .u8 uv] 5)) := by
  subst hu
  refine wpList_push w hgd s x _ ho base 5 _ 1 1 Tryd.underlying101 info_u8 rfl (by decide) hown hs (news := [.int .u8 (u.toNat : Int)]) hx hB rfl (by intro x hx; simp at hx; subst hx; rfl) (by decide) (by unfold maxLen; omega) (by omega) hbase ?_
  intro v' w' h2 h3 h4 h5 _ _
  refine h v' w' ?_ h3 h4 h5
  have e : (l.map fun x => Value.int .u8 (x.toNat : Int)) ++ [Value.int .u8 (u.toNat : Int)] = (l ++ [u]).map fun x => Value.int .u8 (x.toNat : Int) := by simp
  have e2 : (l ++ [u]).length = l.length + 1 := by simp
  unfold Vb
  rw [← e, e2]
  exact h2
theorem nil_conv (w : World) (c : Nat) : (convert 101 9 (.slice none 0 c)).run Tryd.prog w = .ok (.string ⟨#[]⟩) w :=
  Lib.run_convert_nil_bytes w 101 9 5 c Tryd.underlying101 Tryd.underlying5 Tryd.underlying9
theorem row_conv_at (w : World) (g cap : Nat) (l : List UInt8) (hc : ∀ j u, (l.map fun x => Value.int .u8 (x.toNat : Int))[j]? = some u → w.cell? ⟨g, j, none⟩ = some u) : (convert 101 9 (.slice (some ⟨g, 0, none⟩) l.length cap)).run Tryd.prog w = .ok (.string (BS l)) w := by
  have hb : Lib.Bytes w g 0 (BS l) := fun i hi => by
    have hi2 : i < l.length := by rw [BS_size] at hi; exact hi
    rw [Nat.zero_add]
    refine (hc i (.int .u8 (l[i].toNat : Int)) (by rw [List.getElem?_map, List.getElem?_eq_getElem hi2]; rfl)).trans ?_
    congr 1
  have hr := Lib.run_convert_whole (P := Tryd.prog) w 101 5 9 Tryd.underlying101 Tryd.underlying5 Tryd.underlying9 g 0 (BS l) hb cap
  rw [BS_size] at hr
  exact hr
/-- string(row) -/
theorem vb_conv {base : Nat} {w : World} {v : Value} {l : List UInt8} (h : Vb base w v l) : (convert 101 9 v).run Tryd.prog w = .ok (.string (BS l)) w := by
  obtain ⟨hl, h⟩ := h
  rcases h with ⟨rfl, h0⟩ | ⟨g, cap, cur, rfl, hg, hh, hn, hm, hcur, hx⟩
  · have := List.eq_nil_of_length_eq_zero h0
    subst this
    exact nil_conv w 0
  · refine row_conv_at w g cap l fun j u hu => ?_
    rw [cell_of_row w g j cur _ (0, 0) hh]
    rw [← hx, List.getElem?_take] at hu
    split at hu
    · simpa using hu
    · cases hu
end Go.Proofs.YtmgofdgbenfjmaaDoor
