/- Rows and slices of rectangles. No conditions. -/
import Derived.Test.YtmgofdgbenfjmaaDoorFu
namespace Go.Proofs.YtmgofdgbenfjmaaDoor
open Go.RowKit

def rcs (r : Rn) : List Value := [.int .i64 (r.x : Int), .int .i64 (r.y : Int), .int .i64 (r.a : Int), .int .i64 (r.b : Int)]
/-- a row of rectangles that grows -/
def Vr (base : Nat) (w : World) (v : Value) (l : List Rn) : Prop := w.ownsRow base 31 4 v l.length (l.flatMap rcs)
/-- a slice of rectangles -/
def RSl (w : World) (A : Option Addr) (l : List Rn) : Prop :=
  l = [] ∨ ∃ b off, A = some ⟨b, off, none⟩ ∧ b < w.heap.size ∧ ∀ j (h : j < l.length), w.cell? ⟨b, off + j * 4, none⟩ = some (.int .i64 (l[j].x : Int)) ∧ w.cell? ⟨b, off + j * 4 + 1, none⟩ = some (.int .i64 (l[j].y : Int)) ∧ w.cell? ⟨b, off + j * 4 + 2, none⟩ = some (.int .i64 (l[j].a : Int)) ∧ w.cell? ⟨b, off + j * 4 + 3, none⟩ = some (.int .i64 (l[j].b : Int))
theorem RSl.ext {w w' : World} {A : Option Addr} {l : List Rn} (h : RSl w A l) (hb : Below w.heap.size w w') : RSl w' A l := by
  rcases h with h | ⟨b, off, h1, h2, h3⟩
  · exact .inl h
  · exact .inr ⟨b, off, h1, Nat.lt_of_lt_of_le h2 hb.size, fun j hj => ⟨(hb.cell (p := ⟨b, _, none⟩) h2).trans (h3 j hj).1, (hb.cell (p := ⟨b, _, none⟩) h2).trans (h3 j hj).2.1, (hb.cell (p := ⟨b, _, none⟩) h2).trans (h3 j hj).2.2.1, (hb.cell (p := ⟨b, _, none⟩) h2).trans (h3 j hj).2.2.2⟩⟩
theorem Vr.nil (base : Nat) (w : World) : Vr base w (.slice none 0 0) [] := own_nil w base 31 4
theorem Vr.rsl {base : Nat} {w : World} {v : Value} {l : List Rn} (h : Vr base w v l) : ∃ A cap, v = .slice A l.length cap ∧ l.length ≤ cap ∧ cap ≤ maxLen ∧ RSl w A l := by
  obtain ⟨A, cap, hv, h1, h2, h3⟩ := own_cells h
  refine ⟨A, cap, hv, h1, h2, ?_⟩
  rcases h3 with h3 | ⟨g, rfl, hb, hg, hc⟩
  · exact .inl (List.eq_nil_of_length_eq_zero h3)
  · refine .inr ⟨g, 0, rfl, hg, fun j hj => ?_⟩
    have hf : ∀ a : Rn, (rcs a).length = 4 := fun _ => rfl
    have hh := fun i (hi : i < 4) => hc (j * 4 + i) ((rcs l[j])[i]'hi) (by rw [flat_get hf l j i hj hi]; exact List.getElem?_eq_getElem hi)
    rw [Nat.zero_add]
    exact ⟨hh 0 (by decide), hh 1 (by decide), hh 2 (by decide), hh 3 (by decide)⟩
theorem info_rect : (Tryd.prog.info? 31).map (fun i => (i.zero, i.size, i.bytes)) = some (some (.agg #[.int .i64 0, .int .i64 0, .int .i64 0, .int .i64 0]), 4, 32) := by kernel_rfl
/-- 'append(out, r)' of one rectangle -/
theorem wpList_pushRc (w : World) {ops : Array Oper} {rest : List Oper} {o : Oper} {a : Act} {Q : Exit → Act → World → Prop} (hgd : o.guard = none) (s x : Operand)
    (ho : o.op = .call { callee := .builtin .append, args := #[s, x], argTypes := #[37, 37] })
    (base : Nat) {v : Value} {l : List Rn} (hown : Vr base w v l) (hs : a.eval s = v) (r : Rn)
    {B : Nat} (hx : a.eval x = .slice (some ⟨B, 0, none⟩) 1 1) (hB : w.heap.size = B) (hn : l.length ≤ 100000000) (hbase : base ≤ w.heap.size)
    (h : ∀ v' w', Vr base w' v' (l ++ [r]) → Below base w w' → wpList Tryd.prog ops Q rest (a.put o.dst v') w') :
    wpList Tryd.prog ops Q (o :: rest) a (w.alloc (.cells #[.int .i64 (r.x : Int), .int .i64 (r.y : Int), .int .i64 (r.a : Int), .int .i64 (r.b : Int)] 31)) := by
  refine wpList_push w hgd s x _ ho base 31 _ 4 32 Tryd.underlying37 info_rect rfl (by decide) hown hs (news := rcs r) hx hB rfl (by intro x hx; simp [rcs] at hx; rcases hx with rfl | rfl | rfl | rfl <;> rfl) (by decide) (by unfold maxLen; omega) (by omega) hbase ?_
  intro v' w' h2 h3 h4 _ _ _
  refine h v' w' ?_ h3
  have e : l.flatMap rcs ++ rcs r = (l ++ [r]).flatMap rcs := by rw [List.flatMap_append]; simp
  have e2 : (l ++ [r]).length = l.length + 1 := by simp
  unfold Vr
  rw [← e, e2]
  exact h2
/-- how many there can be -/
theorem mx_len {us : Int × Int → Bool} {n h : Nat} (hi : Inn us n h) (hn : n ≤ 48) (hh : h ≤ 48) {P : Rn → Prop} {ms : List Rn} (hm : MxL us P ms) : ms.length ≤ 10000000 := by
  let f : Nat → Rn := fun k => ⟨k % 50, k / 50 % 50, k / 2500 % 50, k / 125000⟩
  have hs : ∀ r ∈ ms, r ∈ (List.range 6250000).map f := fun r hr => by
    have h1 := ((hm.2 r).1 hr).1
    have h2 := Fu.inn hi h1.1 h1.2.1 h1.2.2.1
    have h3 := h1.1
    have h4 := h1.2.1
    refine List.mem_map.2 ⟨r.x + 50 * (r.y + 50 * (r.a + 50 * r.b)), List.mem_range.2 (by omega), ?_⟩
    refine Rn.ext' ?_ ?_ ?_ ?_
    · show (r.x + 50 * (r.y + 50 * (r.a + 50 * r.b))) % 50 = r.x; omega
    · show (r.x + 50 * (r.y + 50 * (r.a + 50 * r.b))) / 50 % 50 = r.y; omega
    · show (r.x + 50 * (r.y + 50 * (r.a + 50 * r.b))) / 2500 % 50 = r.a; omega
    · show (r.x + 50 * (r.y + 50 * (r.a + 50 * r.b))) / 125000 = r.b; omega
  have := nodup_len ms _ hm.1 hs
  simp at this
  omega
end Go.Proofs.YtmgofdgbenfjmaaDoor
