/- The memory of trail's main loop, and what it means. No conditions. -/
import Derived.Test.YtbhjhajnhpohlaaTw
namespace Go.Proofs.Ytbhjhajnhpohlaa
open Go.RowKit

/-- used, the sixteen rows, the stack, what was popped -/
def TrB (w : World) (n : Nat) (u : Nat → Bool) (vs : Nat → Value) (ls : Nat → List Int) (sv ov : Value) (st : List Stp) (po : List Mv) (wr : World) : Prop :=
  Below w.heap.size w wr ∧ OwB w.heap.size n u wr ∧ AtR (w.heap.size + 1) wr vs ls ∧ Vsp w.heap.size wr sv st ∧ Vm 72 w.heap.size wr ov po
section
variable {w : World} {n : Nat} {u : Nat → Bool} {vs : Nat → Value} {ls : Nat → List Int} {sv ov : Value} {st : List Stp} {po : List Mv} {wr w' : World}
theorem TrB.ext (h : TrB w n u vs ls sv ov st po wr) (hb : Below wr.heap.size wr w') : TrB w n u vs ls sv ov st po w' :=
  ⟨bext h.1 hb h.1.size, h.2.1.ext hb, h.2.2.1.ext hb, own_ext h.2.2.2.1 hb, own_ext h.2.2.2.2 hb⟩
theorem TrB.storeAt (h : TrB w n u vs ls sv ov st po wr) {j : Nat} {A : Option Addr} {l : List Int} {cap : Nat} (h1 : l.length ≤ cap) (h2 : cap ≤ maxLen) (h3 : ISt wr A l) :
    TrB w n u (updL vs j (.slice A l.length cap)) (updL ls j l) sv ov st po (wr.setCell ⟨w.heap.size + 1, j, none⟩ (.slice A l.length cap)) :=
  ⟨h.1.setCell (by show w.heap.size ≤ w.heap.size + 1; omega) _, h.2.1.set_ne (by omega) _, h.2.2.1.store h1 h2 h3, own_set h.2.2.2.1 (own_ne h.2.2.2.1 h.2.2.1.1 (by decide)), own_set h.2.2.2.2 (own_ne h.2.2.2.2 h.2.2.1.1 (by decide))⟩
theorem TrB.mark (h : TrB w n u vs ls sv ov st po wr) (k : Nat) : TrB w n (updB u k true) vs ls sv ov st po (wr.setCell ⟨w.heap.size, k, none⟩ (.bool true)) :=
  ⟨h.1.setCell (Nat.le_refl _) _, h.2.1.set k true, h.2.2.1.keep (KeepI.set h.2.1 (by decide) k _) (Below.heap_setCell _ _ _ _ (by show w.heap.size + 1 ≠ w.heap.size; omega)), own_set h.2.2.2.1 (own_ne h.2.2.2.1 h.2.1 (by decide)), own_set h.2.2.2.2 (own_ne h.2.2.2.2 h.2.1 (by decide))⟩
theorem TrB.pushO (h : TrB w n u vs ls sv ov st po wr) {v : Value} {m : Mv} (hv : Vm 72 w.heap.size w' v (po ++ [m])) (hb : Below w.heap.size wr w') (hk : ∀ k, k < wr.heap.size → some k ≠ ov.ownBlock → w'.heap[k]? = wr.heap[k]?) : TrB w n u vs ls sv v st (po ++ [m]) w' :=
  ⟨h.1.trans hb, (hk _ h.2.1.lt (own_ne h.2.2.2.2 h.2.1 (by decide))).trans h.2.1, h.2.2.1.keep (KeepI.push h.2.2.2.2 (by decide) hk) (hk _ h.2.2.1.1.lt (own_ne h.2.2.2.2 h.2.2.1.1 (by decide))),
    own_keep h.2.2.2.1 fun k e => hk k (own_lt h.2.2.2.1 k e).2 (own_ne2 h.2.2.2.2 h.2.2.2.1 (by decide) k e), hv⟩
theorem TrB.pushS (h : TrB w n u vs ls sv ov st po wr) {v : Value} {s : Stp} (hv : Vsp w.heap.size w' v (st ++ [s])) (hb : Below w.heap.size wr w') (hk : ∀ k, k < wr.heap.size → some k ≠ sv.ownBlock → w'.heap[k]? = wr.heap[k]?) : TrB w n u vs ls v ov (st ++ [s]) po w' :=
  ⟨h.1.trans hb, (hk _ h.2.1.lt (own_ne h.2.2.2.1 h.2.1 (by decide))).trans h.2.1, h.2.2.1.keep (KeepI.push h.2.2.2.1 (by decide) hk) (hk _ h.2.2.1.1.lt (own_ne h.2.2.2.1 h.2.2.1.1 (by decide))), hv,
    own_keep h.2.2.2.2 fun k e => hk k (own_lt h.2.2.2.2 k e).2 (own_ne2 h.2.2.2.1 h.2.2.2.2 (by decide) k e)⟩
theorem TrB.cutS {A : Option Addr} {cap p : Nat} {s : Stp} (h : TrB w n u vs ls (.slice A (p + 1) cap) ov (st ++ [s]) po wr) (hp : p = st.length) : TrB w n u vs ls (.slice A p cap) ov st po wr := by
  subst hp
  have h4 := h.2.2.2.1
  rw [show st.length + 1 = (st ++ [s]).length by simp] at h4
  exact ⟨h.1, h.2.1, h.2.2.1, h4.cut, h.2.2.2.2⟩
end
/-- 'append(stack, step{..})' -/
theorem wpList_pushSp (w : World) {ops : Array Oper} {rest : List Oper} {o : Oper} {a : Act} {Q : Exit → Act → World → Prop} (hgd : o.guard = none) (s x : Operand)
    (ho : o.op = .call { callee := .builtin .append, args := #[s, x], argTypes := #[139, 139] })
    (base : Nat) {v : Value} {l : List Stp} (hown : Vsp base w v l) (hs : a.eval s = v)
    {j k : Int} {r : Bool} {B : Nat} (hx : a.eval x = .slice (some ⟨B, 0, none⟩) 1 1) (hB : w.heap.size = B) (hn : (l.length + 1) * 24 ≤ 140737488355328) (hbase : base ≤ w.heap.size)
    (h : ∀ v' w', Vsp base w' v' (l ++ [⟨j, ⟨k, r⟩⟩]) → Below base w w' → (∀ k, k < w.heap.size → some k ≠ v.ownBlock → w'.heap[k]? = w.heap[k]?) → wpList Try.prog ops Q rest (a.put o.dst v') w') :
    wpList Try.prog ops Q (o :: rest) a (w.alloc (.cells #[.int .i64 j, .int .i64 k, .bool r] 138)) := by
  refine wpList_push w hgd s x _ ho base 138 _ 3 24 Try.underlying139 info_step rfl (by decide) hown hs (news := [.int .i64 j, .int .i64 k, .bool r]) hx hB rfl (by intro x hx; simp at hx; rcases hx with rfl | rfl | rfl <;> rfl) (by decide) (by unfold maxLen; omega) hn hbase ?_
  intro v' w' h2 h3 h4 _
  refine h v' w' ?_ h3 h4
  have e : l.flatMap Stp.cells ++ [Value.int .i64 j, .int .i64 k, .bool r] = (l ++ [(⟨j, ⟨k, r⟩⟩ : Stp)]).flatMap Stp.cells := by rw [List.flatMap_append]; rfl
  have e2 : (l ++ [(⟨j, ⟨k, r⟩⟩ : Stp)]).length = l.length + 1 := by simp
  unfold Vsp
  rw [← e, e2]
  exact h2

def dmy : Mv := ⟨-2, false⟩
/-- the stack in memory -/
def stp (L : List Ln) (f : Int) (st : List Hop) : List Stp := ⟨f, dmy⟩ :: st.map fun h => ⟨h.to_ L, h.mv L⟩
theorem stp_len (L : List Ln) (f : Int) (st : List Hop) : (stp L f st).length = st.length + 1 := by simp [stp]
theorem stp_snoc (L : List Ln) (f : Int) (st : List Hop) (h : Hop) : stp L f (st ++ [h]) = stp L f st ++ [⟨h.to_ L, h.mv L⟩] := by simp [stp]
theorem snoc_cases {α : Type} (l : List α) : l = [] ∨ ∃ l' x, l = l' ++ [x] := by
  rcases List.eq_nil_or_concat l with h | ⟨l', x, h⟩
  · exact .inl h
  · exact .inr ⟨l', x, by simpa using h⟩
/-- what the sixteen rows hold: each line that is left at its joints, nothing but lines -/
def AtI (L : List Ln) (ks : List Nat) (ls : Nat → List Int) : Prop := ∀ v : Nat, v < 16 → (∀ k, k < L.length → k ∉ ks → lnInc (lnAt L k) (v : Int) ≠ 0 → (k : Int) ∈ ls v) ∧ ∀ q ∈ ls v, ∃ i : Nat, i < L.length ∧ q = (i : Int) ∧ lnInc (lnAt L i) (v : Int) ≠ 0
/-- one row, cut down -/
def RowI (L : List Ln) (ks : List Nat) (t : Int) (l : List Int) : Prop := (∀ k, k < L.length → k ∉ ks → lnInc (lnAt L k) t ≠ 0 → (k : Int) ∈ l) ∧ ∀ q ∈ l, ∃ i : Nat, i < L.length ∧ q = (i : Int) ∧ lnInc (lnAt L i) t ≠ 0
theorem AtI.row {L : List Ln} {ks : List Nat} {ls : Nat → List Int} (h : AtI L ks ls) {v : Nat} (hv : v < 16) : RowI L ks (v : Int) (ls v) := h v hv
theorem AtI.upd {L : List Ln} {ks : List Nat} {ls : Nat → List Int} (h : AtI L ks ls) {j : Nat} {l : List Int} (hr : RowI L ks (j : Int) l) : AtI L ks (updL ls j l) := by
  intro v hv
  by_cases e : v = j
  · subst e; rw [updL_at]; exact hr
  · rw [updL_ne _ _ e]; exact h v hv
theorem AtI.more {L : List Ln} {ks ks' : List Nat} {ls : Nat → List Int} (h : AtI L ks ls) (hk : ∀ k, k ∈ ks → k ∈ ks') : AtI L ks' ls := by
  intro v hv
  exact ⟨fun k h1 h2 h3 => (h v hv).1 k h1 (fun e => h2 (hk k e)) h3, (h v hv).2⟩
theorem RowI.tail {L : List Ln} {ks : List Nat} {t q : Int} {l : List Int} (h : RowI L ks t (q :: l)) (hq : ∀ i : Nat, q = (i : Int) → i ∈ ks) : RowI L ks t l := by
  refine ⟨fun k h1 h2 h3 => ?_, fun x hx => h.2 x (by simp [hx])⟩
  rcases List.mem_cons.1 (h.1 k h1 h2 h3) with h4 | h4
  · exact absurd (hq k h4.symm) h2
  · exact h4
theorem RowI.none {L : List Ln} {ks : List Nat} {t : Int} (h : RowI L ks t []) : ∀ k, k < L.length → k ∉ ks → lnInc (lnAt L k) t = 0 := by
  intro k h1 h2
  refine Classical.byContradiction fun h3 => ?_
  cases h.1 k h1 h2 h3
/-- the numbers of the lines used -/
def usd (st po : List Hop) : List Nat := (st ++ po).map Hop.k
def usB (st po : List Hop) (k : Nat) : Bool := decide (k ∈ usd st po)
theorem usB_push (st po : List Hop) (h : Hop) : updB (usB st po) h.k true = usB (st ++ [h]) po := by
  funext k
  unfold updB usB usd
  by_cases e : k = h.k
  · rw [if_pos e, e]
    exact (decide_eq_true (by simp)).symm
  · rw [if_neg e]
    apply decide_eq_decide.2
    simp only [List.map_append, List.mem_append, List.map_cons, List.map_nil, List.mem_singleton]
    constructor
    · rintro (h1 | h1)
      · exact .inl (.inl h1)
      · exact .inr h1
    · rintro ((h1 | h1) | h1)
      · exact .inl h1
      · exact absurd h1 e
      · exact .inr h1
theorem usB_pop (st po : List Hop) (h : Hop) : usB (st ++ [h]) po = usB st (po ++ [h]) := by
  funext k
  unfold usB usd
  apply decide_eq_decide.2
  simp only [List.map_append, List.mem_append, List.map_cons, List.map_nil, List.mem_singleton]
  constructor
  · rintro ((h1 | h1) | h1)
    · exact .inl h1
    · exact .inr (.inr h1)
    · exact .inr (.inl h1)
  · rintro (h1 | (h1 | h1))
    · exact .inl (.inl h1)
    · exact .inr h1
    · exact .inl (.inr h1)
theorem usd_pop (st po : List Hop) (h : Hop) : ∀ k, k ∈ usd (st ++ [h]) po → k ∈ usd st (po ++ [h]) := by
  intro k hk
  have := congrFun (usB_pop st po h) k
  unfold usB at this
  exact of_decide_eq_true (this ▸ decide_eq_true hk)
theorem usd_push (st po : List Hop) (h : Hop) : ∀ k, k ∈ usd st po → k ∈ usd (st ++ [h]) po := by
  intro k hk
  unfold usd at hk ⊢
  simp only [List.map_append, List.mem_append] at hk ⊢
  rcases hk with h1 | h1
  · exact .inl (.inl h1)
  · exact .inr h1
/-- the state of the main loop; g: what is left to do -/
def TrM (w : World) (L : List Ln) (f : Int) (g : Nat) (sv ov : Value) (wr : World) : Prop :=
  (∃ vs ls st po t s, TrI L f t s st po ∧ 0 ≤ t ∧ t < 16 ∧ AtI L (usd st po) ls ∧ TrB w L.length (usB st po) vs ls sv ov (stp L f st) (po.map (Hop.mv L)) wr ∧ g = 2 * (L.length - st.length - po.length) + st.length + 1) ∨
  (∃ vs ls po, Tour L f po.reverse ∧ TrB w L.length (usB [] po) vs ls sv ov [] (po.map (Hop.mv L) ++ [dmy]) wr ∧ g = 0)
theorem TrM.stop {w wr : World} {L : List Ln} {f : Int} {sv ov : Value} {vs : Nat → Value} {ls : Nat → List Int} {po : List Hop} (hT : Tour L f po.reverse) (hB : TrB w L.length (usB [] po) vs ls sv ov [] (po.map (Hop.mv L) ++ [dmy]) wr) : TrM w L f 0 sv ov wr :=
  .inr ⟨vs, ls, po, hT, hB, rfl⟩
theorem TrM.go {w wr : World} {L : List Ln} {f t s : Int} {sv ov : Value} {vs : Nat → Value} {ls : Nat → List Int} {st po : List Hop} (hI : TrI L f t s st po) (ht : 0 ≤ t ∧ t < 16) (hA : AtI L (usd st po) ls) (hB : TrB w L.length (usB st po) vs ls sv ov (stp L f st) (po.map (Hop.mv L)) wr) :
    TrM w L f (2 * (L.length - st.length - po.length) + st.length + 1) sv ov wr :=
  .inl ⟨vs, ls, st, po, t, s, hI, ht.1, ht.2, hA, hB, rfl⟩
theorem stp_top {L : List Ln} {f t s : Int} {st po : List Hop} (h : TrI L f t s st po) : ∃ bs m, stp L f st = bs ++ [⟨t, m⟩] ∧ bs.length = st.length ∧ ((st = [] ∧ m = dmy ∧ bs = []) ∨ ∃ st' g, st = st' ++ [g] ∧ m = g.mv L ∧ bs = stp L f st' ∧ g.to_ L = t) := by
  rcases snoc_cases st with rfl | ⟨st', g, rfl⟩
  · have := h.w1.nil_eq
    subst this
    exact ⟨[], dmy, rfl, rfl, .inl ⟨rfl, rfl, rfl⟩⟩
  · obtain ⟨_, _, h3⟩ := h.w1.snoc
    exact ⟨stp L f st', g.mv L, by rw [stp_snoc, h3], by rw [stp_len]; simp, .inr ⟨st', g, rfl, rfl, rfl, h3⟩⟩
/-- at most as many as there are lines -/
theorem TrI.cnt {L : List Ln} {f t s : Int} {st po : List Hop} (h : TrI L f t s st po) : st.length + po.length ≤ L.length := by
  have h1 := h.nd
  have h2 := h.lt
  have h3 : ∀ (n : Nat) (l : List Nat), l.Nodup → (∀ k ∈ l, k < n) → l.length ≤ n := by
    intro n l hn hl
    have hp : l.Perm ((List.range n).filter fun k => decide (k ∈ l)) := by
      refine (List.perm_ext_iff_of_nodup hn (List.nodup_range.sublist List.filter_sublist)).2 fun a => ?_
      rw [List.mem_filter, List.mem_range]
      exact ⟨fun h => ⟨hl a h, decide_eq_true h⟩, fun h => of_decide_eq_true h.2⟩
    rw [hp.length_eq]
    have := List.length_filter_le (fun k => decide (k ∈ l)) (List.range n)
    rw [List.length_range] at this
    exact this
  have := h3 L.length _ h1 h2
  simpa using this
end Go.Proofs.Ytbhjhajnhpohlaa
