/- Rows that grow by append: kept over calls, new blocks, stores elsewhere; read as lists. No conditions. -/
import Derived.Test.YtjadbipbidghdaaGreatDoorWd
import Derived.Laws.AppendOwn
namespace Go.Proofs.YtjadbipbidghdaaGreatDoor
open Go.RowKit

section
variable {w w' : World} {base n sz : Nat} {e : TypeId} {v : Value} {xs : List Value}
theorem own_lt (h : w.ownsRow base e sz v n xs) : ∀ k, v.ownBlock = some k → base ≤ k ∧ k < w.heap.size := by
  intro k hk
  rcases h.2 with ⟨rfl, _⟩ | ⟨g, cap, cur, rfl, hg, hh, _⟩
  · cases hk
  · have : g = k := by simpa [Value.ownBlock] using hk
    subst this
    exact ⟨hg, lt_of_block hh⟩
theorem own_keep (h : w.ownsRow base e sz v n xs) (hk : ∀ k, v.ownBlock = some k → w'.heap[k]? = w.heap[k]?) : w'.ownsRow base e sz v n xs := by
  refine ⟨h.1, ?_⟩
  rcases h.2 with h | ⟨g, cap, cur, hv, hg, hh, hr⟩
  · exact .inl h
  · exact .inr ⟨g, cap, cur, hv, hg, (hk g (by rw [hv]; rfl)).trans hh, hr⟩
theorem own_ext (h : w.ownsRow base e sz v n xs) (hb : Below w.heap.size w w') : w'.ownsRow base e sz v n xs :=
  own_keep h fun k hk => hb.block k (own_lt h k hk).2
theorem own_nil (w : World) (base : Nat) (e : TypeId) (sz : Nat) : w.ownsRow base e sz (.slice none 0 0) 0 [] := ⟨by simp, .inl ⟨rfl, rfl⟩⟩
theorem own_ne (h : w.ownsRow base e sz v n xs) {k : Nat} {cs : Array Value} {T' : TypeId} (hk : Bk T' w k cs) (hT : e ≠ T') : some k ≠ v.ownBlock := by
  obtain ⟨_, h⟩ := h
  rcases h with ⟨rfl, _⟩ | ⟨g, cap, cur, rfl, hg, hh, hr⟩
  · intro h; cases h
  · intro h
    injection h with h
    simp only at h
    subst h
    unfold Bk at hk
    rw [hk] at hh
    injection hh with hh
    injection hh with _ e
    exact hT e.symm
theorem own_set (h : w.ownsRow base e sz v n xs) {k j : Nat} {u : Value} (hk : some k ≠ v.ownBlock) : (w.setCell ⟨k, j, none⟩ u).ownsRow base e sz v n xs :=
  own_keep h fun i hi => Below.heap_setCell _ _ _ _ (fun e => hk (by rw [hi, e]))
theorem own_base {base' : Nat} (h : w.ownsRow base e sz v n xs) (hb : base' ≤ base) : w.ownsRow base' e sz v n xs := by
  refine ⟨h.1, ?_⟩
  rcases h.2 with h | ⟨g, cap, cur, hv, hg, hr⟩
  · exact .inl h
  · exact .inr ⟨g, cap, cur, hv, Nat.le_trans hb hg, hr⟩
end

section
variable {P : Program} (w : World)
/-- where an appended row lies: where it lay, or in the new block -/
theorem append_where (base : Nat) (t ty e : TypeId) (i : TypeInfo) (z : Value) (bytes : Nat) (ht : P.underlying t = some (.slice e)) (hi : P.info? e = some i) (hz : i.zero = some z) (hby : i.bytes = bytes)
    (_hzs : z.cells.size = i.size) (_hsz : 0 < i.size)
    (v : Value) (n : Nat) (xs : List Value) (hown : w.ownsRow base e i.size v n xs)
    (a : Addr) (m c : Nat) (news : List Value) (hl : news.length = m * i.size) (hnews : ∀ j u, news[j]? = some u → w.cell? (a.add j) = some u) (h1 : ∀ u ∈ news, u.oneCell' = true)
    (h63 : n + m ≤ maxLen) (hbytes : (n + m) * bytes ≤ 140737488355328) (hm : 0 < m) {v' : Value} {w' : World} (hr : (Builtin.append_ #[t, t] ty #[v, .slice (some a) m c]).run P w = .ok v' w') :
    v'.ownBlock = v.ownBlock ∨ v'.ownBlock = some w.heap.size := by
  have hsmall : n + m ≤ 9223372036854775807 := by simp only [maxLen] at h63; omega
  subst hby
  rcases hown.2 with ⟨rfl, rfl⟩ | ⟨g, cap, cur, rfl, hbg, hg, hnc, hcm, hcs, htake⟩
  · have h := run_append_nil (P := P) w t ty e i z ht hi hz a m c news hl hnews (by omega) (by omega) (by have hb := hbytes; simp only [Nat.zero_add] at hb; omega)
    rw [h] at hr
    injection hr with e1 e2
    rw [← e1]
    exact .inr rfl
  · by_cases hroom : n + m ≤ cap
    · have hfit : n * i.size + news.length ≤ cur.size := by rw [hl, hcs, ← Nat.add_mul]; exact Nat.mul_le_mul_right _ hroom
      have h := run_append_room (P := P) w t ty e i ht hi g n cap cur hg a m c news hl hnews h1 hroom hfit
      rw [h] at hr
      injection hr with e1 e2
      rw [← e1]
      exact .inl rfl
    · have holds : ∀ j u, xs[j]? = some u → w.cell? ((⟨g, 0, none⟩ : Addr).add j) = some u := hown.cells (g := g) rfl
      have h := run_append_grow (P := P) w t ty e i z ht hi hz ⟨g, 0, none⟩ n cap xs hown.1 holds a m c news hl hnews (by omega) (by omega) (growslice_fits (by omega) hbytes)
      rw [h] at hr
      injection hr with e1 e2
      rw [← e1]
      exact .inr rfl
end
/-- 'append(out, x..)' of m elements just built, out nil or the call's own; every block that is not out's is as it was; where it lies -/
theorem wpList_push {P : Program} (w : World) {ops : Array Oper} {rest : List Oper} {o : Oper} {a : Act} {Q : Exit → Act → World → Prop} (hgd : o.guard = none) (s x : Operand) (t : TypeId)
    (ho : o.op = .call { callee := .builtin .append, args := #[s, x], argTypes := #[t, t] })
    (base : Nat) (e : TypeId) (z : Value) (size bytes : Nat) (ht : P.underlying t = some (.slice e)) (hinfo : (P.info? e).map (fun i => (i.zero, i.size, i.bytes)) = some (some z, size, bytes)) (hzs : z.cells.size = size) (hsz : 0 < size)
    {v : Value} {n m : Nat} {xs : List Value} (hown : w.ownsRow base e size v n xs) (hs : a.eval s = v)
    {news : List Value} {B : Nat} (hx : a.eval x = .slice (some ⟨B, 0, none⟩) m m) (hB : w.heap.size = B) (hl : news.length = m * size) (h1 : ∀ u ∈ news, u.oneCell' = true) (hm : 0 < m)
    (h63 : n + m ≤ maxLen) (hbytes : (n + m) * bytes ≤ 140737488355328) (hbase : base ≤ w.heap.size)
    (h : ∀ v' w', w'.ownsRow base e size v' (n + m) (xs ++ news) → Below base w w' → (∀ k, k < w.heap.size → some k ≠ v.ownBlock → w'.heap[k]? = w.heap[k]?) → (∀ k, k < w.heap.size → some k ≠ v.ownBlock → some k ≠ v'.ownBlock) → (∀ k, some k = v.ownBlock → k < w.heap.size) → w'.os = w.os ∧ w'.tape = w.tape ∧ w'.output = w.output ∧ w.heap.size ≤ w'.heap.size → wpList P ops Q rest (a.put o.dst v') w') :
    wpList P ops Q (o :: rest) a (w.alloc (.cells news.toArray e)) := by
  subst hB
  obtain ⟨i, hi, hz, hsz', hby⟩ := info_parts hinfo
  subst hsz'
  have hlt := own_lt hown
  have hn2 : ∀ (j : Nat) u', news[j]? = some u' → (w.alloc (.cells news.toArray e)).cell? ((⟨w.heap.size, 0, none⟩ : Addr).add j) = some u' := by
    intro j u' hj
    have hb := (Bk.new e w news.toArray).cell j
    have hadd : (⟨w.heap.size, 0, none⟩ : Addr).add j = ⟨w.heap.size, j, none⟩ := by
      unfold Addr.add
      split
      · rename_i h0; subst h0; rfl
      · simp
    rw [hadd, hb]
    simpa using hj
  refine wpList_plain hgd fun _ hK => ?_
  obtain ⟨v', w', hr, h2, h3, h4⟩ := run_append_own (P := P) (w.alloc (.cells news.toArray e)) base t o.type e i z i.size bytes ht hi hz rfl hby hzs hsz v n xs (own_ext hown (ext_alloc _ _)) ⟨w.heap.size, 0, none⟩ m m news hl hn2 h1 h63 hbytes (by simp; omega)
  have hwh := append_where (P := P) (w.alloc (.cells news.toArray e)) base t o.type e i z bytes ht hi hz hby hzs hsz v n xs (own_ext hown (ext_alloc _ _)) ⟨w.heap.size, 0, none⟩ m m news hl hn2 h1 h63 hbytes hm hr
  have hbw := (((Below.refl base w).alloc hbase (.cells news.toArray e)).grown h3 (by simp; omega) (fun k hk => (hlt k hk).1))
  unfold Oper.wp execOp
  simp only [ho, resolve, invoke, builtin, Sem.run_bind, Sem.run_pure, Result.andThen_ok, List.map_toArray, List.map_cons, List.map_nil, hs, hx, hr]
  refine hK _ _ (h v' w' h2 hbw (fun k hk hne => ?_) (fun k hk hne => ?_) (fun k hk => (hlt k hk.symm).2) ⟨hbw.os, hbw.tape, hbw.output, hbw.size⟩)
  · exact (h3.block k (by simp; omega) hne).trans ((ext_alloc w _).block k hk)
  · rcases hwh with e1 | e1
    · rw [e1]; exact hne
    · rw [e1]
      intro e2
      injection e2 with e2
      simp at e2
      omega

theorem flat_get {α β : Type} {f : α → List β} {sz : Nat} (hf : ∀ a, (f a).length = sz) : ∀ (l : List α) (j i : Nat) (hj : j < l.length), i < sz → (l.flatMap f)[j * sz + i]? = (f l[j])[i]?
  | [], j, i, hj, _ => absurd hj (by simp)
  | x :: l, 0, i, _, hi => by
    rw [List.flatMap_cons, Nat.zero_mul, Nat.zero_add, List.getElem?_append_left (by rw [hf]; exact hi)]
    rfl
  | x :: l, j + 1, i, hj, hi => by
    have hj' : j < l.length := by simpa using hj
    rw [List.flatMap_cons, List.getElem?_append_right (by rw [hf, Nat.succ_mul]; omega), hf]
    rw [show (j + 1) * sz + i - sz = j * sz + i by rw [Nat.succ_mul]; omega, flat_get hf l j i hj' hi]
    rfl
theorem flat_len {α β : Type} {f : α → List β} {sz : Nat} (hf : ∀ a, (f a).length = sz) (l : List α) : (l.flatMap f).length = l.length * sz := by
  induction l with
  | nil => simp
  | cons x l ih => rw [List.flatMap_cons, List.length_append, hf, ih, List.length_cons, Nat.succ_mul]; omega
/-- what an own row holds, cell by cell -/
theorem own_cells {w : World} {base n sz : Nat} {e : TypeId} {v : Value} {xs : List Value} (h : w.ownsRow base e sz v n xs) :
    ∃ A cap, v = .slice A n cap ∧ n ≤ cap ∧ cap ≤ maxLen ∧ (n = 0 ∨ ∃ g, A = some ⟨g, 0, none⟩ ∧ base ≤ g ∧ g < w.heap.size ∧ ∀ j u, xs[j]? = some u → w.cell? ⟨g, j, none⟩ = some u) := by
  obtain ⟨hl, h⟩ := h
  rcases h with ⟨rfl, rfl⟩ | ⟨g, cap, cur, rfl, hg, hh, hn, hm, hcur, hx⟩
  · exact ⟨none, 0, rfl, by simp, by simp [maxLen], .inl rfl⟩
  · refine ⟨some ⟨g, 0, none⟩, cap, rfl, hn, hm, .inr ⟨g, rfl, hg, lt_of_block hh, fun j u hu => ?_⟩⟩
    rw [cell_of_row w g j cur _ (0, 0) hh]
    rw [← hx, List.getElem?_take] at hu
    split at hu
    · simpa using hu
    · cases hu

def ints (l : List Int) : List Value := l.map fun d : Int => Value.int .i64 d
theorem ints_len (l : List Int) : (ints l).length = l.length := by simp [ints]
theorem ints_append (a b : List Int) : ints (a ++ b) = ints a ++ ints b := by simp [ints]
theorem info_int : (Tryz.prog.info? 3).map (fun i => (i.zero, i.size, i.bytes)) = some (some (.int .i64 0), 1, 8) := by kernel_rfl

/-- a row of ints of the call's own that grows -/
def Vi (base : Nat) (w : World) (v : Value) (l : List Int) : Prop := w.ownsRow base 3 1 v l.length (ints l)
section
variable {base : Nat} {w w' : World} {v : Value} {l : List Int}
theorem Vi.nil (base : Nat) (w : World) : Vi base w (.slice none 0 0) [] := own_nil w base 3 1
theorem Vi.ext (h : Vi base w v l) (hb : Below w.heap.size w w') : Vi base w' v l := own_ext h hb
theorem Vi.ne (h : Vi base w v l) {k : Nat} {cs : Array Value} {T' : TypeId} (hk : Bk T' w k cs) (hT : 3 ≠ T') : some k ≠ v.ownBlock := own_ne h hk hT
theorem Vi.set (h : Vi base w v l) {k j : Nat} {u : Value} (hk : some k ≠ v.ownBlock) : Vi base (w.setCell ⟨k, j, none⟩ u) v l := own_set h hk
theorem Vi.isl (h : Vi base w v l) : ∃ A cap, v = .slice A l.length cap ∧ l.length ≤ cap ∧ cap ≤ maxLen ∧ ISl w A l := by
  obtain ⟨hl, h⟩ := h
  rcases h with ⟨rfl, h0⟩ | ⟨g, cap, cur, rfl, hg, hh, hn, hm, hcur, hx⟩
  · have : l = [] := List.eq_nil_of_length_eq_zero h0
    subst this
    exact ⟨none, 0, rfl, by simp, by simp [maxLen], .inl rfl⟩
  · refine ⟨some ⟨g, 0, none⟩, cap, rfl, by omega, hm, .inr ⟨g, 0, rfl, lt_of_block hh, fun j hj => ?_⟩⟩
    rw [cell_of_row w g (0 + j) cur _ (0, 0) hh, Nat.zero_add]
    have : (ints l)[j]? = some (.int .i64 l[j]) := by simp [ints, hj]
    rw [← hx, List.getElem?_take] at this
    split at this
    · simpa using this
    · cases this
end
/-- 'append(out, x)' of one int -/
theorem wpList_pushI (w : World) {ops : Array Oper} {rest : List Oper} {o : Oper} {a : Act} {Q : Exit → Act → World → Prop} (hgd : o.guard = none) (s x : Operand)
    (ho : o.op = .call { callee := .builtin .append, args := #[s, x], argTypes := #[77, 77] })
    (base : Nat) {v : Value} {l : List Int} (hown : Vi base w v l) (hs : a.eval s = v)
    {u : Int} {B : Nat} (hx : a.eval x = .slice (some ⟨B, 0, none⟩) 1 1) (hB : w.heap.size = B) (hn : l.length ≤ 1000000) (hbase : base ≤ w.heap.size)
    (h : ∀ v' w', Vi base w' v' (l ++ [u]) → Below base w w' → (∀ k, k < w.heap.size → some k ≠ v.ownBlock → w'.heap[k]? = w.heap[k]?) → (∀ k, k < w.heap.size → some k ≠ v.ownBlock → some k ≠ v'.ownBlock) → wpList Tryz.prog ops Q rest (a.put o.dst v') w') :
    wpList Tryz.prog ops Q (o :: rest) a (w.alloc (.cells #[.int .i64 u] 3)) := by
  refine wpList_push w hgd s x _ ho base 3 (.int .i64 0) 1 8 Tryz.underlying77 info_int rfl (by decide) hown hs (news := [.int .i64 u]) hx hB rfl (by intro x hx; simp at hx; subst hx; rfl) (by decide) (by unfold maxLen; omega) (by omega) hbase ?_
  intro v' w' h2 h3 h4 h5 _ _
  refine h v' w' ?_ h3 h4 h5
  have e : ints l ++ [Value.int .i64 u] = ints (l ++ [u]) := by rw [ints_append]; rfl
  have e2 : (l ++ [u]).length = l.length + 1 := by simp
  unfold Vi
  rw [← e, e2]
  exact h2
/-- a row without blocks that turned is as it was -/
theorem own_new {w : World} {base n m : Nat} {e : TypeId} {sz : Nat} {news : List Value} (hl : news.length = n * sz) (hn : n ≤ maxLen) (hb : base ≤ w.heap.size) (_h : m = n) : (w.alloc (.cells news.toArray e)).ownsRow base e sz (.slice (some ⟨w.heap.size, 0, none⟩) n n) n news := by
  refine ⟨hl, .inr ⟨w.heap.size, n, news.toArray, rfl, hb, ?_, Nat.le_refl _, hn, by simpa using hl, ?_⟩⟩
  · have h := Bk.new e w news.toArray
    exact h
  · rw [← hl]; simp
end Go.Proofs.YtjadbipbidghdaaGreatDoor
