/- Words for the memory of Read: what a round holds, how it may be left; marks of ranges over functions. No conditions. -/
import Derived.Test.YtfadkokdoehjnaaDoorRdP
import Derived.Test.YtfadkokdoehjnaaDoorSsr
namespace Go.Proofs.YtfadkokdoehjnaaDoor
open Go.RowKit

/-- the mark of a range over a function that has ended -/
def mkR (D : Nat) : Deferred := { target := .collected D, args := #[] }
/-- the function is left: at most one mark is taken in -/
theorem leaves_one {F : Fence} {n : Nat} {P : Program} {fn : Func} {tmps : Array Value} {R : Ending → World → Prop} {base D : Nat} {w : World} (hD : base ≤ D) (hw : w.heap[D]? = some (.deferred (some []))) (hs : base ≤ w.heap.size)
    (h : ∀ w', Below base w w' → (∀ (k : Nat) (o : Obj), w.heap[k]? = some o → o.isCells = true → w'.heap[k]? = some o) → LeavesIn F n P fn tmps R [] .returning w') : LeavesInM F n P fn tmps R [mkR D] .returning w := by
  refine ⟨by simp, .inl ⟨D, _, rfl, run_takeDeferred hw, ?_⟩⟩
  refine h _ ((Below.refl base w).grown (grownBy_putObj' w D _) hs (fun k e => by cases e; exact hD)) fun k o ho hc => ?_
  refine (World.putObj_heap_other fun e => ?_).trans ho
  subst e
  rw [hw] at ho
  injection ho with ho
  rw [← ho] at hc
  cases hc
theorem rdAll_snoc {f : List UInt8 → Option Opr} (t : List UInt8) : ∀ l : List (List UInt8), rdAll f (l ++ [t]) = match rdAll f l with | none => none | some ps => match f t with | none => none | some o => some (ps ++ [o])
  | [] => by
    rw [List.nil_append, rdAll, rdAll]
    cases f t <;> rfl
  | a :: l => by
    rw [List.cons_append, rdAll, rdAll, rdAll_snoc t l]
    cases f a with
    | none => rfl
    | some o =>
      dsimp only
      cases rdAll f l with
      | none => rfl
      | some ps =>
        dsimp only
        cases f t <;> rfl
theorem rdAll_pre {f : List UInt8 → Option Opr} : ∀ (l m : List (List UInt8)), rdAll f l = none → rdAll f (l ++ m) = none
  | [], _, h => by rw [rdAll] at h; cases h
  | a :: l, m, h => by
    rw [List.cons_append, rdAll]
    rw [rdAll] at h
    cases ha : f a with
    | none => rfl
    | some o =>
      rw [ha] at h
      dsimp only at h ⊢
      cases hl : rdAll f l with
      | none => rw [rdAll_pre l m hl]
      | some ps => rw [hl] at h; cases h
def dataL (l : List ByteArray) : List (List UInt8) := l.map fun x => (clip x).data.toList
/-- what a round of Read holds -/
def RdI (w : World) (B z : Nat) (pre : List ByteArray) (W : World) : Prop :=
  ∃ v ps, rdAll rdP (dataL pre) = some ps ∧ ps.length = pre.length ∧ pre.length ≤ 4096 ∧ Bk 27 W (B + 2) #[v] ∧ Vo 49 z W v ps ∧ Bk 27 W B #[.slice none 0 0] ∧ Bk 24 W (B + 1) #[.int .i64 0] ∧ Below B w W ∧ z ≤ W.heap.size
/-- how the rounds may be left -/
def RdX (w : World) (B : Nat) (c : Code) (pre : List ByteArray) (W : World) : Prop :=
  c = .ret ∧ (rdAll rdP (dataL pre) = none ∨ 4096 < pre.length) ∧ Bk 27 W B #[.slice none 0 0] ∧ Bk 24 W (B + 1) #[.int .i64 6] ∧ Below B w W
theorem own_cell {W : World} {base n sz : Nat} {e : TypeId} {v : Value} {xs : List Value} (h : W.ownsRow base e sz v n xs) : ∀ k, v.ownBlock = some k → ∃ o : Obj, W.heap[k]? = some o ∧ o.isCells = true := by
  intro k hk
  rcases h.2 with ⟨rfl, _⟩ | ⟨g, cap, cur, rfl, hg, hh, _⟩
  · cases hk
  · have : g = k := by simpa [Value.ownBlock] using hk
    subst this
    exact ⟨_, hh, rfl⟩
theorem rdI_own {w : World} {B z : Nat} (hz : B + 6 ≤ z) : OwnFrom z (RdI w B z) := by
  rintro s W W' row ⟨v, ps, h1, h2, h3, h4, h5, h6, h7, h8, h9⟩ hg hr
  have hlow : ∀ k, k < B + 3 → k < W.heap.size → W'.heap[k]? = W.heap[k]? := fun k hk hs => hg.block k hs fun e => by
    have := (hr _ e.symm).1; omega
  refine ⟨v, ps, h1, h2, h3, (hlow _ (by omega) h4.lt).trans h4, own_keep h5 fun k hk => hg.block k (own_lt h5 k hk).2 fun e => ?_, (hlow _ (by omega) h6.lt).trans h6, (hlow _ (by omega) h7.lt).trans h7, h8.grown hg (by have := h4.lt; omega) fun k e => ?_, Nat.le_trans h9 hg.size⟩
  · obtain ⟨_, o, ho, hc⟩ := hr _ e.symm
    obtain ⟨o', ho', hc'⟩ := own_cell h5 k hk
    rw [ho] at ho'
    injection ho' with e2
    rw [e2, hc'] at hc
    cases hc
  · have := (hr _ e).1; omega
theorem rdX_own {w : World} {B z : Nat} (hz : B + 6 ≤ z) (c : Code) : OwnFrom z (RdX w B c) := by
  rintro s W W' row ⟨h1, h2, h6, h7, h8⟩ hg hr
  have hlow : ∀ k, k < B + 3 → k < W.heap.size → W'.heap[k]? = W.heap[k]? := fun k hk hs => hg.block k hs fun e => by
    have := (hr _ e.symm).1; omega
  exact ⟨h1, h2, (hlow _ (by omega) h6.lt).trans h6, (hlow _ (by omega) h7.lt).trans h7, h8.grown hg (by have := h7.lt; omega) fun k e => by have := (hr _ e).1; omega⟩
theorem rdI_store {w : World} {B z : Nat} (hz : B + 6 ≤ z) (pre : List ByteArray) (W : World) (u : Value) (h : RdI w B z pre W) : RdI w B z pre (W.setCell ⟨B + 3, 0, none⟩ u) := by
  obtain ⟨v, ps, h1, h2, h3, h4, h5, h6, h7, h8, h9⟩ := h
  refine ⟨v, ps, h1, h2, h3, h4.set_ne (by omega) _, own_set h5 fun e => ?_, h6.set_ne (by omega) _, h7.set_ne (by omega) _, h8.setCell (p := ⟨B + 3, 0, none⟩) (by show B ≤ B + 3; omega) _, by simpa using h9⟩
  have := (own_lt h5 _ e.symm).1; omega
/-- a round that went on: what turned -/
def RdC (B : Nat) (v : Value) (W W' : World) : Prop := W.heap.size ≤ W'.heap.size ∧ ∀ k, k < W.heap.size → some k ≠ v.ownBlock → k ≠ B + 2 → W'.heap[k]? = W.heap[k]?
theorem RdC.keeps {B z n : Nat} {v : Value} {W W' : World} {xs : List Value} (h : RdC B v W W') (hv : W.ownsRow z 49 3 v n xs) {u : Value} (hb : Bk 27 W (B + 2) #[u]) : KeepsFrom z W W' := ⟨h.1, fun k o _ hk ho => (h.2 k (Array.getElem?_eq_some_iff.1 hk).1 (fun e => by
    obtain ⟨o', ho', hc'⟩ := own_cell hv k e.symm
    rw [hk] at ho'
    injection ho' with e2
    rw [e2, hc'] at ho
    cases ho) (fun e => by
    subst e
    unfold Bk at hb
    rw [hk] at hb
    injection hb with hb
    rw [hb] at ho
    cases ho)).trans hk⟩
theorem RdC.kps {B z n : Nat} (hz : B + 6 ≤ z) {v : Value} {W W' : World} {xs : List Value} (h : RdC B v W W') (hv : W.ownsRow z 49 3 v n xs) (hs : B + 6 ≤ W.heap.size) : KpS (B + 3) W W' := by
  have hlow : ∀ k, k < z → k < W.heap.size → k ≠ B + 2 → W'.heap[k]? = W.heap[k]? := fun k hk hs hne => h.2 k hs (fun e => by have := (own_lt hv k e.symm).1; omega) hne
  exact ⟨hlow _ (by omega) (by omega) (by omega), hlow _ (by omega) (by omega) (by omega), hlow _ (by omega) (by omega) (by omega)⟩
theorem kps_put {B z : Nat} (hz : B + 6 ≤ z) (W : World) (l : Nat) (o o' : Obj) (hl : z ≤ l) (_ : W.heap[l]? = some o) (_ : o.isCells = false) (_ : o.isWalk = false) : KpS (B + 3) W (W.putObj l o') :=
  ⟨World.putObj_heap_other (by omega), World.putObj_heap_other (by omega), World.putObj_heap_other (by omega)⟩
theorem rdP_nil : rdP [] = none := rfl
theorem rdP_cons {c : UInt8} {r : List UInt8} : rdP (c :: r) = if 4 < r.length + 1 then none else if (cutM r).1 = [] then some ⟨Lib.indexByte letts c, 0, (cutM r).2⟩ else match Lib.atoi (cutM r).1 with | none => none | some n => some ⟨Lib.indexByte letts c, n, (cutM r).2⟩ := rfl
theorem rdI_bad {pre : List ByteArray} {ps : List Opr} {x : ByteArray} (_ : rdAll rdP (dataL pre) = some ps) (hx : rdP (clip x).data.toList = none) : rdAll rdP (dataL (pre ++ [x])) = none := by
  unfold dataL at *
  rw [List.map_append, List.map_singleton, rdAll_snoc, hx]
  split <;> rfl
theorem rdI_go {pre : List ByteArray} {ps : List Opr} {x : ByteArray} {o : Opr} (h : rdAll rdP (dataL pre) = some ps) (hx : rdP (clip x).data.toList = some o) : rdAll rdP (dataL (pre ++ [x])) = some (ps ++ [o]) := by
  unfold dataL at *
  rw [List.map_append, List.map_singleton, rdAll_snoc, h, hx]
theorem bk_ne {T : TypeId} {W : World} {b : Nat} {cs : Array Value} (h : Bk T W b cs) {k : Nat} {o : Obj} (hk : W.heap[k]? = some o) (ho : o.isCells = false) : k ≠ b := fun e => by
  subst e
  unfold Bk at h
  rw [hk] at h
  injection h with h
  rw [h] at ho
  cases ho
/-- a round that ends all -/
theorem rdX_mk {w : World} {B z : Nat} {pre : List ByteArray} {W W2 : World} (hbad : rdAll rdP (dataL pre) = none ∨ 4096 < pre.length) (h6 : Bk 27 W2 B #[.slice none 0 0]) (h7 : Bk 24 W2 (B + 1) #[.int .i64 0]) (h8 : Below B w W2) (hx : Below W.heap.size W W2) :
    KeepsFrom z W ((W2.setCell ⟨B, 0, none⟩ (.slice none 0 0)).setCell ⟨B + 1, 0, none⟩ (.int .i64 6)) ∧ RdX w B .ret pre ((W2.setCell ⟨B, 0, none⟩ (.slice none 0 0)).setCell ⟨B + 1, 0, none⟩ (.int .i64 6)) := by
  refine ⟨⟨by simpa using hx.size, fun k o _ hk ho => ?_⟩, rfl, hbad, ?_, ?_, ?_⟩
  · have hk2 : W2.heap[k]? = some o := (hx.block k (Array.getElem?_eq_some_iff.1 hk).1).trans hk
    have n1 := bk_ne h6 hk2 ho
    have n2 := bk_ne h7 hk2 ho
    exact (Below.heap_setCell _ _ _ _ n2).trans ((Below.heap_setCell _ _ _ _ n1).trans hk2)
  · exact (h6.set 0 _).set_ne (by omega) _
  · exact (h7.set_ne (by omega) _).set 0 _
  · exact (h8.setCell (p := ⟨B, 0, none⟩) (Nat.le_refl _) _).setCell (p := ⟨B + 1, 0, none⟩) (by show B ≤ B + 1; omega) _
/-- a round that goes on -/
theorem rd_next {w : World} {B z : Nat} {pre : List ByteArray} {x : ByteArray} {W W1 w6 : World} {v v6 : Value} {ps : List Opr} {o : Opr} (hz : B + 6 ≤ z) (h1 : rdAll rdP (dataL (pre ++ [x])) = some (ps ++ [o])) (hl : ps.length = pre.length) (hn : ps.length < 4096)
    (i4 : Bk 27 W (B + 2) #[v]) (i5 : Vo 49 z W v ps) (i6 : Bk 27 W B #[.slice none 0 0]) (i7 : Bk 24 W (B + 1) #[.int .i64 0]) (i8 : Below B w W) (i9 : z ≤ W.heap.size) (hx : Below W.heap.size W W1) (hg : W1.grownBy w6 v.ownBlock) (hv6 : w6.ownsRow z 49 3 v6 (ps.length + 1) (ps.flatMap Opr.cells ++ o.cells)) :
    KeepsFrom z W (w6.setCell ⟨B + 2, 0, none⟩ v6) ∧ KpS (B + 3) W (w6.setCell ⟨B + 2, 0, none⟩ v6) ∧ RdI w B z (pre ++ [x]) (w6.setCell ⟨B + 2, 0, none⟩ v6) := by
  have hc : RdC B v W (w6.setCell ⟨B + 2, 0, none⟩ v6) := ⟨by have := hx.size; have := hg.size; simp; omega, fun k hk hne hk2 => (Below.heap_setCell _ _ _ _ hk2).trans ((hg.block k (Nat.lt_of_lt_of_le hk hx.size) hne).trans (hx.block k hk))⟩
  have hb : ∀ {T : TypeId} {b : Nat} {cs : Array Value}, Bk T W b cs → 49 ≠ T → Bk T w6 b cs := fun h hT => (hg.block _ (Nat.lt_of_lt_of_le h.lt hx.size) (own_ne i5 h hT)).trans (h.ext hx)
  have j4 := hb i4 (by decide)
  have j6 := hb i6 (by decide)
  have j7 := hb i7 (by decide)
  refine ⟨hc.keeps i5 i4, hc.kps hz i5 (by omega), v6, ps ++ [o], h1, ?_, ?_, j4.set 0 v6, ?_, j6.set_ne (by omega) _, j7.set_ne (by omega) _, ?_, ?_⟩
  · rw [List.length_append, List.length_append, hl]; rfl
  · rw [List.length_append, ← hl]; simp; omega
  · have e : ps.flatMap Opr.cells ++ o.cells = (ps ++ [o]).flatMap Opr.cells := by rw [List.flatMap_append]; simp
    have e2 : (ps ++ [o]).length = ps.length + 1 := by simp
    unfold Vo
    rw [← e, e2]
    exact own_set hv6 (own_ne hv6 j4 (by decide))
  · exact ((i8.trans (hx.mono (by omega))).grown hg (by have := hx.size; omega) fun k e => by have := (own_lt i5 k e).1; omega).setCell (p := ⟨B + 2, 0, none⟩) (by show B ≤ B + 2; omega) _
  · have := hc.1; omega
theorem opwp_rnd {P : Program} {Q : Exit → Act → World → Prop} {l n : Nat} {o : Oper} {a : Act} {w : World} {K : Act → World → Prop} (hd : ∀ c, o.op ≠ .defer c) (h : o.wp P a w K Q) : o.wpIn (Fence.wide.inRound l) n P a w K Q := by
  refine ⟨fun _ _ => trivial, ?_⟩
  rw [Oper.semAt_eq _ _ _ hd]
  unfold Oper.wp at h
  generalize (execOp a.eval o).run P w = r at h
  cases r with
  | ok x w' =>
    cases x <;> simp only [Oper.upon, Oper.uponIn] at h ⊢ <;>
      first
        | exact h
        | exact ⟨fun hc => (by cases hc), CallsIn.inRound l (callsIn_wide.2 h)⟩
        | exact ⟨fun hc => (by cases hc), fun c cs _ => let ⟨v, w', r, s⟩ := h c cs; ⟨v, w', r, stepsIn_wide.2 s⟩⟩
        | exact h.elim
  | halt x w' => cases x <;> simp only [Oper.upon, Oper.uponIn] at h ⊢ <;> exact h
/-- the six boxes that Read makes -/
theorem rd_start (w : World) (s : ByteArray) : ∃ W6, W6 = (((((w.alloc (.cells #[.slice none 0 0] 27)).alloc (.cells #[.int .i64 0] 24)).alloc (.cells #[.slice none 0 0] 27)).alloc (.cells #[.string s] 9)).alloc (.cells #[.string ⟨#[32]⟩] 9)).alloc (.cells #[.int .i64 0] 3) ∧ W6.heap.size = w.heap.size + 6 ∧ Below w.heap.size w W6 ∧
    Bk 27 W6 w.heap.size #[.slice none 0 0] ∧ Bk 24 W6 (w.heap.size + 1) #[.int .i64 0] ∧ Bk 27 W6 (w.heap.size + 2) #[.slice none 0 0] ∧ Bk 9 W6 (w.heap.size + 3) #[.string s] ∧ Bk 9 W6 (w.heap.size + 4) #[.string ⟨#[32]⟩] ∧ Bk 3 W6 (w.heap.size + 5) #[.int .i64 0] := by
  obtain ⟨W1, h1⟩ : ∃ W1, W1 = w.alloc (.cells #[.slice none 0 0] 27) := ⟨_, rfl⟩
  obtain ⟨W2, h2⟩ : ∃ W2, W2 = W1.alloc (.cells #[.int .i64 0] 24) := ⟨_, rfl⟩
  obtain ⟨W3, h3⟩ : ∃ W3, W3 = W2.alloc (.cells #[.slice none 0 0] 27) := ⟨_, rfl⟩
  obtain ⟨W4, h4⟩ : ∃ W4, W4 = W3.alloc (.cells #[.string s] 9) := ⟨_, rfl⟩
  obtain ⟨W5, h5⟩ : ∃ W5, W5 = W4.alloc (.cells #[.string ⟨#[32]⟩] 9) := ⟨_, rfl⟩
  obtain ⟨W6, h6⟩ : ∃ W6, W6 = W5.alloc (.cells #[.int .i64 0] 3) := ⟨_, rfl⟩
  have s1 : W1.heap.size = w.heap.size + 1 := by rw [h1]; exact World.size_alloc _ _
  have s2 : W2.heap.size = w.heap.size + 2 := by rw [h2, World.size_alloc, s1]
  have s3 : W3.heap.size = w.heap.size + 3 := by rw [h3, World.size_alloc, s2]
  have s4 : W4.heap.size = w.heap.size + 4 := by rw [h4, World.size_alloc, s3]
  have s5 : W5.heap.size = w.heap.size + 5 := by rw [h5, World.size_alloc, s4]
  have s6 : W6.heap.size = w.heap.size + 6 := by rw [h6, World.size_alloc, s5]
  have b1 : Below w.heap.size w W1 := by rw [h1]; exact ext_alloc _ _
  have b2 : Below W1.heap.size W1 W2 := by rw [h2]; exact ext_alloc _ _
  have b3 : Below W2.heap.size W2 W3 := by rw [h3]; exact ext_alloc _ _
  have b4 : Below W3.heap.size W3 W4 := by rw [h4]; exact ext_alloc _ _
  have b5 : Below W4.heap.size W4 W5 := by rw [h5]; exact ext_alloc _ _
  have b6 : Below W5.heap.size W5 W6 := by rw [h6]; exact ext_alloc _ _
  have k1 : Bk 27 W1 w.heap.size #[.slice none 0 0] := by rw [h1]; exact Bk.new _ _ _
  have k2 : Bk 24 W2 (w.heap.size + 1) #[.int .i64 0] := by rw [h2, ← s1]; exact Bk.new _ _ _
  have k3 : Bk 27 W3 (w.heap.size + 2) #[.slice none 0 0] := by rw [h3, ← s2]; exact Bk.new _ _ _
  have k4 : Bk 9 W4 (w.heap.size + 3) #[.string s] := by rw [h4, ← s3]; exact Bk.new _ _ _
  have k5 : Bk 9 W5 (w.heap.size + 4) #[.string ⟨#[32]⟩] := by rw [h5, ← s4]; exact Bk.new _ _ _
  have k6 : Bk 3 W6 (w.heap.size + 5) #[.int .i64 0] := by rw [h6, ← s5]; exact Bk.new _ _ _
  refine ⟨W6, by rw [h6, h5, h4, h3, h2, h1], s6, ?_, ((((k1.ext b2).ext b3).ext b4).ext b5).ext b6, (((k2.ext b3).ext b4).ext b5).ext b6, ((k3.ext b4).ext b5).ext b6, (k4.ext b5).ext b6, k5.ext b6, k6⟩
  exact bext (bext (bext (bext (bext b1 b2 (by omega)) b3 (by omega)) b4 (by omega)) b5 (by omega)) b6 (by omega)
end Go.Proofs.YtfadkokdoehjnaaDoor
