/- Plain words for flood, part and Parts: what the program computes. No conditions. -/
import Derived.Test.YtmgofdgbenfjmaaDoorMp
namespace Go.Proofs.YtmgofdgbenfjmaaDoor

/-- one neighbour looked at: marked cells, listed cells -/
def flStep (is : Cel → Bool) (st : List Cel × List Cel) (c : Cel) : List Cel × List Cel :=
  if c ∈ st.1 then st else if is c then (st.1 ++ [c], st.2 ++ [c]) else st
/-- flood from the i-th listed cell on, n at most -/
def flGo (next : Cel → List Cel) (is : Cel → Bool) : Nat → Nat → List Cel × List Cel → List Cel × List Cel
  | 0, _, st => st
  | n + 1, i, st => if h : i < st.2.length then flGo next is n (i + 1) ((next st.2[i]).foldl (flStep is) st) else st
/-- the whole flood -/
def fld (next : Cel → List Cel) (is : Cel → Bool) (n : Nat) (S : List Cel) (c : Cel) : List Cel × List Cel := flGo next is n 0 (S ++ [c], [c])
theorem flGo_end (next : Cel → List Cel) (is : Cel → Bool) (n i : Nat) (st : List Cel × List Cel) (h : st.2.length ≤ i) : flGo next is n i st = st := by
  cases n with
  | zero => rfl
  | succ n => unfold flGo; rw [dif_neg (by omega)]
theorem flGo_step (next : Cel → List Cel) (is : Cel → Bool) (n i : Nat) (st : List Cel × List Cel) (h : i < st.2.length) : flGo next is (n + 1) i st = flGo next is n (i + 1) ((next st.2[i]).foldl (flStep is) st) := by
  rw [flGo, dif_pos h]
/-- a list without a double fits into what holds it -/
theorem nodup_len {α : Type} [DecidableEq α] : ∀ (l m : List α), l.Nodup → (∀ x ∈ l, x ∈ m) → l.length ≤ m.length
  | [], m, _, _ => Nat.zero_le _
  | x :: l, m, hn, hs => by
    obtain ⟨h1, h2⟩ := List.nodup_cons.1 hn
    have hx : x ∈ m := hs x (by simp)
    have h3 := nodup_len l (m.erase x) h2 (fun y hy => (List.mem_erase_of_ne (fun e => h1 (by rw [← e]; exact hy))).2 (hs y (by simp [hy])))
    rw [List.length_erase_of_mem hx] at h3
    have : 0 < m.length := List.length_pos_of_mem hx
    simp only [List.length_cons]; omega
/-- what a flood keeps: the list is marked, without a double, and lies in U -/
def FlI (U : List Cel) (st : List Cel × List Cel) : Prop := (∀ c ∈ st.2, c ∈ st.1) ∧ st.2.Nodup ∧ (∀ c ∈ st.2, c ∈ U)
theorem FlI.len {U : List Cel} {st : List Cel × List Cel} (h : FlI U st) : st.2.length ≤ U.length := nodup_len _ _ h.2.1 h.2.2
theorem FlI.step {U : List Cel} {is : Cel → Bool} {st : List Cel × List Cel} (h : FlI U st) (hU : ∀ c, is c = true → c ∈ U) (c : Cel) : FlI U (flStep is st c) := by
  obtain ⟨h1, h2, h3⟩ := h
  unfold flStep
  split
  · exact ⟨h1, h2, h3⟩
  · rename_i hm
    split
    · rename_i hi
      refine ⟨fun x hx => ?_, ?_, fun x hx => ?_⟩
      · show x ∈ st.1 ++ [c]
        have hx : x ∈ st.2 ++ [c] := hx
        rcases List.mem_append.1 hx with hx | hx
        · exact List.mem_append.2 (.inl (h1 x hx))
        · exact List.mem_append.2 (.inr hx)
      · show (st.2 ++ [c]).Nodup
        rw [List.nodup_append]
        exact ⟨h2, by simp, fun a ha b hb e => by simp at hb; subst hb; subst e; exact hm (h1 a ha)⟩
      · have hx : x ∈ st.2 ++ [c] := hx
        rcases List.mem_append.1 hx with hx | hx
        · exact h3 x hx
        · simp at hx; subst hx; exact hU _ hi
    · exact ⟨h1, h2, h3⟩
theorem FlI.steps {U : List Cel} {is : Cel → Bool} (hU : ∀ c, is c = true → c ∈ U) : ∀ (cs : List Cel) {st : List Cel × List Cel}, FlI U st → FlI U (cs.foldl (flStep is) st)
  | [], _, h => h
  | c :: cs, _, h => FlI.steps hU cs (h.step hU c)
theorem FlI.go {U : List Cel} {next : Cel → List Cel} {is : Cel → Bool} (hU : ∀ c, is c = true → c ∈ U) : ∀ (n i : Nat) {st : List Cel × List Cel}, FlI U st → FlI U (flGo next is n i st)
  | 0, _, _, h => h
  | n + 1, i, st, h => by
    unfold flGo
    split
    · exact FlI.go hU n (i + 1) (FlI.steps hU _ h)
    · exact h
theorem flStep_len (is : Cel → Bool) (st : List Cel × List Cel) (c : Cel) : st.2.length ≤ (flStep is st c).2.length := by
  unfold flStep
  split
  · exact Nat.le_refl _
  · split
    · simp
    · exact Nat.le_refl _
theorem flSteps_len (is : Cel → Bool) : ∀ (cs : List Cel) (st : List Cel × List Cel), st.2.length ≤ (cs.foldl (flStep is) st).2.length
  | [], _ => Nat.le_refl _
  | c :: cs, st => Nat.le_trans (flStep_len is st c) (flSteps_len is cs _)
/-- the four neighbours -/
def sidesL (c : Cel) : List Cel := [(c.1, c.2 - 1), (c.1 - 1, c.2), (c.1 + 1, c.2), (c.1, c.2 + 1)]
/-- the eight cells around one -/
def nearL (c : Cel) : List Cel := [(c.1 - 1, c.2 - 1), (c.1, c.2 - 1), (c.1 + 1, c.2 - 1), (c.1 - 1, c.2), (c.1 + 1, c.2), (c.1 - 1, c.2 + 1), (c.1, c.2 + 1), (c.1 + 1, c.2 + 1)]
/-- a box: x0, y0, x1, y1 -/
structure Bx where
  x0 : Int
  y0 : Int
  x1 : Int
  y1 : Int
deriving DecidableEq
def Bx.no : Bx := ⟨48, 48, -1, -1⟩
def Bx.with_ (b : Bx) (c : Cel) : Bx := ⟨min b.x0 c.1, min b.y0 c.2, max b.x1 c.1, max b.y1 c.2⟩
def boxL (l : List Cel) : Bx := l.foldl Bx.with_ Bx.no
/-- how many neighbours of the cells are not cells -/
def edgeL (l : List Cel) : Nat := (l.map fun c => ((sidesL c).filter fun d => decide (d ∉ l)).length).sum
def freeL (l : List Cel) (b : Bx) (c : Cel) : Bool := decide (c ∉ l) && decide (b.x0 - 1 ≤ c.1) && decide (c.1 ≤ b.x1 + 1) && decide (b.y0 - 1 ≤ c.2) && decide (c.2 ≤ b.y1 + 1)
/-- one cell of the box: marked cells, holes -/
def holeStep (l : List Cel) (b : Bx) (n : Nat) (st : List Cel × Nat) (c : Cel) : List Cel × Nat :=
  if c ∈ l ∨ c ∈ st.1 then st else ((fld nearL (freeL l b) n st.1 c).1, st.2 + 1)
/-- the cells of a box, row by row -/
def rowL (x0 : Int) (n : Nat) (y : Int) : List Cel := (List.range n).map fun (i : Nat) => (x0 + (i : Int), y)
def boxCells (b : Bx) : List Cel := (List.range (b.y1 + 1 - b.y0).toNat).flatMap fun (j : Nat) => rowL b.x0 (b.x1 + 1 - b.x0).toNat (b.y0 + (j : Int))
def holesL (l : List Cel) (b : Bx) (n : Nat) : Nat := ((boxCells b).foldl (holeStep l b n) ((fld nearL (freeL l b) n [] (b.x0 - 1, b.y0 - 1)).1, 0)).2
/-- a part: its cells, its edge, its holes, its box -/
structure Prt where
  n : Nat
  e : Nat
  h : Nat
  b : Bx
deriving DecidableEq
def partL (l : List Cel) (n : Nat) : Prt := ⟨l.length, edgeL l, holesL l (boxL l) n, boxL l⟩
/-- one cell of the skin: marked cells, parts -/
def partStep (us : Cel → Bool) (n : Nat) (st : List Cel × List Prt) (c : Cel) : List Cel × List Prt :=
  if us c then (if c ∈ st.1 then st else ((fld sidesL us n st.1 c).1, st.2 ++ [partL (fld sidesL us n st.1 c).2 n])) else st
def partsL (us : Cel → Bool) (w h n : Nat) : List Prt := ((boxCells ⟨0, 0, (w : Int) - 1, (h : Int) - 1⟩).foldl (partStep us n) ([], [])).2
end Go.Proofs.YtmgofdgbenfjmaaDoor
