/- Plain: the packed form of a skin, and what it is read back to. No conditions. -/
import Derived.Test.YtmgofdgbenfjmaaDoorSk
import Derived.Lib.ItoaNum
import Derived.Lib.Join
import Derived.Lib.Split
import Derived.Lib.SplitLaws
namespace Go.Proofs.YtmgofdgbenfjmaaDoor
open Go.Lib (decDigits)

/-- bytes as a string -/
def BS (l : List UInt8) : ByteArray := ⟨l.toArray⟩
theorem BS_list (l : List UInt8) : (BS l).data.toList = l := by simp [BS]
theorem BS_size (l : List UInt8) : (BS l).size = l.length := by simp [BS, ByteArray.size]
theorem BS_self (s : ByteArray) : BS s.data.toList = s := by simp [BS]
theorem BS_app (l m : List UInt8) : BS l ++ BS m = BS (l ++ m) := by
  apply ByteArray.ext
  rw [ByteArray.data_append]
  simp [BS]
theorem BS_inj {l m : List UInt8} (h : BS l = BS m) : l = m := by
  have := congrArg (fun s : ByteArray => s.data.toList) h
  simpa [BS_list] using this

theorem pd_small {n : Nat} (h : n < 10) : decDigits n = [UInt8.ofNat (48 + n)] := by rw [decDigits, dif_pos h]
theorem pd_big {n : Nat} (h : ¬ n < 10) : decDigits n = decDigits (n / 10) ++ [UInt8.ofNat (48 + n % 10)] := by rw [decDigits, dif_neg h]
theorem pd_of {k : Nat} (h : k < 10) : (UInt8.ofNat (48 + k)).toNat = 48 + k := by
  rw [UInt8.toNat_ofNat']; omega
theorem pd_len (n : Nat) : 1 ≤ n → (decDigits n).length ≤ n := by
  induction n using Nat.strongRecOn with
  | _ n ih =>
    intro h1
    by_cases h : n < 10
    · rw [pd_small h]; simpa using h1
    · rw [pd_big h, List.length_append]
      have := ih (n / 10) (by omega) (by omega)
      simp only [List.length_cons, List.length_nil]
      omega
theorem pd_len2 (n : Nat) (h2 : 2 ≤ n) : (decDigits n).length + 1 ≤ n := by
  by_cases h : n < 10
  · rw [pd_small h]; simpa using h2
  · rw [pd_big h, List.length_append]
    have := pd_len (n / 10) (by omega)
    simp only [List.length_cons, List.length_nil]
    omega
theorem pd_no (n : Nat) : (47 : UInt8) ∉ decDigits n := by
  induction n using Nat.strongRecOn with
  | _ n ih =>
    by_cases h : n < 10
    · rw [pd_small h]
      intro hm
      simp only [List.mem_singleton] at hm
      have := congrArg UInt8.toNat hm
      rw [pd_of h] at this
      have e : (47 : UInt8).toNat = 47 := rfl
      omega
    · rw [pd_big h]
      intro hm
      rcases List.mem_append.1 hm with hm | hm
      · exact ih (n / 10) (by omega) hm
      · simp only [List.mem_singleton] at hm
        have := congrArg UInt8.toNat hm
        rw [pd_of (show n % 10 < 10 by omega)] at this
        have e : (47 : UInt8).toNat = 47 := rfl
        omega
/-- the length of the run of x at the head -/
def runL (x : UInt8) : List UInt8 → Nat
  | [] => 0
  | y :: l => if y = x then runL x l + 1 else 0
theorem runL_le (x : UInt8) : ∀ l, runL x l ≤ l.length
  | [] => Nat.le_refl _
  | y :: l => by
    have := runL_le x l
    unfold runL
    split <;> simp only [List.length_cons] <;> omega
theorem runL_at {x : UInt8} : ∀ {l : List UInt8} {k : Nat}, k < runL x l → l[k]? = some x
  | [], k, h => by simp [runL] at h
  | y :: l, k, h => by
    unfold runL at h
    split at h
    · rename_i e
      cases k with
      | zero => simp [e]
      | succ k => rw [List.getElem?_cons_succ]; exact runL_at (by omega)
    · omega
theorem runL_stop {x : UInt8} : ∀ {l : List UInt8}, l[runL x l]? ≠ some x
  | [] => by simp
  | y :: l => by
    unfold runL
    split
    · rw [List.getElem?_cons_succ]; exact runL_stop
    · rename_i e; simpa using e
theorem runL_drop (x : UInt8) : ∀ l, List.replicate (runL x l) x ++ l.drop (runL x l) = l
  | [] => by simp [runL]
  | y :: l => by
    unfold runL
    split
    · rename_i e; subst e; rw [List.replicate_succ, List.drop_succ_cons, List.cons_append, runL_drop y l]
    · simp
theorem runL_trim (x : UInt8) : ∀ l : List UInt8, l.dropWhile (· == x) = l.drop (runL x l)
  | [] => by simp
  | y :: l => by
    rw [List.dropWhile_cons]
    unfold runL
    by_cases e : y = x
    · subst e; simp [runL_trim y l]
    · simp [e]
/-- one run -/
def runS (n : Nat) (x : UInt8) : List UInt8 := (if 1 < n then decDigits n else []) ++ [x + 49]
/-- run lengths -/
def rle : List UInt8 → List UInt8
  | [] => []
  | x :: l => runS (runL x l + 1) x ++ rle (l.drop (runL x l))
termination_by l => l.length
decreasing_by simp only [List.length_drop, List.length_cons]; omega
theorem rle_nil : rle [] = [] := by rw [rle]
theorem rle_cons (x : UInt8) (l : List UInt8) : rle (x :: l) = runS (runL x l + 1) x ++ rle (l.drop (runL x l)) := by rw [rle]
theorem runS_len (n : Nat) (x : UInt8) (h : 1 ≤ n) : (runS n x).length ≤ n := by
  unfold runS
  split
  · rename_i h2
    have := pd_len2 n h2
    simp only [List.length_append, List.length_cons, List.length_nil]
    omega
  · simpa using h
theorem rle_len (l : List UInt8) : (rle l).length ≤ l.length := by
  obtain ⟨n, hn⟩ : ∃ n, l.length ≤ n := ⟨_, Nat.le_refl _⟩
  induction n generalizing l with
  | zero =>
    have : l = [] := List.eq_nil_of_length_eq_zero (by omega)
    subst this; rw [rle_nil]; exact Nat.le_refl _
  | succ n ih =>
    cases l with
    | nil => rw [rle_nil]; exact Nat.le_refl _
    | cons x l =>
      have h1 := runL_le x l
      have h2 := runS_len (runL x l + 1) x (by omega)
      simp only [List.length_cons] at hn
      have h3 := ih (l.drop (runL x l)) (by rw [List.length_drop]; omega)
      rw [List.length_drop] at h3
      rw [rle_cons, List.length_append, List.length_cons]
      omega
theorem runS_no {n : Nat} {x : UInt8} (hx : x ∈ digs) : (47 : UInt8) ∉ runS n x := by
  intro hm
  have h1 : ∀ x ∈ digs, (47 : UInt8) ≠ x + 49 := by decide
  unfold runS at hm
  rcases List.mem_append.1 hm with hm | hm
  · split at hm
    · exact pd_no n hm
    · simp at hm
  · simp only [List.mem_singleton] at hm
    exact h1 x hx hm
theorem rle_no (l : List UInt8) (hl : ∀ x ∈ l, x ∈ digs) : (47 : UInt8) ∉ rle l := by
  obtain ⟨n, hn⟩ : ∃ n, l.length ≤ n := ⟨_, Nat.le_refl _⟩
  induction n generalizing l with
  | zero =>
    have : l = [] := List.eq_nil_of_length_eq_zero (by omega)
    subst this; rw [rle_nil]; simp
  | succ n ih =>
    cases l with
    | nil => rw [rle_nil]; simp
    | cons x l =>
      simp only [List.length_cons] at hn
      rw [rle_cons]
      intro hm
      rcases List.mem_append.1 hm with hm | hm
      · exact runS_no (hl x (by simp)) hm
      · exact ih _ (fun y hy => hl y (by simp [List.mem_of_mem_drop hy])) (by rw [List.length_drop]; omega) hm
/-- the rows packed -/
def rowsP (l : List ByteArray) : List (List UInt8) := l.map fun r => rle r.data.toList
/-- a skin packed -/
def packL (l : List ByteArray) : List UInt8 := Lib.join (rowsP l) [47]

/-! going on while it is well -/
def foldO {α : Type} (f : α → UInt8 → Option α) : α → List UInt8 → Option α
  | a, [] => some a
  | a, b :: l => match f a b with | none => none | some a' => foldO f a' l
theorem foldO_app {α : Type} (f : α → UInt8 → Option α) : ∀ (l m : List UInt8) (a : α), foldO f a (l ++ m) = match foldO f a l with | none => none | some a' => foldO f a' m
  | [], _, _ => rfl
  | b :: l, m, a => by
    rw [List.cons_append, foldO, foldO]
    cases f a b with
    | none => rfl
    | some a' => exact foldO_app f l m a'
theorem foldO_one {α : Type} (f : α → UInt8 → Option α) (a : α) (b : UInt8) : foldO f a [b] = f a b := by
  rw [foldO]; cases f a b <;> rfl

/-! the reference's reading -/
structure Rd where
  s : List (List UInt8)
  row : List UInt8
  n : Nat
def rdChk (st : Rd) : Option Rd := if 48 < st.row.length ∨ 48 < st.s.length then none else some st
def rdStep (st : Rd) (c : UInt8) : Option Rd :=
  if 48 ≤ c.toNat ∧ c.toNat ≤ 57 then rdChk ⟨st.s, st.row, min (10 * st.n + (c.toNat - 48)) 1000⟩
  else if 97 ≤ c.toNat ∧ c.toNat ≤ 106 then rdChk ⟨st.s, st.row ++ List.replicate (max st.n 1) (c - 49), 0⟩
  else if c = 47 then rdChk ⟨st.s ++ [st.row], [], st.n⟩ else none
theorem rdChk_ok {st : Rd} (h1 : st.row.length ≤ 48) (h2 : st.s.length ≤ 48) : rdChk st = some st := by
  unfold rdChk; rw [if_neg (by omega)]
theorem rd_digit {s row n k} (hk : k < 10) (hn : 10 * n + k ≤ 1000) (h1 : row.length ≤ 48) (h2 : s.length ≤ 48) : rdStep ⟨s, row, n⟩ (UInt8.ofNat (48 + k)) = some ⟨s, row, 10 * n + k⟩ := by
  unfold rdStep
  rw [pd_of hk, if_pos (by omega), rdChk_ok h1 h2]
  congr 2
  dsimp only
  omega
theorem rd_num {s row} (h1 : row.length ≤ 48) (h2 : s.length ≤ 48) (n : Nat) : n ≤ 100 → foldO rdStep ⟨s, row, 0⟩ (decDigits n) = some ⟨s, row, n⟩ := by
  induction n using Nat.strongRecOn with
  | _ n ih =>
    intro hn
    by_cases h : n < 10
    · rw [pd_small h, foldO_one, rd_digit h (by omega) h1 h2]; congr 2; omega
    · rw [pd_big h, foldO_app, ih (n / 10) (by omega) (by omega)]
      dsimp only
      rw [foldO_one, rd_digit (by omega) (by omega) h1 h2]; congr 2; omega
theorem rd_run {s row n x} (hx : x ∈ digs) (hn : 1 ≤ n) (h1 : row.length + n ≤ 48) (h2 : s.length ≤ 48) : foldO rdStep ⟨s, row, 0⟩ (runS n x) = some ⟨s, row ++ List.replicate n x, 0⟩ := by
  have hl : ∀ x ∈ digs, ¬ (48 ≤ (x + 49).toNat ∧ (x + 49).toNat ≤ 57) ∧ (97 ≤ (x + 49).toNat ∧ (x + 49).toNat ≤ 106) ∧ x + 49 - 49 = x := by decide
  obtain ⟨l1, l2, l3⟩ := hl x hx
  have hs : ∀ m, max m 1 = n → rdStep ⟨s, row, m⟩ (x + 49) = some ⟨s, row ++ List.replicate n x, 0⟩ := fun m hm => by
    unfold rdStep
    rw [if_neg l1, if_pos l2, l3]
    dsimp only
    rw [hm, rdChk_ok (by rw [List.length_append, List.length_replicate]; exact h1) h2]
  unfold runS
  rw [foldO_app]
  by_cases hn1 : 1 < n
  · rw [if_pos hn1, rd_num (by omega) h2 n (by omega)]
    dsimp only
    rw [foldO_one, hs n (by omega)]
  · rw [if_neg hn1, foldO]
    dsimp only
    rw [foldO_one, hs 0 (by omega)]
theorem rd_rle {s} (h2 : s.length ≤ 48) (l : List UInt8) : ∀ row, (∀ x ∈ l, x ∈ digs) → row.length + l.length ≤ 48 → foldO rdStep ⟨s, row, 0⟩ (rle l) = some ⟨s, row ++ l, 0⟩ := by
  obtain ⟨n, hn⟩ : ∃ n, l.length ≤ n := ⟨_, Nat.le_refl _⟩
  induction n generalizing l with
  | zero =>
    have : l = [] := List.eq_nil_of_length_eq_zero (by omega)
    subst this; intro row _ _; rw [rle_nil, List.append_nil]; rfl
  | succ n ih =>
    intro row hl hr
    cases l with
    | nil => rw [rle_nil, List.append_nil]; rfl
    | cons x l =>
      have h1 := runL_le x l
      simp only [List.length_cons] at hn hr
      rw [rle_cons, foldO_app, rd_run (hl x (by simp)) (by omega) (by omega) h2]
      dsimp only
      rw [ih _ (by rw [List.length_drop]; omega) _ (fun y hy => hl y (by simp [List.mem_of_mem_drop hy])) (by rw [List.length_append, List.length_replicate, List.length_drop]; omega)]
      rw [List.append_assoc, List.replicate_succ, List.cons_append, runL_drop]
/-- rows of a skin as bytes -/
def RowD (r : List UInt8) : Prop := r.length ≤ 48 ∧ ∀ x ∈ r, x ∈ digs
theorem rd_rows : ∀ (rs : List (List UInt8)) (r : List UInt8) (s : List (List UInt8)), (∀ q ∈ r :: rs, RowD q) → s.length + rs.length ≤ 48 → ∃ s1 r1, foldO rdStep ⟨s, [], 0⟩ (rle r ++ Lib.joinTail [47] (rs.map rle)) = some ⟨s1, r1, 0⟩ ∧ s1 ++ [r1] = s ++ r :: rs
  | [], r, s, h, hs => by
    have := h r (by simp)
    refine ⟨s, r, ?_, by simp⟩
    have e : Lib.joinTail [47] (([] : List (List UInt8)).map rle) = [] := rfl
    rw [e, List.append_nil, rd_rle (by simpa using hs) r [] this.2 (by simpa using this.1), List.nil_append]
  | q :: rs, r, s, h, hs => by
    have hr := h r (by simp)
    have hq := h q (by simp)
    simp only [List.length_cons] at hs
    obtain ⟨s1, r1, e1, e2⟩ := rd_rows rs q (s ++ [r]) (fun p hp => h p (by simp at hp ⊢; exact .inr hp)) (by simp only [List.length_append, List.length_cons, List.length_nil]; omega)
    refine ⟨s1, r1, ?_, by rw [e2]; simp⟩
    have e : Lib.joinTail [47] ((q :: rs).map rle) = 47 :: (rle q ++ Lib.joinTail [47] (rs.map rle)) := by simp [Lib.joinTail]
    rw [e, foldO_app, rd_rle (by omega) r [] hr.2 (by simpa using hr.1), List.nil_append]
    dsimp only
    rw [foldO]
    have e3 : rdStep ⟨s, r, 0⟩ 47 = some ⟨s ++ [r], [], 0⟩ := by
      unfold rdStep
      rw [if_neg (by decide), if_neg (by decide), if_pos rfl]
      exact rdChk_ok (by simp) (by simp only [List.length_append, List.length_cons, List.length_nil]; omega)
    rw [e3]
    exact e1
theorem sk_rows {l : List ByteArray} (h : SkOk l) : ∀ q ∈ l.map (·.data.toList), RowD q := by
  intro q hq
  obtain ⟨r, hr, rfl⟩ := List.mem_map.1 hq
  have := h.2.2.2.2 r hr
  refine ⟨?_, this.2⟩
  have h1 := this.1
  have h2 := h.2.2.2.1
  have e : r.data.toList.length = r.size := by rw [Array.length_toList]; rfl
  omega
theorem rowsP_map (l : List ByteArray) : rowsP l = (l.map (·.data.toList)).map rle := by unfold rowsP; simp
/-- what is packed is read back -/
theorem rd_pack {l : List ByteArray} (h : SkOk l) : ∃ s1 r1, foldO rdStep ⟨[], [], 0⟩ (packL l) = some ⟨s1, r1, 0⟩ ∧ s1 ++ [r1] = l.map (·.data.toList) := by
  have hr := sk_rows h
  have h1 := h.1
  have h2 := h.2.1
  unfold packL
  rw [rowsP_map]
  have hlen : (l.map (·.data.toList)).length = l.length := by simp
  generalize l.map (·.data.toList) = L at *
  cases L with
  | nil => simp at hlen; omega
  | cons r rs =>
    simp only [List.length_cons] at hlen
    rw [List.map_cons, Lib.join_cons]
    obtain ⟨s1, r1, e1, e2⟩ := rd_rows rs r [] hr (by simp; omega)
    exact ⟨s1, r1, e1, by simpa using e2⟩
theorem map_data_inj {l m : List ByteArray} (h : l.map (·.data.toList) = m.map (·.data.toList)) : l = m := by
  have hi : ∀ a b : ByteArray, a.data.toList = b.data.toList → a = b := fun a b e => by rw [← BS_self a, ← BS_self b, e]
  exact (List.map_inj_right hi).1 h
theorem pack_inj {l m : List ByteArray} (h : SkOk l) (h' : SkOk m) (he : packL l = packL m) : l = m := by
  obtain ⟨s1, r1, e1, e2⟩ := rd_pack h
  obtain ⟨s2, r2, e3, e4⟩ := rd_pack h'
  rw [he, e3] at e1
  injection e1 with e1
  injection e1 with e5 e6
  subst e5; subst e6
  exact map_data_inj (e2.symm.trans e4)

/-! the program's reading of a row -/
def pdStep (st : List UInt8 × Nat) (c : UInt8) : Option (List UInt8 × Nat) :=
  if 48 ≤ c.toNat ∧ c.toNat ≤ 57 ∧ st.2 ≤ 48 then some (st.1, 10 * st.2 + (c.toNat - 48))
  else if 97 ≤ c.toNat ∧ c.toNat ≤ 106 ∧ st.2 ≤ 48 then some (st.1 ++ List.replicate (max st.2 1) (c - 49), 0)
  else none
theorem pdr_digit {row n k} (hk : k < 10) (hn : n ≤ 48) : pdStep (row, n) (UInt8.ofNat (48 + k)) = some (row, 10 * n + k) := by
  unfold pdStep
  rw [pd_of hk, if_pos ⟨by omega, by omega, hn⟩]
  dsimp only
  congr 2
  omega
theorem pdr_num {row} (n : Nat) : n ≤ 100 → foldO pdStep (row, 0) (decDigits n) = some (row, n) := by
  induction n using Nat.strongRecOn with
  | _ n ih =>
    intro hn
    by_cases h : n < 10
    · rw [pd_small h, foldO_one, pdr_digit h (by omega)]; congr 2; omega
    · rw [pd_big h, foldO_app, ih (n / 10) (by omega) (by omega)]
      dsimp only
      rw [foldO_one, pdr_digit (by omega) (by omega)]; congr 2; omega
theorem pdr_run {row n x} (hx : x ∈ digs) (hn : 1 ≤ n) (h48 : n ≤ 48) : foldO pdStep (row, 0) (runS n x) = some (row ++ List.replicate n x, 0) := by
  have hl : ∀ x ∈ digs, ¬ (48 ≤ (x + 49).toNat ∧ (x + 49).toNat ≤ 57) ∧ (97 ≤ (x + 49).toNat ∧ (x + 49).toNat ≤ 106) ∧ x + 49 - 49 = x := by decide
  obtain ⟨l1, l2, l3⟩ := hl x hx
  have hs : ∀ m, max m 1 = n → pdStep (row, m) (x + 49) = some (row ++ List.replicate n x, 0) := fun m hm => by
    unfold pdStep
    rw [if_neg (fun h => l1 ⟨h.1, h.2.1⟩), if_pos ⟨l2.1, l2.2, by dsimp only; omega⟩, l3]
    dsimp only
    rw [hm]
  unfold runS
  rw [foldO_app]
  by_cases hn1 : 1 < n
  · rw [if_pos hn1, pdr_num n (by omega)]
    dsimp only
    rw [foldO_one, hs n (by omega)]
  · rw [if_neg hn1, foldO]
    dsimp only
    rw [foldO_one, hs 0 (by omega)]
theorem pdr_rle (l : List UInt8) : ∀ row, RowD l → foldO pdStep (row, 0) (rle l) = some (row ++ l, 0) := by
  obtain ⟨n, hn⟩ : ∃ n, l.length ≤ n := ⟨_, Nat.le_refl _⟩
  induction n generalizing l with
  | zero =>
    have : l = [] := List.eq_nil_of_length_eq_zero (by omega)
    subst this; intro row _; rw [rle_nil, List.append_nil]; rfl
  | succ n ih =>
    intro row hl
    cases l with
    | nil => rw [rle_nil, List.append_nil]; rfl
    | cons x l =>
      have h1 := runL_le x l
      have h2 := hl.1
      simp only [List.length_cons] at hn h2
      rw [rle_cons, foldO_app, pdr_run (hl.2 x (by simp)) (by omega) (by omega)]
      dsimp only
      rw [ih _ (by rw [List.length_drop]; omega) _ ⟨by rw [List.length_drop]; omega, fun y hy => hl.2 y (by simp [List.mem_of_mem_drop hy])⟩]
      rw [List.append_assoc, List.replicate_succ, List.cons_append, runL_drop]
/-- all rows read -/
def pdRows : List (List UInt8) → Option (List (List UInt8))
  | [] => some []
  | t :: ts => match foldO pdStep ([], 0) t with | none => none | some st => match pdRows ts with | none => none | some l => some (st.1 :: l)
theorem pdRows_rle : ∀ rs : List (List UInt8), (∀ q ∈ rs, RowD q) → pdRows (rs.map rle) = some rs
  | [], _ => rfl
  | r :: rs, h => by
    rw [List.map_cons, pdRows, pdr_rle r [] (h r (by simp)), pdRows_rle rs (fun q hq => h q (by simp [hq]))]
    simp

/-! splitting at a slash -/
theorem ix_cons (b c : UInt8) (l : List UInt8) (h : b ≠ c) : Lib.index (b :: l) [c] = if Lib.index l [c] == -1 then -1 else Lib.index l [c] + 1 := by
  have hp : ([c] : List UInt8).isPrefixOf (b :: l) = false := by simp [List.isPrefixOf, Ne.symm h]
  rw [Lib.index, hp]; simp
theorem ix_hit {c : UInt8} (m : List UInt8) : ∀ {a : List UInt8}, c ∉ a → Lib.index (a ++ c :: m) [c] = (a.length : Nat)
  | [], _ => by rw [List.nil_append, Lib.index]; simp [List.isPrefixOf]
  | b :: a, h => by
    have hb : b ≠ c := fun e => h (by simp [e])
    rw [List.cons_append, ix_cons _ _ _ hb, ix_hit m (fun hm => h (by simp [hm]))]
    rw [if_neg (by simp)]
    simp
theorem ix_miss {c : UInt8} : ∀ {a : List UInt8}, c ∉ a → Lib.index a [c] = -1
  | [], _ => by simp [Lib.index]
  | b :: a, h => by
    have hb : b ≠ c := fun e => h (by simp [e])
    rw [ix_cons _ _ _ hb, ix_miss (fun hm => h (by simp [hm]))]
    rfl
theorem split_miss {c : UInt8} {a : List UInt8} (h : c ∉ a) : Lib.split a [c] = [a] := by
  unfold Lib.split
  rw [Lib.count_miss (ix_miss h)]
  rfl
theorem split_hit {c : UInt8} {a m : List UInt8} (h : c ∉ a) : Lib.split (a ++ c :: m) [c] = a :: Lib.split m [c] := by
  have hx := ix_hit m h
  have hd : (a ++ c :: m).drop (a.length + 1) = m := by
    rw [List.drop_append]; simp
  unfold Lib.split
  rw [Lib.count_hit (by simp) hx]
  have e : ([c] : List UInt8).length = 1 := rfl
  rw [e, hd, Nat.add_comm 1, Lib.splitK, hx, if_neg (by simp)]
  rw [e]
  simp only [Int.toNat_natCast, Nat.add_zero]
  rw [hd, List.take_left']
  rfl
theorem split_join {c : UInt8} : ∀ (rs : List (List UInt8)) (r : List UInt8), (∀ q ∈ r :: rs, c ∉ q) → Lib.split (r ++ Lib.joinTail [c] rs) [c] = r :: rs
  | [], r, h => by
    have e : Lib.joinTail [c] [] = [] := rfl
    rw [e, List.append_nil]; exact split_miss (h r (by simp))
  | q :: rs, r, h => by
    have e : Lib.joinTail [c] (q :: rs) = c :: (q ++ Lib.joinTail [c] rs) := by simp [Lib.joinTail]
    rw [e, split_hit (h r (by simp)), split_join rs q (fun p hp => h p (by simp at hp ⊢; exact .inr hp))]
theorem pd_pack {l : List ByteArray} (h : SkOk l) : pdRows (Lib.split (packL l) [47]) = some (l.map (·.data.toList)) := by
  have hr := sk_rows h
  have h1 := h.1
  unfold packL
  rw [rowsP_map]
  have hlen : (l.map (·.data.toList)).length = l.length := by simp
  generalize l.map (·.data.toList) = L at *
  cases L with
  | nil => simp at hlen; omega
  | cons r rs =>
    rw [List.map_cons, Lib.join_cons, split_join, ← List.map_cons, pdRows_rle _ hr]
    intro q hq
    rw [← List.map_cons] at hq
    obtain ⟨p, hp, rfl⟩ := List.mem_map.1 hq
    exact rle_no p (hr p hp).2
/-- the packed form is short -/
theorem pack_len {l : List ByteArray} (h : SkOk l) : (packL l).length ≤ 2352 := by
  have hr := sk_rows h
  have h1 := h.1
  have h2 := h.2.1
  have hl : Lib.lens (rowsP l) ≤ 48 * l.length := by
    rw [rowsP_map]
    have hlen : (l.map (·.data.toList)).length = l.length := by simp
    rw [← hlen]
    generalize l.map (·.data.toList) = L at *
    clear hlen
    unfold Lib.lens
    induction L with
    | nil => simp
    | cons r rs ih =>
      have h3 := (hr r (by simp)).1
      have h4 := rle_len r
      have h5 := ih (fun q hq => hr q (by simp [hq]))
      simp only [List.map_cons, List.sum_cons, List.length_cons]
      omega
  unfold packL
  have hlen : (rowsP l).length = l.length := by unfold rowsP; simp
  cases hR : rowsP l with
  | nil => rw [Lib.join_nil]; simp
  | cons r rs =>
    rw [hR] at hl hlen
    rw [Lib.join_length]
    simp only [List.length_cons, List.length_nil] at hlen ⊢
    omega
end Go.Proofs.YtmgofdgbenfjmaaDoor
