/- Plain: a program as a string, and what it is read back to. No conditions. -/
import Derived.Test.YtfadkokdoehjnaaDoorOpm
import Derived.Lib.ItoaNum
import Derived.Lib.Atoi
import Derived.Lib.Join
import Derived.Lib.Split
import Derived.Lib.SplitLaws
namespace Go.Proofs.YtfadkokdoehjnaaDoor
open Go.Lib (decDigits)

/-- bytes as a string -/
def BS (l : List UInt8) : ByteArray := ⟨l.toArray⟩
theorem BS_list (l : List UInt8) : (BS l).data.toList = l := by simp [BS]
theorem BS_size (l : List UInt8) : (BS l).size = l.length := by simp [BS, ByteArray.size]
theorem BS_self (s : ByteArray) : BS s.data.toList = s := by simp [BS]
theorem BS_app (l m : List UInt8) : BS l ++ BS m = BS (l ++ m) := by
  apply ByteArray.ext
  rw [ByteArray.data_append]
  simp [BS]
theorem BS_inj {l m : List UInt8} (h : BS l = BS m) : l = m := by
  have := congrArg (fun s : ByteArray => s.data.toList) h
  simpa [BS_list] using this
theorem extract_BS (l : List UInt8) (a b : Nat) : (BS l).extract a b = BS ((l.drop a).take (b - a)) := by
  apply ByteArray.ext
  apply Array.ext'
  simp [BS]
theorem len_size (r : ByteArray) : r.data.toList.length = r.size := by rw [Array.length_toList]; rfl
theorem toList_inj {a b : ByteArray} (h : a.toList = b.toList) : a = b := by
  rw [ByteArray.toList_eq, ByteArray.toList_eq] at h
  rw [← BS_self a, ← BS_self b, h]

theorem pd_small {n : Nat} (h : n < 10) : decDigits n = [UInt8.ofNat (48 + n)] := by rw [decDigits, dif_pos h]
theorem pd_big {n : Nat} (h : ¬ n < 10) : decDigits n = decDigits (n / 10) ++ [UInt8.ofNat (48 + n % 10)] := by rw [decDigits, dif_neg h]
/-- letters -/
def letts : List UInt8 := [116, 103, 108, 115, 99, 114]
def lett (c : Int) : UInt8 := letts.getD c.toNat 0
/-- an op's number as digits -/
def numT (o : Opr) : List UInt8 := if o.c = 2 ∨ o.c = 4 then [] else decDigits o.g.toNat
/-- an op as a word -/
def txtO (o : Opr) : List UInt8 := lett o.c :: (numT o ++ if o.b then [45] else [])
/-- a program as a string -/
def txtL (l : List Opr) : List UInt8 := Lib.join (l.map txtO) [32]
theorem isD10 : ∀ n < 100, (decDigits n).length ≤ 2 ∧ decDigits n ≠ [] ∧ ∀ x ∈ decDigits n, 48 ≤ x.toNat ∧ x.toNat ≤ 57 := by
  intro n hn
  have ho : ∀ k < 10, (UInt8.ofNat (48 + k)).toNat = 48 + k := fun k hk => by rw [UInt8.toNat_ofNat']; omega
  by_cases h : n < 10
  · rw [pd_small h]
    refine ⟨by simp, by simp, fun x hx => ?_⟩
    simp only [List.mem_singleton] at hx
    rw [hx, ho n h]; omega
  · rw [pd_big h, pd_small (show n / 10 < 10 by omega)]
    refine ⟨by simp, by simp, fun x hx => ?_⟩
    simp only [List.mem_append, List.mem_singleton] at hx
    rcases hx with hx | hx
    · rw [hx, ho _ (by omega)]; omega
    · rw [hx, ho _ (by omega)]; omega
theorem op_g {o : Opr} (h : OpOk o) : 0 ≤ o.g ∧ o.g.toNat < 100 ∧ ((o.c = 2 ∨ o.c = 4) → o.g = 0) := by
  obtain ⟨h1, h2, h3, h4, h5⟩ := h
  unfold most at h4
  refine ⟨h3, ?_, fun h => ?_⟩
  · split at h4
    · omega
    · split at h4
      · omega
      · split at h4
        · omega
        · split at h4 <;> omega
  · rcases h with h | h <;> rw [h] at h4 <;> simp at h4 <;> omega
theorem numT_ok {o : Opr} (h : OpOk o) : (numT o).length ≤ 2 ∧ ∀ x ∈ numT o, 48 ≤ x.toNat ∧ x.toNat ≤ 57 := by
  unfold numT
  split
  · simp
  · have := isD10 o.g.toNat (op_g h).2.1
    exact ⟨this.1, this.2.2⟩
theorem lett_ok {o : Opr} (h : OpOk o) : lett o.c ∈ letts ∧ letts[o.c.toNat]? = some (lett o.c) := by
  obtain ⟨h1, h2, _⟩ := h
  have h3 : o.c.toNat < letts.length := by simp [letts]; omega
  unfold lett
  rw [List.getD_eq_getElem?_getD, List.getElem?_eq_getElem h3]
  exact ⟨List.getElem_mem h3, rfl⟩
theorem txtO_len {o : Opr} (h : OpOk o) : (txtO o).length ≤ 4 := by
  have := (numT_ok h).1
  unfold txtO
  rw [List.length_cons, List.length_append]
  split <;> simp <;> omega
theorem txtO_no {o : Opr} (h : OpOk o) : (32 : UInt8) ∉ txtO o := by
  intro hm
  unfold txtO at hm
  have h1 := (lett_ok h).1
  rcases List.mem_cons.1 hm with hm | hm
  · rw [← hm] at h1; revert h1; decide
  · rcases List.mem_append.1 hm with hm | hm
    · have := (numT_ok h).2 _ hm
      revert this; decide
    · split at hm
      · simp at hm
      · simp at hm
/-- the rest of a word without its minus sign -/
def cutM (l : List UInt8) : List UInt8 × Bool := if l.getLast? = some 45 then (l.dropLast, true) else (l, false)
theorem cutM_on (l : List UInt8) : cutM (l ++ [45]) = (l, true) := by unfold cutM; simp
theorem cutM_off {l : List UInt8} (h : l.getLast? ≠ some 45) : cutM l = (l, false) := by unfold cutM; rw [if_neg h]
theorem num_last {o : Opr} (h : OpOk o) : (numT o).getLast? ≠ some 45 := fun e => by
  have := (numT_ok h).2 45 (List.mem_of_getLast? e)
  revert this; decide
/-- a word less its letter, cut -/
theorem cut_num {o : Opr} (h : OpOk o) : cutM (numT o ++ if o.b then [45] else []) = (numT o, o.b) := by
  cases hb : o.b with
  | true => exact cutM_on _
  | false =>
    show cutM (numT o ++ []) = _
    rw [List.append_nil]
    exact cutM_off (num_last h)
theorem cut_word {o : Opr} (h : OpOk o) : cutM (txtO o) = (lett o.c :: numT o, o.b) := by
  unfold txtO
  cases hb : o.b with
  | true =>
    show cutM (lett o.c :: (numT o ++ [45])) = _
    rw [← List.cons_append]
    exact cutM_on _
  | false =>
    show cutM (lett o.c :: (numT o ++ [])) = _
    rw [List.append_nil]
    refine cutM_off ?_
    cases hn : numT o with
    | nil =>
      have h1 := (lett_ok h).1
      intro e
      simp at e
      rw [e] at h1
      revert h1; decide
    | cons x t =>
      rw [List.getLast?_cons_cons, ← hn]
      exact num_last h

/-! going on while it is well -/
def foldO {α : Type} (f : α → UInt8 → Option α) : α → List UInt8 → Option α
  | a, [] => some a
  | a, b :: l => match f a b with | none => none | some a' => foldO f a' l
theorem foldO_app {α : Type} (f : α → UInt8 → Option α) : ∀ (l m : List UInt8) (a : α), foldO f a (l ++ m) = match foldO f a l with | none => none | some a' => foldO f a' m
  | [], _, _ => rfl
  | b :: l, m, a => by
    rw [List.cons_append, foldO, foldO]
    cases f a b with
    | none => rfl
    | some a' => exact foldO_app f l m a'
theorem foldO_one {α : Type} (f : α → UInt8 → Option α) (a : α) (b : UInt8) : foldO f a [b] = f a b := by
  rw [foldO]; cases f a b <;> rfl
def FoI {α : Type} (f : α → UInt8 → Option α) (F : Option α) (a : α) (l : List UInt8) : Prop := F = foldO f a l
/-- a digit more -/
def digO (n : Nat) (c : UInt8) : Option Nat := if 48 ≤ c.toNat ∧ c.toNat ≤ 57 then some (10 * n + (c.toNat - 48)) else none
theorem digO_of {n k : Nat} (hk : k < 10) : digO n (UInt8.ofNat (48 + k)) = some (10 * n + k) := by
  have ho : (UInt8.ofNat (48 + k)).toNat = 48 + k := by rw [UInt8.toNat_ofNat']; omega
  unfold digO
  rw [ho, if_pos (by omega)]
  congr 1; omega
theorem dig_dec (n : Nat) : foldO digO 0 (decDigits n) = some n := by
  induction n using Nat.strongRecOn with
  | _ n ih =>
    by_cases h : n < 10
    · rw [pd_small h, foldO_one, digO_of h]; congr 1; omega
    · rw [pd_big h, foldO_app, ih (n / 10) (by omega)]
      dsimp only
      rw [foldO_one, digO_of (by omega)]; congr 1; omega
/-- the reference reads a word -/
def rdR (w : List UInt8) : Option Opr := match (cutM w).1 with
  | [] => none
  | c :: ds => if Lib.indexByte letts c < 0 ∨ 3 < ds.length + 1 then none else match foldO digO 0 ds with | none => none | some n => some ⟨Lib.indexByte letts c, n, (cutM w).2⟩
theorem ix_lett {o : Opr} (h : OpOk o) : Lib.indexByte letts (lett o.c) = o.c := by
  obtain ⟨h1, h2, _⟩ := h
  have h3 : o.c = 0 ∨ o.c = 1 ∨ o.c = 2 ∨ o.c = 3 ∨ o.c = 4 ∨ o.c = 5 := by omega
  rcases h3 with h3 | h3 | h3 | h3 | h3 | h3 <;> rw [h3] <;> decide
theorem rdR_ok {o : Opr} (h : OpOk o) : rdR (txtO o) = some o := by
  have h1 := (numT_ok h).1
  have h2 := op_g h
  have h0 := h.1
  unfold rdR
  rw [cut_word h]
  dsimp only
  rw [ix_lett h, if_neg (by omega)]
  have e : foldO digO 0 (numT o) = some o.g.toNat := by
    unfold numT
    split
    · rename_i hc
      rw [h2.2.2 hc]; rfl
    · exact dig_dec _
  rw [e]
  dsimp only
  rw [Int.toNat_of_nonneg h2.1]
/-- the program reads a word -/
def rdP (w : List UInt8) : Option Opr := match w with
  | [] => none
  | c :: r => if 4 < r.length + 1 then none else if (cutM r).1 = [] then some ⟨Lib.indexByte letts c, 0, (cutM r).2⟩ else match Lib.atoi (cutM r).1 with | none => none | some n => some ⟨Lib.indexByte letts c, n, (cutM r).2⟩
theorem rdP_ok {o : Opr} (h : OpOk o) (ha : ∀ n, n < 100 → Lib.atoi (decDigits n) = some (n : Int)) : rdP (txtO o) = some o := by
  have h1 := txtO_len h
  have h2 := op_g h
  unfold txtO at h1 ⊢
  rw [List.length_cons] at h1
  unfold rdP
  dsimp only
  rw [if_neg (by omega), cut_num h, ix_lett h]
  dsimp only
  by_cases hc : o.c = 2 ∨ o.c = 4
  · have hn : numT o = [] := by unfold numT; rw [if_pos hc]
    rw [if_pos hn, ← h2.2.2 hc]
  · have hn : numT o = decDigits o.g.toNat := by unfold numT; rw [if_neg hc]
    rw [hn, if_neg (isD10 _ h2.2.1).2.1, ha _ h2.2.1]
    dsimp only
    rw [Int.toNat_of_nonneg h2.1]
theorem atoi_dec : ∀ n, n < 100 → Lib.atoi (decDigits n) = some (n : Int) := by
  have h1 : ∀ a < 10, Lib.atoi [UInt8.ofNat (48 + a)] = some (a : Int) := by decide
  have h2 : ∀ a < 10, ∀ b < 10, Lib.atoi [UInt8.ofNat (48 + a), UInt8.ofNat (48 + b)] = some ((10 * a + b : Nat) : Int) := by decide
  intro n hn
  by_cases h : n < 10
  · rw [pd_small h]; exact h1 n h
  · rw [pd_big h, pd_small (show n / 10 < 10 by omega)]
    have := h2 (n / 10) (by omega) (n % 10) (by omega)
    rw [show 10 * (n / 10) + n % 10 = n by omega] at this
    exact this
/-- all words read -/
def rdAll (f : List UInt8 → Option Opr) : List (List UInt8) → Option (List Opr)
  | [] => some []
  | t :: ts => match f t with | none => none | some o => match rdAll f ts with | none => none | some l => some (o :: l)
theorem rdAll_ok {f : List UInt8 → Option Opr} (hf : ∀ o, OpOk o → f (txtO o) = some o) : ∀ l : List Opr, PrOk l → rdAll f (l.map txtO) = some l
  | [], _ => rfl
  | o :: l, h => by
    rw [List.map_cons, rdAll, hf o (h o (by simp)), rdAll_ok hf l (fun p hp => h p (by simp [hp]))]

/-! splitting at a blank -/
theorem ix_cons (b c : UInt8) (l : List UInt8) (h : b ≠ c) : Lib.index (b :: l) [c] = if Lib.index l [c] == -1 then -1 else Lib.index l [c] + 1 := by
  have hp : ([c] : List UInt8).isPrefixOf (b :: l) = false := by simp [List.isPrefixOf, Ne.symm h]
  rw [Lib.index, hp]; simp
theorem ix_hit {c : UInt8} (m : List UInt8) : ∀ {a : List UInt8}, c ∉ a → Lib.index (a ++ c :: m) [c] = (a.length : Nat)
  | [], _ => by rw [List.nil_append, Lib.index]; simp [List.isPrefixOf]
  | b :: a, h => by
    have hb : b ≠ c := fun e => h (by simp [e])
    rw [List.cons_append, ix_cons _ _ _ hb, ix_hit m (fun hm => h (by simp [hm]))]
    rw [if_neg (by simp)]
    simp
theorem ix_miss {c : UInt8} : ∀ {a : List UInt8}, c ∉ a → Lib.index a [c] = -1
  | [], _ => by simp [Lib.index]
  | b :: a, h => by
    have hb : b ≠ c := fun e => h (by simp [e])
    rw [ix_cons _ _ _ hb, ix_miss (fun hm => h (by simp [hm]))]
    rfl
theorem split_miss {c : UInt8} {a : List UInt8} (h : c ∉ a) : Lib.split a [c] = [a] := by
  unfold Lib.split
  rw [Lib.count_miss (ix_miss h)]
  rfl
theorem split_hit {c : UInt8} {a m : List UInt8} (h : c ∉ a) : Lib.split (a ++ c :: m) [c] = a :: Lib.split m [c] := by
  have hx := ix_hit m h
  have hd : (a ++ c :: m).drop (a.length + 1) = m := by
    rw [List.drop_append]; simp
  unfold Lib.split
  rw [Lib.count_hit (by simp) hx]
  have e : ([c] : List UInt8).length = 1 := rfl
  rw [e, hd, Nat.add_comm 1, Lib.splitK, hx, if_neg (by simp)]
  rw [e]
  simp only [Int.toNat_natCast, Nat.add_zero]
  rw [hd, List.take_left']
  rfl
theorem split_join {c : UInt8} : ∀ (rs : List (List UInt8)) (r : List UInt8), (∀ q ∈ r :: rs, c ∉ q) → Lib.split (r ++ Lib.joinTail [c] rs) [c] = r :: rs
  | [], r, h => by
    have e : Lib.joinTail [c] [] = [] := rfl
    rw [e, List.append_nil]; exact split_miss (h r (by simp))
  | q :: rs, r, h => by
    have e : Lib.joinTail [c] (q :: rs) = c :: (q ++ Lib.joinTail [c] rs) := by simp [Lib.joinTail]
    rw [e, split_hit (h r (by simp)), split_join rs q (fun p hp => h p (by simp at hp ⊢; exact .inr hp))]
theorem txt_split {l : List Opr} (h : PrOk l) (hl : l ≠ []) : Lib.split (txtL l) [32] = l.map txtO := by
  unfold txtL
  cases l with
  | nil => exact absurd rfl hl
  | cons o l =>
    rw [List.map_cons, Lib.join_cons, split_join]
    intro q hq
    rw [← List.map_cons] at hq
    obtain ⟨p, hp, rfl⟩ := List.mem_map.1 hq
    exact txtO_no (h p hp)
theorem txt_nil {l : List Opr} (h : txtL l = []) : l = [] := by
  cases l with
  | nil => rfl
  | cons o l =>
    unfold txtL at h
    rw [List.map_cons, Lib.join_cons] at h
    unfold txtO at h
    simp at h
/-- a valid program of so many ops -/
def TxOk (l : List Opr) : Prop := l.length ≤ 4096 ∧ PrOk l
theorem tx_read {f : List UInt8 → Option Opr} (hf : ∀ o, OpOk o → f (txtO o) = some o) {l : List Opr} (h : TxOk l) (hl : l ≠ []) : rdAll f (Lib.split (txtL l) [32]) = some l ∧ (Lib.split (txtL l) [32]).length ≤ 4096 := by
  rw [txt_split h.2 hl]
  exact ⟨rdAll_ok hf l h.2, by rw [List.length_map]; exact h.1⟩
theorem tx_inj {l m : List Opr} (h : TxOk l) (h' : TxOk m) (he : txtL l = txtL m) : l = m := by
  by_cases hl : l = []
  · subst hl
    exact (txt_nil he.symm).symm
  · by_cases hm : m = []
    · subst hm
      exact txt_nil he
    · have h1 := (tx_read (f := rdR) (fun o ho => rdR_ok ho) h hl).1
      have h2 := (tx_read (f := rdR) (fun o ho => rdR_ok ho) h' hm).1
      rw [he, h2] at h1
      injection h1 with h1
      exact h1.symm
/-- words under way -/
def WoI (f : List UInt8 → Option Opr) (R : Option (List Opr)) (ps : List Opr) (rest : List (List UInt8)) : Prop := R = (rdAll f rest).map (ps ++ ·)
section
variable {f : List UInt8 → Option Opr} {R : Option (List Opr)} {ps : List Opr} {t : List UInt8} {rest : List (List UInt8)}
theorem WoI.start (L : List (List UInt8)) : WoI f (rdAll f L) [] L := by
  unfold WoI; cases rdAll f L <;> simp
theorem WoI.fail (h : WoI f R ps (t :: rest)) (hf : f t = none) : R = none := by
  unfold WoI at h; rw [rdAll, hf] at h; exact h
theorem WoI.step {o : Opr} (h : WoI f R ps (t :: rest)) (hf : f t = some o) : WoI f R (ps ++ [o]) rest := by
  unfold WoI at h ⊢
  rw [rdAll, hf] at h
  rw [h]
  cases rdAll f rest with
  | none => rfl
  | some l => simp
theorem WoI.done (h : WoI f R ps []) : R = some ps := by
  unfold WoI at h; rw [h]; simp [rdAll]
end
theorem tx_ne {s : ByteArray} (hs : s.data.toList ≠ []) {l : List Opr} (e : BS (txtL l) = s) : l ≠ [] := fun h => by
  subst h; subst e; exact hs (by rw [BS_list]; rfl)
section
variable {f : List UInt8 → Option Opr} (hf : ∀ o, OpOk o → f (txtO o) = some o) {s : ByteArray} (hs : s.data.toList ≠ [])
include hf hs
theorem tx_none (h : rdAll f (Lib.split s.data.toList [32]) = none) : ∀ l, TxOk l → BS (txtL l) ≠ s := fun l hl e => by
  have h1 := (tx_read hf hl (tx_ne hs e)).1
  rw [← e, BS_list, h1] at h; cases h
theorem tx_many (h : 4096 < (Lib.split s.data.toList [32]).length) : ∀ l, TxOk l → BS (txtL l) ≠ s := fun l hl e => by
  have h1 := (tx_read hf hl (tx_ne hs e)).2
  rw [← e, BS_list] at h; omega
theorem tx_bad {ps : List Opr} (h : rdAll f (Lib.split s.data.toList [32]) = some ps) (hn : ¬ (TxOk ps ∧ BS (txtL ps) = s)) : ∀ l, TxOk l → BS (txtL l) ≠ s := fun l hl e => by
  have h1 := (tx_read hf hl (tx_ne hs e)).1
  rw [← e, BS_list, h1] at h
  injection h with h
  subst h
  exact hn ⟨hl, e⟩
end
end Go.Proofs.YtfadkokdoehjnaaDoor
