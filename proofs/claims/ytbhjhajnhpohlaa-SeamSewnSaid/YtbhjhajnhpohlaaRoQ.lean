/- Plain law of odd joints: their number is even, how often each stands in the list. No conditions. -/
import Derived.Test.YtbhjhajnhpohlaaTrP
namespace Go.Proofs.Ytbhjhajnhpohlaa

theorem deg_pos {ch : Sm → Bool} : ∀ {l : List Sm} {j : Nat}, deg ch l j ≠ 0 → ∃ s ∈ l, s.a = j ∨ s.b = j
  | [], j, h => absurd rfl h
  | s :: l, j, h => by
    by_cases hs : s.a = j ∨ s.b = j
    · exact ⟨s, by simp, hs⟩
    · have h0 : inc s j = 0 := by unfold inc; rw [if_neg (fun e => hs (.inl e)), if_neg (fun e => hs (.inr e))]; rfl
      have : deg ch l j ≠ 0 := by
        intro e
        apply h
        show (if ch s then inc s j else 0) + deg ch l j = 0
        rw [e, h0]; split <;> rfl
      obtain ⟨t, ht, hh⟩ := deg_pos this
      exact ⟨t, by simp [ht], hh⟩
theorem oddN_mem {ch : Sm → Bool} {l : List Sm} : ∀ n, ∀ x ∈ oddN ch l n, ∃ j : Nat, x = j ∧ j < n ∧ deg ch l j % 2 = 1
  | 0, x, hx => by simp [oddN] at hx
  | n + 1, x, hx => by
    unfold oddN at hx
    split at hx
    · rename_i hd
      rcases List.mem_append.1 hx with hx | hx
      · obtain ⟨j, h1, h2, h3⟩ := oddN_mem n x hx
        exact ⟨j, h1, by omega, h3⟩
      · exact ⟨n, by simpa using hx, by omega, hd⟩
    · obtain ⟨j, h1, h2, h3⟩ := oddN_mem n x hx
      exact ⟨j, h1, by omega, h3⟩
/-- the degrees of the first n joints -/
def sdeg (l : List Sm) : Nat → Int
  | 0 => 0
  | n + 1 => sdeg l n + deg allS l n
theorem odd_sdeg (l : List Sm) : ∀ n, ((oddN allS l n).length : Int) % 2 = sdeg l n % 2
  | 0 => rfl
  | n + 1 => by
    have ih := odd_sdeg l n
    unfold oddN sdeg
    split
    · rw [List.length_append]; push_cast; simp; omega
    · omega
theorem sdeg_cons (s : Sm) (l : List Sm) : ∀ n, sdeg (s :: l) n = sdeg [s] n + sdeg l n
  | 0 => rfl
  | n + 1 => by
    have ih := sdeg_cons s l n
    unfold sdeg
    rw [ih]
    show _ + ((if allS s then inc s n else 0) + deg allS l n) = _ + ((if allS s then inc s n else 0) + 0) + _
    omega
theorem sdeg_one {s : Sm} (h : 0 ≤ s.a ∧ 0 ≤ s.b) : ∀ n, sdeg [s] n = (if s.a < n then 1 else 0) + (if s.b < n then 1 else 0)
  | 0 => by unfold sdeg; rw [if_neg (by omega), if_neg (by omega)]; rfl
  | n + 1 => by
    have ih := sdeg_one h n
    have e : deg allS [s] n = inc s n := by show (if allS s then inc s n else 0) + 0 = _; unfold allS; simp
    unfold sdeg
    rw [ih, e]
    unfold inc
    push_cast
    by_cases h1 : s.a < n <;> by_cases h2 : s.b < n <;> by_cases h3 : s.a = n <;> by_cases h4 : s.b = n <;> simp [h1, h2, h3, h4] <;> repeat' split
    all_goals omega
theorem sdeg_two {n : Nat} (hn : n ≤ 16) : ∀ {l : List Sm}, (∀ s ∈ l, SmOk n s) → sdeg l 16 = 2 * l.length
  | [], _ => by decide
  | s :: l, h => by
    have hs := h s (by simp)
    unfold SmOk at hs
    rw [sdeg_cons, sdeg_two hn (l := l) (fun t ht => h t (by simp [ht])), sdeg_one ⟨hs.1, hs.2.2.1⟩, if_pos (by omega), if_pos (by omega)]
    simp only [List.length_cons]
    push_cast
    omega
theorem lo_even {n : Nat} {l : List Sm} (h : ∀ s ∈ l, SmOk n s) (hn : n ≤ 16) : (oddN allS l 16).length % 2 = 0 := by
  have h1 := odd_sdeg l 16
  rw [sdeg_two hn h] at h1
  omega

/-- how often a joint stands in a list -/
def occ (lo : List Int) (x : Int) : Nat := (lo.map fun y => if y = x then 1 else 0).sum
theorem occ_odd (l : List Sm) : ∀ n (x : Int), occ (oddN allS l n) x = if 0 ≤ x ∧ x < n ∧ deg allS l x.toNat % 2 = 1 then 1 else 0
  | 0, x => by
    rw [if_neg (by omega)]; rfl
  | n + 1, x => by
    have ih := occ_odd l n x
    have ea : ∀ (a b : List Int), occ (a ++ b) x = occ a x + occ b x := fun a b => by unfold occ; rw [List.map_append, List.sum_append_nat]
    have e1 : occ [(n : Int)] x = if (n : Int) = x then 1 else 0 := by unfold occ; simp
    unfold oddN
    split
    · rename_i hd
      rw [ea, ih, e1]
      by_cases hx : (n : Int) = x
      · subst hx
        rw [if_neg (by omega), if_pos rfl, if_pos ⟨by omega, by push_cast; omega, by rw [Int.toNat_natCast]; exact hd⟩]
      · rw [if_neg hx]
        by_cases h2 : 0 ≤ x ∧ x < n ∧ deg allS l x.toNat % 2 = 1
        · rw [if_pos h2, if_pos ⟨h2.1, by push_cast; omega, h2.2.2⟩]
        · rw [if_neg h2, if_neg (fun e => h2 ⟨e.1, by have := e.2.1; push_cast at this; omega, e.2.2⟩)]
    · rename_i hd
      rw [ih]
      by_cases h2 : 0 ≤ x ∧ x < n ∧ deg allS l x.toNat % 2 = 1
      · rw [if_pos h2, if_pos ⟨h2.1, by push_cast; omega, h2.2.2⟩]
      · rw [if_neg h2, if_neg (fun e => ?_)]
        by_cases hx : x = (n : Int)
        · subst hx
          rw [Int.toNat_natCast] at e
          exact hd e.2.2
        · exact h2 ⟨e.1, by have := e.2.1; push_cast at this; omega, e.2.2⟩
theorem lnAt_mem {L : List Ln} {k : Nat} (h : k < L.length) : lnAt L k ∈ L := by rw [lnAt_get h]; exact List.getElem_mem h
end Go.Proofs.Ytbhjhajnhpohlaa
