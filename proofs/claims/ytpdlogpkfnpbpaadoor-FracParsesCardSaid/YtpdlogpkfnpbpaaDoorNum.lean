/- Plain facts on natural numbers as lists of digits to the base 2^32: no program in sight. No conditions. -/
namespace Go.Proofs.YtpdlogpkfnpbpaaDoor
namespace Num

/-- the base -/
abbrev B : Nat := 4294967296

/-- the value of a list of digits, the lowest first -/
def val : List Nat → Nat
  | [] => 0
  | d :: ds => d + 4294967296 * val ds

/-- the digits of a number -/
def dig (n : Nat) : List Nat := if h : n = 0 then [] else (n % 4294967296) :: dig (n / 4294967296)
  termination_by n
  decreasing_by exact Nat.div_lt_self (by omega) (by omega)

theorem dig_zero : dig 0 = [] := by rw [dig]; simp
theorem dig_pos {n : Nat} (h : n ≠ 0) : dig n = (n % 4294967296) :: dig (n / 4294967296) := by rw [dig]; simp [h]
theorem dig_nil {n : Nat} : dig n = [] ↔ n = 0 := by
  constructor
  · intro h; by_cases h0 : n = 0
    · exact h0
    · rw [dig_pos h0] at h; cases h
  · rintro rfl; exact dig_zero
theorem dig_len_zero {n : Nat} : (dig n).length = 0 ↔ n = 0 := by rw [List.length_eq_zero_iff]; exact dig_nil
theorem val_dig (n : Nat) : val (dig n) = n := by
  induction n using Nat.strongRecOn with
  | _ n ih =>
    by_cases h : n = 0
    · subst h; rw [dig_zero]; rfl
    · rw [dig_pos h, val, ih _ (Nat.div_lt_self (by omega) (by omega))]; omega
theorem dig_lt (n : Nat) : ∀ d ∈ dig n, d < 4294967296 := by
  induction n using Nat.strongRecOn with
  | _ n ih =>
    by_cases h : n = 0
    · subst h; rw [dig_zero]; intro d hd; cases hd
    · rw [dig_pos h]; intro d hd
      rcases List.mem_cons.1 hd with rfl | hd
      · omega
      · exact ih _ (Nat.div_lt_self (by omega) (by omega)) d hd
theorem val_append (a b : List Nat) : val (a ++ b) = val a + 4294967296 ^ a.length * val b := by
  induction a with
  | nil => simp [val]
  | cons d ds ih => simp only [List.cons_append, val, ih, List.length_cons, Nat.pow_succ]; grind
theorem val_lt (l : List Nat) (h : ∀ d ∈ l, d < 4294967296) : val l < 4294967296 ^ l.length := by
  induction l with
  | nil => simp [val]
  | cons d ds ih =>
    have h1 := ih (fun x hx => h x (List.mem_cons_of_mem _ hx))
    have h2 := h d (List.mem_cons_self ..)
    simp only [val, List.length_cons, Nat.pow_succ]
    generalize 4294967296 ^ ds.length = p at *
    have : 4294967296 * val ds + 4294967296 ≤ p * 4294967296 := by omega
    omega
/-- a list without a zero at its end is the list of its value's digits -/
theorem dig_val (l : List Nat) (h : ∀ d ∈ l, d < 4294967296) (hl : ∀ x, l.getLast? = some x → x ≠ 0) : dig (val l) = l := by
  induction l with
  | nil => simp [val, dig_zero]
  | cons d ds ih =>
    have h1 := h d (List.mem_cons_self ..)
    have hds : ∀ x, ds.getLast? = some x → x ≠ 0 := by
      intro x hx
      apply hl
      cases ds with
      | nil => cases hx
      | cons a as => simpa [List.getLast?_cons_cons] using hx
    have ih := ih (fun x hx => h x (List.mem_cons_of_mem _ hx)) hds
    have hv : val ds = 0 → ds = [] := by
      intro hv
      rw [← ih, hv, dig_zero]
    have hne : val (d :: ds) ≠ 0 := by
      intro h0
      simp only [val] at h0
      have := hv (by omega)
      subst this
      exact hl d rfl (by omega)
    rw [dig_pos hne]
    simp only [val]
    have e1 : (d + 4294967296 * val ds) % 4294967296 = d := by omega
    have e2 : (d + 4294967296 * val ds) / 4294967296 = val ds := by omega
    rw [e1, e2, ih]
theorem dig_last (n : Nat) : ∀ x, (dig n).getLast? = some x → x ≠ 0 := by
  induction n using Nat.strongRecOn with
  | _ n ih =>
    intro x hx
    by_cases h : n = 0
    · subst h; rw [dig_zero] at hx; cases hx
    · rw [dig_pos h] at hx
      by_cases h1 : n / 4294967296 = 0
      · rw [h1, dig_zero] at hx
        simp at hx
        omega
      · have := ih (n / 4294967296) (Nat.div_lt_self (by omega) (by omega)) x
        apply this
        rw [dig_pos h1] at hx ⊢
        simpa [List.getLast?_cons_cons] using hx
theorem dig_len_le {n k : Nat} : (dig n).length ≤ k ↔ n < 4294967296 ^ k := by
  induction k generalizing n with
  | zero => simp [dig_nil]
  | succ k ih =>
    by_cases h : n = 0
    · subst h; rw [dig_zero]; simp; exact Nat.pow_pos (by omega)
    · rw [dig_pos h, List.length_cons, Nat.succ_le_succ_iff, ih, Nat.pow_succ]
      generalize 4294967296 ^ k = p
      omega
theorem dig_len_one {n : Nat} (h : n < 4294967296) : (dig n).length ≤ 1 := dig_len_le.2 (by simpa using h)
theorem dig_len_two {n : Nat} : (dig n).length ≤ 2 ↔ n < 18446744073709551616 := by rw [dig_len_le]
/-- shorter is smaller -/
theorem lt_of_len {a b : Nat} (h : (dig a).length < (dig b).length) : a < b := by
  rcases Nat.lt_or_ge a b with h1 | h1
  · exact h1
  · have := dig_len_le.1 (Nat.le_refl (dig a).length)
    have h2 : (dig b).length ≤ (dig a).length := dig_len_le.2 (Nat.lt_of_le_of_lt h1 this)
    omega
theorem len_mono {a b : Nat} (h : a ≤ b) : (dig a).length ≤ (dig b).length := by
  rcases Nat.lt_or_ge (dig b).length (dig a).length with h1 | h1
  · have := lt_of_len h1; omega
  · exact h1
theorem getD_lt (l : List Nat) (h : ∀ d ∈ l, d < 4294967296) (i : Nat) : l.getD i 0 < 4294967296 := by
  rw [List.getD_eq_getElem?_getD]
  cases hi : l[i]? with
  | none => simp
  | some x => simpa using h x (List.mem_of_getElem? hi)
theorem val_take_drop (l : List Nat) (k : Nat) (hk : k ≤ l.length) : val l = val (l.take k) + 4294967296 ^ k * val (l.drop k) := by
  have := val_append (l.take k) (l.drop k)
  rw [List.take_append_drop] at this
  rw [this, List.length_take, Nat.min_eq_left hk]
theorem take_succ_getD (l : List Nat) (k : Nat) (hk : k < l.length) : l.take (k + 1) = l.take k ++ [l.getD k 0] := by
  rw [List.take_succ_eq_append_getElem hk]
  simp [List.getD_eq_getElem?_getD, hk]
theorem val_take_succ (l : List Nat) (k : Nat) : val (l.take (k + 1)) = val (l.take k) + 4294967296 ^ k * l.getD k 0 := by
  rcases Nat.lt_or_ge k l.length with hk | hk
  · rw [take_succ_getD l k hk, val_append]
    simp [val, Nat.min_eq_left (Nat.le_of_lt hk)]
  · rw [List.take_of_length_le (by omega), List.take_of_length_le hk, List.getD_eq_getElem?_getD, List.getElem?_eq_none hk]; simp
theorem val_zeros (l : List Nat) (h : ∀ d ∈ l, d = 0) : val l = 0 := by
  induction l with
  | nil => rfl
  | cons d ds ih =>
    simp only [val]
    rw [h d (List.mem_cons_self ..), ih (fun x hx => h x (List.mem_cons_of_mem _ hx))]
theorem mem_take_lt {l : List Nat} {k : Nat} (h : ∀ d ∈ l, d < 4294967296) : ∀ d ∈ l.take k, d < 4294967296 := fun d hd => h d (List.mem_of_mem_take hd)
theorem mem_drop_lt {l : List Nat} {k : Nat} (h : ∀ d ∈ l, d < 4294967296) : ∀ d ∈ l.drop k, d < 4294967296 := fun d hd => h d (List.mem_of_mem_drop hd)

/-- the comparison from the top: where the higher digits agree and this one differs, it decides -/
theorem lt_of_top {a b : List Nat} {k : Nat} (ha : ∀ d ∈ a, d < 4294967296) (hl : a.length = b.length) (hk : k < a.length)
    (heq : a.drop (k + 1) = b.drop (k + 1)) (hlt : a.getD k 0 < b.getD k 0) : val a < val b := by
  rw [val_take_drop a (k + 1) (by omega), val_take_drop b (k + 1) (by omega), heq, val_take_succ, val_take_succ]
  have h1 := val_lt (a.take k) (mem_take_lt ha)
  rw [List.length_take, Nat.min_eq_left (by omega)] at h1
  generalize 4294967296 ^ k = p at *
  generalize 4294967296 ^ (k + 1) * val (b.drop (k + 1)) = q at *
  have : p * a.getD k 0 + p ≤ p * b.getD k 0 := by
    have := Nat.mul_le_mul_left p (show a.getD k 0 + 1 ≤ b.getD k 0 from hlt)
    rw [Nat.mul_add, Nat.mul_one] at this
    exact this
  omega
theorem drop_eq_step {a b : List Nat} {k : Nat} (hl : a.length = b.length) (hk : k < a.length)
    (heq : a.drop (k + 1) = b.drop (k + 1)) (he : a.getD k 0 = b.getD k 0) : a.drop k = b.drop k := by
  rw [List.drop_eq_getElem_cons hk, List.drop_eq_getElem_cons (by omega : k < b.length), heq]
  congr 1
  simpa [List.getD_eq_getElem?_getD, hk, (by omega : k < b.length)] using he

/-- -1, 0 or 1 -/
def cmpI (a b : Nat) : Int := if a < b then -1 else if a = b then 0 else 1
theorem cmpI_lt {a b : Nat} (h : a < b) : cmpI a b = -1 := by unfold cmpI; rw [if_pos h]
theorem cmpI_gt {a b : Nat} (h : b < a) : cmpI a b = 1 := by unfold cmpI; rw [if_neg (by omega), if_neg (by omega)]
theorem cmpI_eq {a b : Nat} (h : a = b) : cmpI a b = 0 := by unfold cmpI; rw [if_neg (by omega), if_pos h]
end Num
end Go.Proofs.YtpdlogpkfnpbpaaDoor
