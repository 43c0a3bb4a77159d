/- Plain law of the pairing of the odd joints: sets as bits, the table of least sums, what both sides fill in. No conditions. -/
import Derived.Test.YtbhjhajnhpohlaaWd
namespace Go.Proofs.Ytbhjhajnhpohlaa

theorem i64_wrapN (n : Nat) (h : n < 9223372036854775808) : IntKind.i64.wrap (n : Int) = (n : Int) := by rw [IntKind.wrap_i64]; omega
theorem i64_and (a b : Nat) (ha : a < 9223372036854775808) (hb : b < 9223372036854775808) : bits .and .i64 (a : Int) (b : Int) = ((a &&& b : Nat) : Int) := by
  have hx : a &&& b < 2 ^ 63 := Nat.and_lt_two_pow _ (by omega)
  show IntKind.i64.wrap ((BitVec.ofInt 64 (a : Int) &&& BitVec.ofInt 64 (b : Int)).toNat : Int) = _
  rw [BitVec.toNat_and, ofInt_u64 a (by omega), ofInt_u64 b (by omega)]
  exact i64_wrapN _ hx
theorem i64_or (a b : Nat) (ha : a < 9223372036854775808) (hb : b < 9223372036854775808) : bits .or .i64 (a : Int) (b : Int) = ((a ||| b : Nat) : Int) := by
  have hx : a ||| b < 2 ^ 63 := Nat.or_lt_two_pow (by omega) (by omega)
  show IntKind.i64.wrap ((BitVec.ofInt 64 (a : Int) ||| BitVec.ofInt 64 (b : Int)).toNat : Int) = _
  rw [BitVec.toNat_or, ofInt_u64 a (by omega), ofInt_u64 b (by omega)]
  exact i64_wrapN _ hx
theorem i64_andNot (a b : Nat) (ha : a < 9223372036854775808) (hb : b < 9223372036854775808) : bits .andNot .i64 (a : Int) (b : Int) = ((a &&& (18446744073709551615 - b) : Nat) : Int) := by
  have hx : a &&& (18446744073709551615 - b) < 2 ^ 63 := Nat.lt_of_le_of_lt Nat.and_le_left (by omega)
  show IntKind.i64.wrap ((BitVec.ofInt 64 (a : Int) &&& ~~~BitVec.ofInt 64 (b : Int)).toNat : Int) = _
  rw [BitVec.toNat_and, BitVec.toNat_not, ofInt_u64 a (by omega), ofInt_u64 b (by omega)]
  have e : 2 ^ 64 - 1 - b = 18446744073709551615 - b := by omega
  rw [e]
  exact i64_wrapN _ hx
theorem bit_and (S i : Nat) : S &&& 2 ^ i = if S.testBit i then 2 ^ i else 0 := by
  apply Nat.eq_of_testBit_eq
  intro j
  rw [Nat.testBit_and, Nat.testBit_two_pow]
  by_cases h : i = j
  · subst h
    cases hb : S.testBit i
    · simp
    · simp
  · have : decide (i = j) = false := by simpa using h
    rw [this, Bool.and_false]
    split
    · rw [Nat.testBit_two_pow]; simpa using h
    · simp
/-- S without its bit i -/
def wo1 (S i : Nat) : Nat := S ^^^ 2 ^ i
theorem wo1_bit (S i x : Nat) : (wo1 S i).testBit x = (S.testBit x ^^ decide (i = x)) := by
  unfold wo1
  rw [Nat.testBit_xor, Nat.testBit_two_pow]
theorem wo1_lt {S i : Nat} (h : S.testBit i = true) : wo1 S i < S := by
  have h1 : wo1 S i = S &&& wo1 S i := by
    apply Nat.eq_of_testBit_eq
    intro x
    rw [Nat.testBit_and, wo1_bit]
    by_cases e : i = x
    · subst e; rw [h]; simp
    · have : decide (i = x) = false := by simpa using e
      rw [this]; simp
  have h2 : wo1 S i ≤ S := by rw [h1]; exact Nat.and_le_left
  have h3 : wo1 S i ≠ S := fun e => by
    have h4 := wo1_bit S i i
    rw [e, h] at h4
    simp at h4
  omega
theorem pow_lt (i : Nat) (h : i < 63) : 2 ^ i < 9223372036854775808 := by
  have : (2 : Nat) ^ i < 2 ^ 63 := Nat.pow_lt_pow_right (by omega) h
  omega
theorem not_bit (i x : Nat) (hi : i < 64) (hx : x < 64) : (18446744073709551615 - 2 ^ i).testBit x = decide (i ≠ x) := by
  have e : 18446744073709551615 - 2 ^ i = 18446744073709551615 ^^^ 2 ^ i := by
    have h0 : (2 ^ 64 - (2 ^ i + 1)) = 18446744073709551615 - 2 ^ i := by omega
    apply Nat.eq_of_testBit_eq
    intro j
    have hlt : 2 ^ i < 2 ^ 64 := Nat.pow_lt_pow_right (by omega) hi
    rw [← h0, Nat.testBit_two_pow_sub_succ hlt, Nat.testBit_xor, Nat.testBit_two_pow, show 18446744073709551615 = 2 ^ 64 - 1 from rfl, Nat.testBit_two_pow_sub_one]
    by_cases hj : j < 64
    · simp [hj]
    · have : ¬ i = j := by omega
      simp [hj, this]
  rw [e, Nat.testBit_xor, Nat.testBit_two_pow, show 18446744073709551615 = 2 ^ 64 - 1 from rfl, Nat.testBit_two_pow_sub_one]
  simp [hx]
/-- 'set &^ (1<<i)' -/
theorem off_bit {S i : Nat} (hS : S < 9223372036854775808) (hi : i < 63) (h : S.testBit i = true) : bits .andNot .i64 (S : Int) ((2 ^ i : Nat) : Int) = (wo1 S i : Int) := by
  rw [i64_andNot _ _ hS (pow_lt i hi)]
  congr 1
  apply Nat.eq_of_testBit_eq
  intro x
  rw [Nat.testBit_and, wo1_bit]
  by_cases hx : x < 64
  · rw [not_bit i x (by omega) hx]
    by_cases e : i = x
    · subst e; simp [h]
    · simp [e]
  · have hs : S.testBit x = false := Nat.testBit_lt_two_pow (Nat.lt_of_lt_of_le (show S < 2 ^ 63 by omega) (Nat.pow_le_pow_right (by omega) (by omega)))
    have : ¬ i = x := by omega
    simp [hs, this]
/-- the lowest bit, up to n -/
def low (n S : Nat) : Nat := ((List.range n).find? fun i => S.testBit i).getD 0
theorem low_of {n S i : Nat} (hi : i < n) (h : S.testBit i = true) (hl : ∀ j, j < i → S.testBit j = false) : low n S = i := by
  unfold low
  have : (List.range n).find? (fun i => S.testBit i) = some i := by
    rw [List.find?_range_eq_some]
    exact ⟨h, by simpa using hi, fun j hj => by rw [hl j hj]; rfl⟩
  rw [this]; rfl
/-- a set that is not empty has a lowest bit -/
theorem low_ex {n S : Nat} (hS : S < 2 ^ n) (h0 : 0 < S) : S.testBit (low n S) = true ∧ low n S < n ∧ ∀ j, j < low n S → S.testBit j = false := by
  unfold low
  cases hf : (List.range n).find? (fun i => S.testBit i) with
  | none =>
    exfalso
    have hz : S = 0 := by
      apply Nat.eq_of_testBit_eq
      intro x
      rw [Nat.zero_testBit]
      by_cases hx : x < n
      · have := List.find?_eq_none.1 hf x (by simpa using hx)
        simpa using this
      · exact Nat.testBit_lt_two_pow (Nat.lt_of_lt_of_le hS (Nat.pow_le_pow_right (by omega) (by omega)))
    omega
  | some i =>
    rw [List.find?_range_eq_some] at hf
    obtain ⟨h1, h2, h3⟩ := hf
    refine ⟨h1, by simpa using h2, fun j hj => ?_⟩
    have := h3 j hj
    simpa using this
/-- how many bits below n -/
def cntB (S : Nat) : Nat → Nat
  | 0 => 0
  | n + 1 => cntB S n + if S.testBit n then 1 else 0
theorem cntB_off {S i : Nat} (h : S.testBit i = true) : ∀ n, cntB S n = cntB (wo1 S i) n + if i < n then 1 else 0
  | 0 => by simp [cntB]
  | n + 1 => by
    have ih := cntB_off h n
    have hb := wo1_bit S i n
    unfold cntB
    by_cases e : i = n
    · subst e
      rw [h] at hb ⊢
      rw [hb]
      rw [if_neg (show ¬ i < i by omega)] at ih
      rw [if_pos (show i < i + 1 by omega)]
      simp
      omega
    · have : decide (i = n) = false := by simpa using e
      rw [this, Bool.xor_false] at hb
      rw [hb]
      by_cases hn : i < n
      · rw [if_pos hn] at ih
        rw [if_pos (show i < n + 1 by omega)]
        omega
      · rw [if_neg hn] at ih
        rw [if_neg (show ¬ i < n + 1 by omega)]
        omega
theorem cntB_zero : ∀ n, cntB 0 n = 0
  | 0 => rfl
  | n + 1 => by unfold cntB; rw [cntB_zero n]; simp
theorem cntB_full : ∀ n m, n ≤ m → cntB (2 ^ m - 1) n = n
  | 0, _, _ => rfl
  | n + 1, m, h => by unfold cntB; rw [cntB_full n m (by omega), Nat.testBit_two_pow_sub_one]; simp; omega
/-- two bits: another one than the lowest -/
theorem cntB_two {S i : Nat} : ∀ n, S.testBit i = true → 2 ≤ cntB S n → (∀ j, j < i → S.testBit j = false) → ∃ j, i < j ∧ j < n ∧ S.testBit j = true
  | 0, _, h, _ => by simp [cntB] at h
  | n + 1, hi, h, hl => by
    by_cases hn : S.testBit n = true ∧ i < n
    · exact ⟨n, hn.2, by omega, hn.1⟩
    · have h2 : 2 ≤ cntB S n ∨ (cntB S n = 1 ∧ n ≤ i) := by
        unfold cntB at h
        by_cases hb : S.testBit n = true
        · rw [if_pos hb] at h
          have : ¬ i < n := fun e => hn ⟨hb, e⟩
          by_cases h3 : 2 ≤ cntB S n
          · exact .inl h3
          · exact .inr ⟨by omega, by omega⟩
        · rw [if_neg hb] at h; exact .inl (by omega)
      rcases h2 with h2 | ⟨h2, h3⟩
      · obtain ⟨j, h4, h5, h6⟩ := cntB_two n hi h2 hl
        exact ⟨j, h4, by omega, h6⟩
      · exfalso
        have hz : ∀ m, m ≤ n → cntB S m = 0 := by
          intro m
          induction m with
          | zero => intro _; rfl
          | succ m ih =>
            intro hm
            unfold cntB
            rw [ih (by omega), hl m (by omega)]
            rfl
        have := hz n (Nat.le_refl _)
        omega

/-- the best partner of i among those below j; v: the value at the start -/
def inn (d : Nat → Nat → Int) (T : Nat → Int) (S i : Nat) (v : Int) : Nat → Int × Nat
  | 0 => (v, 0)
  | j + 1 => if i < j ∧ S.testBit j = true ∧ T (wo1 (wo1 S i) j) + d i j < (inn d T S i v j).1 then (T (wo1 (wo1 S i) j) + d i j, j) else inn d T S i v j
theorem inn_start (d : Nat → Nat → Int) (T : Nat → Int) (S i : Nat) (v : Int) : ∀ j, j ≤ i + 1 → inn d T S i v j = (v, 0)
  | 0, _ => rfl
  | j + 1, h => by
    unfold inn
    rw [if_neg (fun e => by omega)]
    exact inn_start d T S i v j (by omega)
theorem inn_congr {d : Nat → Nat → Int} {T T' : Nat → Int} {S i : Nat} {v : Int} (hi : S.testBit i = true) (h : ∀ s, s < S → T s = T' s) : ∀ j, inn d T S i v j = inn d T' S i v j
  | 0 => rfl
  | j + 1 => by
    unfold inn
    rw [inn_congr hi h j]
    by_cases hc : i < j ∧ S.testBit j = true
    · have h1 : (wo1 S i).testBit j = true := by
        rw [wo1_bit, hc.2]
        have : decide (i = j) = false := by simp; omega
        rw [this]; rfl
      rw [h _ (Nat.lt_trans (wo1_lt h1) (wo1_lt hi))]
    · rw [if_neg (fun e => hc ⟨e.1, e.2.1⟩), if_neg (fun e => hc ⟨e.1, e.2.1⟩)]
/-- the table behind n sets -/
def dpT (d : Nat → Nat → Int) (v : Int) (k : Nat) : Nat → Nat → Int × Nat
  | 0 => fun _ => (0, 0)
  | n + 1 => fun s => if s = n ∧ 0 < n then inn d (fun s => (dpT d v k n s).1) n (low k n) v k else dpT d v k n s
theorem dpT_old (d : Nat → Nat → Int) (v : Int) (k : Nat) : ∀ n s, s < n → dpT d v k n s = dpT d v k (s + 1) s
  | 0, s, h => by omega
  | n + 1, s, h => by
    by_cases e : s = n
    · subst e; rfl
    · have : dpT d v k (n + 1) s = dpT d v k n s := by
        show (if s = n ∧ 0 < n then _ else _) = _
        rw [if_neg (fun h => e h.1)]
      rw [this, dpT_old d v k n s (by omega)]
theorem dpT_new (d : Nat → Nat → Int) (v : Int) (k : Nat) : ∀ n s, n ≤ s → dpT d v k n s = (0, 0)
  | 0, _, _ => rfl
  | n + 1, s, h => by
    show (if s = n ∧ 0 < n then _ else _) = _
    rw [if_neg (fun e => by omega), dpT_new d v k n s (by omega)]
/-- the value at a set -/
def dpv (d : Nat → Nat → Int) (v : Int) (k s : Nat) : Int × Nat := dpT d v k (s + 1) s
theorem dpv_zero (d : Nat → Nat → Int) (v : Int) (k : Nat) : dpv d v k 0 = (0, 0) := by
  unfold dpv dpT
  rw [if_neg (fun e => by omega)]
  rfl
theorem dpv_eq (d : Nat → Nat → Int) (v : Int) (k : Nat) {s : Nat} (h0 : 0 < s) (hs : s < 2 ^ k) : dpv d v k s = inn d (fun s => (dpv d v k s).1) s (low k s) v k := by
  have e : dpv d v k s = inn d (fun x => (dpT d v k s x).1) s (low k s) v k := by
    unfold dpv
    show (if s = s ∧ 0 < s then _ else _) = _
    rw [if_pos ⟨rfl, h0⟩]
  rw [e]
  refine inn_congr (low_ex hs h0).1 (fun x hx => ?_) k
  show (dpT d v k s x).1 = (dpT d v k (x + 1) x).1
  rw [dpT_old d v k s x hx]
/-- what the best partner is worth -/
theorem inn_le {d : Nat → Nat → Int} {T : Nat → Int} {S i : Nat} {v : Int} : ∀ n, (inn d T S i v n).1 ≤ v ∧ (∀ j, j < n → i < j → S.testBit j = true → (inn d T S i v n).1 ≤ T (wo1 (wo1 S i) j) + d i j)
  | 0 => ⟨Int.le_refl _, fun j h => by omega⟩
  | n + 1 => by
    obtain ⟨h1, h2⟩ := inn_le (d := d) (T := T) (S := S) (i := i) (v := v) n
    unfold inn
    split
    · rename_i hc
      refine ⟨by show T _ + _ ≤ v; omega, fun j hj hij hb => ?_⟩
      show T _ + _ ≤ _
      by_cases e : j = n
      · subst e; exact Int.le_refl _
      · have := h2 j (by omega) hij hb; omega
    · rename_i hc
      refine ⟨h1, fun j hj hij hb => ?_⟩
      by_cases e : j = n
      · subst e
        exact Int.not_lt.1 (fun hlt => hc ⟨hij, hb, hlt⟩)
      · exact h2 j (by omega) hij hb
theorem inn_at {d : Nat → Nat → Int} {T : Nat → Int} {S i : Nat} {v : Int} : ∀ n, inn d T S i v n = (v, 0) ∨ ∃ j, j < n ∧ i < j ∧ S.testBit j = true ∧ inn d T S i v n = (T (wo1 (wo1 S i) j) + d i j, j)
  | 0 => .inl rfl
  | n + 1 => by
    unfold inn
    split
    · rename_i hc
      exact .inr ⟨n, by omega, hc.1, hc.2.1, rfl⟩
    · rcases inn_at (d := d) (T := T) (S := S) (i := i) (v := v) n with h | ⟨j, h1, h2, h3, h4⟩
      · exact .inl h
      · exact .inr ⟨j, by omega, h2, h3, h4⟩
/-- at a set of an even number: the value does not hang on the start; a partner attains it -/
theorem dpv_even {d : Nat → Nat → Int} {D v : Int} {k : Nat} (hd : ∀ i j, i < k → j < k → 0 ≤ d i j ∧ d i j ≤ D) (hv : (k : Int) * D < v) (hD : 0 ≤ D) : ∀ (n s : Nat), s ≤ n → s < 2 ^ k → cntB s k % 2 = 0 → 0 ≤ (dpv d v k s).1 ∧ (dpv d v k s).1 ≤ (cntB s k : Int) * D ∧ (0 < s → ∃ j, j < k ∧ low k s < j ∧ s.testBit j = true ∧ (dpv d v k s).2 = j ∧ (dpv d v k s).1 = (dpv d v k (wo1 (wo1 s (low k s)) j)).1 + d (low k s) j ∧ ∀ j', j' < k → low k s < j' → s.testBit j' = true → (dpv d v k s).1 ≤ (dpv d v k (wo1 (wo1 s (low k s)) j')).1 + d (low k s) j') := by
  intro n
  induction n with
  | zero =>
    intro s hs hk he
    obtain rfl : s = 0 := by omega
    rw [dpv_zero, cntB_zero]
    exact ⟨by simp, by simp, fun h => by omega⟩
  | succ n ih =>
    intro s hs hk he
    rcases Nat.eq_zero_or_pos s with rfl | h0
    · rw [dpv_zero, cntB_zero]
      exact ⟨by simp, by simp, fun h => by omega⟩
    obtain ⟨hb, hlk, hl⟩ := low_ex hk h0
    have hc1 := cntB_off hb k
    rw [if_pos hlk] at hc1
    have hrest : ∀ j, j < k → low k s < j → s.testBit j = true → wo1 (wo1 s (low k s)) j < s ∧ cntB s k = cntB (wo1 (wo1 s (low k s)) j) k + 2 := by
      intro j hj hij hbj
      have h1 : (wo1 s (low k s)).testBit j = true := by
        rw [wo1_bit, hbj]
        have : decide (low k s = j) = false := by simp; omega
        rw [this]; rfl
      have hc2 := cntB_off h1 k
      rw [if_pos hj] at hc2
      exact ⟨Nat.lt_trans (wo1_lt h1) (wo1_lt hb), by omega⟩
    have hcl := inn_le (d := d) (T := fun s => (dpv d v k s).1) (S := s) (i := low k s) (v := v) k
    rw [← dpv_eq d v k h0 hk] at hcl
    have hat := inn_at (d := d) (T := fun s => (dpv d v k s).1) (S := s) (i := low k s) (v := v) k
    rw [← dpv_eq d v k h0 hk] at hat
    have hck : cntB s k ≤ k := by
      have : ∀ m, cntB s m ≤ m := by
        intro m
        induction m with
        | zero => simp [cntB]
        | succ m ihm => unfold cntB; split <;> omega
      exact this k
    obtain ⟨j0, hj1, hj2, hj3⟩ := cntB_two k hb (by omega) hl
    have hr0 := hrest j0 hj2 hj1 hj3
    have hi0 := ih _ (by omega) (Nat.lt_trans hr0.1 hk) (by omega)
    have hle0 := hcl.2 j0 hj2 hj1 hj3
    have hd0 := hd (low k s) j0 hlk hj2
    have hmul : (cntB s k : Int) * D = (cntB (wo1 (wo1 s (low k s)) j0) k : Int) * D + 2 * D := by
      rw [hr0.2]; push_cast; rw [Int.add_mul, Int.add_mul]; omega
    have hmul2 : (cntB s k : Int) * D ≤ (k : Int) * D := Int.mul_le_mul_of_nonneg_right (by omega) hD
    have hub : (dpv d v k s).1 ≤ (cntB s k : Int) * D := by omega
    rcases hat with hat | ⟨j, h1, h2, h3, h4⟩
    · exfalso
      have : (dpv d v k s).1 = v := by rw [hat]
      omega
    · have hr := hrest j h1 h2 h3
      have hij := ih _ (by omega) (Nat.lt_trans hr.1 hk) (by omega)
      have hdj := hd (low k s) j hlk h1
      have e1 : (dpv d v k s).1 = (dpv d v k (wo1 (wo1 s (low k s)) j)).1 + d (low k s) j := by rw [h4]
      exact ⟨by omega, hub, fun _ => ⟨j, h1, h2, h3, by rw [h4], e1, fun j' a b c => hcl.2 j' a b c⟩⟩
theorem dpv_same {d : Nat → Nat → Int} {D v v' : Int} {k : Nat} (hd : ∀ i j, i < k → j < k → 0 ≤ d i j ∧ d i j ≤ D) (hv : (k : Int) * D < v) (hv' : (k : Int) * D < v') (hD : 0 ≤ D) : ∀ (n s : Nat), s ≤ n → s < 2 ^ k → cntB s k % 2 = 0 → (dpv d v k s).1 = (dpv d v' k s).1 := by
  intro n
  induction n with
  | zero =>
    intro s hs hk he
    obtain rfl : s = 0 := by omega
    rw [dpv_zero, dpv_zero]
  | succ n ih =>
    intro s hs hk he
    rcases Nat.eq_zero_or_pos s with rfl | h0
    · rw [dpv_zero, dpv_zero]
    obtain ⟨-, -, h1⟩ := dpv_even hd hv hD s s (Nat.le_refl _) hk he
    obtain ⟨-, -, h2⟩ := dpv_even hd hv' hD s s (Nat.le_refl _) hk he
    obtain ⟨j, a1, a2, a3, -, a4, a5⟩ := h1 h0
    obtain ⟨j', b1, b2, b3, -, b4, b5⟩ := h2 h0
    obtain ⟨hb, hlk, hl⟩ := low_ex hk h0
    have hrest : ∀ j, j < k → low k s < j → s.testBit j = true → wo1 (wo1 s (low k s)) j < s ∧ cntB s k = cntB (wo1 (wo1 s (low k s)) j) k + 2 := by
      intro j hj hij hbj
      have h1 : (wo1 s (low k s)).testBit j = true := by
        rw [wo1_bit, hbj]
        have : decide (low k s = j) = false := by simp; omega
        rw [this]; rfl
      have hc1 := cntB_off hb k
      rw [if_pos hlk] at hc1
      have hc2 := cntB_off h1 k
      rw [if_pos hj] at hc2
      exact ⟨Nat.lt_trans (wo1_lt h1) (wo1_lt hb), by omega⟩
    have r1 := hrest j a1 a2 a3
    have r2 := hrest j' b1 b2 b3
    have e1 := ih _ (by omega) (Nat.lt_trans r1.1 hk) (by omega)
    have e2 := ih _ (by omega) (Nat.lt_trans r2.1 hk) (by omega)
    have c1 := a5 j' b1 b2 b3
    have c2 := b5 j a1 a2 a3
    omega
end Go.Proofs.Ytbhjhajnhpohlaa
