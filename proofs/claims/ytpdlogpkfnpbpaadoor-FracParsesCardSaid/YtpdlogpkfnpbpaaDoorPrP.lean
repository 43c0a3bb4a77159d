/- Plain law of Print and Parse: what a fraction's string parses to. No conditions. -/
import Derived.Lib.ItoaNum
import Derived.Lib.Atoi
namespace Go.Proofs.YtpdlogpkfnpbpaaDoor
open Go.Lib (decDigits decNat decFrom digitVal)

def IsD (b : UInt8) : Prop := 48 ≤ b.toNat ∧ b.toNat ≤ 57
theorem isD_of {k : Nat} (h : k < 10) : (UInt8.ofNat (48 + k)).toNat = 48 + k := by
  rw [UInt8.toNat_ofNat']; omega
theorem dec_small {n : Nat} (h : n < 10) : decDigits n = [UInt8.ofNat (48 + n)] := by rw [decDigits, dif_pos h]
theorem dec_big {n : Nat} (h : ¬ n < 10) : decDigits n = decDigits (n / 10) ++ [UInt8.ofNat (48 + n % 10)] := by rw [decDigits, dif_neg h]
theorem dec_isD (n : Nat) : ∀ b ∈ decDigits n, IsD b := by
  induction n using Nat.strongRecOn with
  | _ n ih =>
    intro b hb
    by_cases h : n < 10
    · rw [dec_small h] at hb
      simp only [List.mem_singleton] at hb
      subst hb
      unfold IsD; rw [isD_of h]; omega
    · rw [dec_big h] at hb
      rcases List.mem_append.1 hb with hb | hb
      · exact ih (n / 10) (by omega) b hb
      · simp only [List.mem_singleton] at hb
        subst hb
        unfold IsD; rw [isD_of (show n % 10 < 10 by omega)]; omega
theorem dec_ne (n : Nat) : decDigits n ≠ [] := by
  by_cases h : n < 10
  · rw [dec_small h]; simp
  · rw [dec_big h]; simp
theorem dec_len : ∀ (k n : Nat), n < 10 ^ (k + 1) → (decDigits n).length ≤ k + 1
  | 0, n, h => by rw [dec_small (by simpa using h)]; simp
  | k + 1, n, h => by
    by_cases h1 : n < 10
    · rw [dec_small h1]; simp
    · rw [dec_big h1, List.length_append]
      have := dec_len k (n / 10) (by rw [Nat.pow_succ] at h; omega)
      simp; omega
theorem decFrom_app : ∀ (l m : List UInt8) (acc : Nat), decFrom acc (l ++ m) = (decFrom acc l).bind fun a => decFrom a m
  | [], _, _ => rfl
  | b :: l, m, acc => by
    have e1 : ∀ r, decFrom acc (b :: r) = match digitVal b with | some d => decFrom (acc * 10 + d) r | none => none := fun _ => rfl
    rw [List.cons_append, e1, e1]
    cases h : digitVal b with
    | none => rfl
    | some d => exact decFrom_app l m _
theorem digitVal_of {k : Nat} (h : k < 10) : digitVal (UInt8.ofNat (48 + k)) = some k := by
  unfold digitVal
  rw [isD_of h, if_pos (by omega)]
  simp
theorem decFrom_one {k acc : Nat} (h : k < 10) : decFrom acc [UInt8.ofNat (48 + k)] = some (acc * 10 + k) := by
  unfold decFrom
  rw [digitVal_of h]
  first | rfl | (simp [decFrom]; omega) | simp [decFrom]
theorem decFrom_dec (n : Nat) : decFrom 0 (decDigits n) = some n := by
  induction n using Nat.strongRecOn with
  | _ n ih =>
    by_cases h : n < 10
    · rw [dec_small h, decFrom_one h]; simp
    · rw [dec_big h, decFrom_app, ih (n / 10) (by omega)]
      show decFrom (n / 10) [UInt8.ofNat (48 + n % 10)] = some n
      rw [decFrom_one (by omega)]
      congr 1; omega
theorem decNat_dec (n : Nat) : decNat (decDigits n) = some n := by
  unfold decNat
  rw [if_neg (by simpa using dec_ne n)]
  exact decFrom_dec n
/-- a number of at most ten digits -/
def numP (l : List UInt8) : Option Nat := if l.length ≤ 10 then decNat l else none
theorem numP_dec {n : Nat} (h : n ≤ 1000000000) : numP (decDigits n) = some n := by
  unfold numP
  rw [if_pos (dec_len 9 n (by omega))]
  exact decNat_dec n
/-- around the first c -/
def cut1 (c : UInt8) : List UInt8 → List UInt8 × List UInt8 × Bool
  | [] => ([], [], false)
  | x :: l => if x = c then ([], l, true) else (x :: (cut1 c l).1, (cut1 c l).2)
theorem cut1_hit {c : UInt8} : ∀ {l m : List UInt8}, c ∉ l → cut1 c (l ++ c :: m) = (l, m, true)
  | [], _, _ => by simp [cut1]
  | x :: l, m, h => by
    have hx : x ≠ c := fun e => h (by simp [e])
    rw [List.cons_append, cut1, if_neg hx, cut1_hit (fun hm => h (by simp [hm]))]
theorem cut1_miss {c : UInt8} : ∀ {l : List UInt8}, c ∉ l → cut1 c l = (l, [], false)
  | [], _ => rfl
  | x :: l, h => by
    have hx : x ≠ c := fun e => h (by simp [e])
    rw [cut1, if_neg hx, cut1_miss (fun hm => h (by simp [hm]))]
/-- the string of a fraction -/
def absP (n d : Nat) : List UInt8 :=
  if n % d = 0 then decDigits (n / d) else if n / d = 0 then decDigits (n % d) ++ 47 :: decDigits d else decDigits (n / d) ++ 32 :: (decDigits (n % d) ++ 47 :: decDigits d)
def printP (a : Int) (d : Nat) : List UInt8 := (if a < 0 then [45] else []) ++ absP a.natAbs d
/-- without the sign -/
def sgnP : List UInt8 → Bool × List UInt8
  | 45 :: l => (true, l)
  | l => (false, l)
/-- whole and part -/
def wpP (t : List UInt8) : List UInt8 × List UInt8 := if (cut1 32 t).2.2 = false ∧ 47 ∈ t then ([48], t) else ((cut1 32 t).1, (cut1 32 t).2.1)
/-- numerator and denominator -/
def ndP (p : List UInt8) : List UInt8 × List UInt8 := if p = [] then ([48], [49]) else ((cut1 47 p).1, (cut1 47 p).2.1)
theorem no_sep {n : Nat} : (32 : UInt8) ∉ decDigits n ∧ (47 : UInt8) ∉ decDigits n ∧ (45 : UInt8) ∉ decDigits n := by
  refine ⟨fun h => ?_, fun h => ?_, fun h => ?_⟩ <;>
    (have := dec_isD n _ h; unfold IsD at this; revert this; decide)
theorem absP_ne (n d : Nat) : absP n d ≠ [] ∧ (absP n d).head? ≠ some 45 := by
  have hd : ∀ k (l : List UInt8), decDigits k ++ l ≠ [] ∧ (decDigits k ++ l).head? ≠ some 45 := fun k l => by
    have h1 := dec_ne k
    have h2 := (no_sep (n := k)).2.2
    cases h : decDigits k with
    | nil => exact absurd h h1
    | cons x m =>
      rw [h] at h2
      refine ⟨by simp, fun e => h2 ?_⟩
      simp at e
      simp [e]
  unfold absP
  split
  · have := hd (n / d) []
    rw [List.append_nil] at this
    exact this
  · split
    · exact hd _ _
    · exact hd _ _
theorem sgnP_abs (n d : Nat) : sgnP (absP n d) = (false, absP n d) := by
  obtain ⟨h1, h2⟩ := absP_ne n d
  generalize absP n d = l at *
  cases l with
  | nil => rfl
  | cons x m =>
    unfold sgnP
    split
    · rename_i e
      injection e with e1 e2
      subst e1; simp at h2
    · rfl
theorem sgnP_print (a : Int) (d : Nat) : sgnP (printP a d) = (decide (a < 0), absP a.natAbs d) := by
  unfold printP
  by_cases h : a < 0
  · rw [if_pos h, decide_eq_true h]; rfl
  · rw [if_neg h, decide_eq_false h, List.nil_append]; exact sgnP_abs _ _
/-- what it parses to -/
theorem wpP_abs (n d : Nat) : ∃ p, wpP (absP n d) = (decDigits (if n % d = 0 then n / d else if n / d = 0 then 0 else n / d), p) ∧ ndP p = (decDigits (if n % d = 0 then 0 else n % d), decDigits (if n % d = 0 then 1 else d)) := by
  obtain ⟨s1, s2, _⟩ := no_sep (n := n / d)
  obtain ⟨r1, r2, _⟩ := no_sep (n := n % d)
  obtain ⟨d1, d2, _⟩ := no_sep (n := d)
  have e0 : decDigits 0 = [48] := by rw [dec_small (by decide)]; rfl
  have e1 : decDigits 1 = [49] := by rw [dec_small (by decide)]; rfl
  unfold absP
  by_cases h1 : n % d = 0
  · simp only [if_pos h1]
    refine ⟨[], ?_, ?_⟩
    · unfold wpP
      rw [if_neg (fun h => s2 h.2), cut1_miss s1]
    · unfold ndP; rw [if_pos rfl, e0, e1]
  · simp only [if_neg h1]
    have hp : ndP (decDigits (n % d) ++ 47 :: decDigits d) = (decDigits (n % d), decDigits d) := by
      unfold ndP
      rw [if_neg (by simp), cut1_hit r2]
    have h32 : (32 : UInt8) ∉ decDigits (n % d) ++ 47 :: decDigits d := by
      intro h
      rcases List.mem_append.1 h with h | h
      · exact r1 h
      · rcases List.mem_cons.1 h with h | h
        · exact absurd h (by decide)
        · exact d1 h
    by_cases h2 : n / d = 0
    · simp only [if_pos h2]
      refine ⟨decDigits (n % d) ++ 47 :: decDigits d, ?_, hp⟩
      unfold wpP
      rw [cut1_miss h32, if_pos ⟨rfl, by simp⟩, e0]
    · simp only [if_neg h2]
      refine ⟨decDigits (n % d) ++ 47 :: decDigits d, ?_, hp⟩
      unfold wpP
      rw [cut1_hit s1, if_neg (fun h => by cases h.1)]
/-- whole, numerator, denominator of a string -/
def candP (s : List UInt8) : Bool × Option Nat × Option Nat × Option Nat := ((sgnP s).1, numP (wpP (sgnP s).2).1, numP (ndP (wpP (sgnP s).2).2).1, numP (ndP (wpP (sgnP s).2).2).2)
theorem cand_print {a : Int} {d : Nat} (hd1 : 1 ≤ d) (hd : d ≤ 1000000000) (ha : a.natAbs ≤ 1000000000) : ∃ w x y : Nat, candP (printP a d) = (decide (a < 0), some w, some x, some y) ∧ 1 ≤ y ∧ y ≤ 1000000000 ∧ w ≤ 1000000000 ∧ x ≤ 1000000000 ∧ (w * y + x) * d = a.natAbs * y := by
  obtain ⟨p, h1, h2⟩ := wpP_abs a.natAbs d
  generalize hn : a.natAbs = n at *
  have hdiv := Nat.div_add_mod n d
  have hle : n / d ≤ n := Nat.div_le_self _ _
  have hmod : n % d < d := Nat.mod_lt _ hd1
  refine ⟨if n % d = 0 then n / d else if n / d = 0 then 0 else n / d, if n % d = 0 then 0 else n % d, if n % d = 0 then 1 else d, ?_, ?_, ?_, ?_, ?_, ?_⟩
  · unfold candP
    rw [sgnP_print, hn]
    simp only
    rw [h1]
    simp only
    rw [h2]
    simp only
    rw [numP_dec (by split; omega; split <;> omega), numP_dec (by split <;> omega), numP_dec (by split <;> omega)]
  · split <;> omega
  · split <;> omega
  · split; omega; split <;> omega
  · split <;> omega
  · by_cases h0 : n % d = 0
    · simp only [if_pos h0]
      rw [h0] at hdiv
      rw [Nat.mul_one, Nat.add_zero, Nat.mul_one, Nat.mul_comm]
      omega
    · simp only [if_neg h0]
      by_cases h3 : n / d = 0
      · simp only [if_pos h3]
        rw [h3, Nat.mul_zero] at hdiv
        rw [Nat.zero_mul, Nat.zero_add]
        rw [show n % d = n by omega]
      · simp only [if_neg h3]
        rw [Nat.mul_comm (n / d) d, hdiv]
end Go.Proofs.YtpdlogpkfnpbpaaDoor
