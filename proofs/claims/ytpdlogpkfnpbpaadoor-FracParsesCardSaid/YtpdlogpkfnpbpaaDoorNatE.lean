/- Walks of the reference's divided and divisor on naturals. Conditions: the arguments lie in memory as naturals of at most 20,000 digits; the divisor is not zero. -/
import Derived.Test.YtpdlogpkfnpbpaaDoorNatD
namespace Go.Proofs.YtpdlogpkfnpbpaaDoor
open Go.RowKit

theorem own_ext {w w' : World} {base n : Nat} {e : TypeId} {size : Nat} {v : Value} {xs : List Value} (h : w.ownsRow base e size v n xs) (hb : Below w.heap.size w w') : w'.ownsRow base e size v n xs := by
  obtain ⟨h1, h2⟩ := h
  refine ⟨h1, ?_⟩
  rcases h2 with h2 | ⟨g, cap, cur, hv, hg, hh, r⟩
  · exact .inl h2
  · refine .inr ⟨g, cap, cur, hv, hg, ?_, r⟩
    rw [hb.block g ?_]
    · exact hh
    · rcases Nat.lt_or_ge g w.heap.size with hlt | hge
      · exact hlt
      · rw [Array.getElem?_eq_none hge] at hh; cases hh

/-- a natural in another block is not turned by a store -/
theorem natAt_set {w : World} {v : Value} {n g j : Nat} {u : Value} (h : NatAt w v n) (hne : ∀ b, v.ownBlock = some b → b ≠ g) : NatAt (w.setCell ⟨g, j, none⟩ u) v n := by
  obtain ⟨A, cap, rfl, h1, h2, h3⟩ := h
  refine ⟨A, cap, rfl, h1, h2, ?_⟩
  rcases h3 with h3 | ⟨b, off, rfl, hlt, hc⟩
  · exact .inl h3
  · have hbg := hne b rfl
    refine .inr ⟨b, off, rfl, ⟨_, (Below.heap_setCell _ _ _ _ hbg).trans hlt.choose_spec⟩, fun k x hx => ?_⟩
    rw [World.cell?_setCell_other]
    · exact hc k x hx
    · intro e
      injection e with e1
      exact hne b rfl (by first | exact e1 | exact e1.symm)
theorem dig_one : Num.dig 1 = [1] := by rw [Num.dig_pos (by omega), show 1 / 4294967296 = 0 from rfl, Num.dig_zero]
theorem one_new (w : World) : NatAt (w.alloc (.cells #[.int .u32 1] 70)) (.slice (some ⟨w.heap.size, 0, none⟩) 1 1) 1 := by
  unfold NatAt
  rw [dig_one]
  refine ⟨_, 1, rfl, by simp [u32s], by simp [maxLen], .inr ⟨w.heap.size, 0, rfl, ⟨_, heap_alloc_new w _⟩, ?_⟩⟩
  intro j u hu
  match j, hu with
  | 0, hu => simp [u32s] at hu; subst hu; simp
theorem zero_nil (w : World) : NatAt w (.slice none 0 0) 0 := by
  unfold NatAt
  rw [Num.dig_zero]
  exact Row.nil w

theorem getD_val (l : List Nat) (h : ∀ d ∈ l, d < 4294967296) (k : Nat) : l.getD k 0 = Num.val l / 4294967296 ^ k % 4294967296 := by
  induction l generalizing k with
  | nil => simp [Num.val]
  | cons d ds ih =>
    have hd := h d (List.mem_cons_self ..)
    cases k with
    | zero => simp [Num.val]; omega
    | succ k =>
      rw [List.getD_cons_succ, ih (fun x hx => h x (List.mem_cons_of_mem _ hx)) k, Num.val, Nat.pow_succ, Nat.mul_comm (4294967296 ^ k), ← Nat.div_div_eq_div_mul]
      congr 2
      omega
theorem pow_split (i : Nat) : 2 ^ i = 4294967296 ^ (i / 32) * 2 ^ (i % 32) := by
  have : (4294967296 : Nat) = 2 ^ 32 := by decide
  rw [this, ← Nat.pow_mul, ← Nat.pow_add, Nat.div_add_mod]
theorem mod_bit (X m : Nat) (hm : m < 32) : X % 4294967296 / 2 ^ m % 2 = X / 2 ^ m % 2 := by
  have h := Nat.testBit_mod_two_pow X 32 m
  simp only [hm, decide_true, Bool.true_and, Nat.testBit_eq_decide_div_mod_eq] at h
  have e : (2 : Nat) ^ 32 = 4294967296 := by decide
  rw [e] at h
  have h1 : X % 4294967296 / 2 ^ m % 2 < 2 := Nat.mod_lt _ (by omega)
  have h2 : X / 2 ^ m % 2 < 2 := Nat.mod_lt _ (by omega)
  rcases Nat.lt_or_ge (X / 2 ^ m % 2) 1 with h3 | h3
  · have : X / 2 ^ m % 2 = 0 := by omega
    rw [this] at h ⊢
    simp at h
    omega
  · have : X / 2 ^ m % 2 = 1 := by omega
    rw [this] at h ⊢
    simp at h
    omega
/-- the bit of a number in its digits -/
theorem digit_bit (l : List Nat) (h : ∀ d ∈ l, d < 4294967296) (i : Nat) : l.getD (i / 32) 0 / 2 ^ (i % 32) % 2 = Num.val l / 2 ^ i % 2 := by
  rw [getD_val l h, mod_bit _ _ (Nat.mod_lt _ (by omega)), pow_split i, Nat.div_div_eq_div_mul]
theorem or_bit (x m : Nat) (h : x / 2 ^ m % 2 = 0) : x ||| 2 ^ m = x + 2 ^ m := by
  have hp := Nat.two_pow_pos m
  have e1 : x = 2 ^ (m + 1) * (x / 2 ^ (m + 1)) + x % 2 ^ m := by
    have h1 := Nat.div_add_mod x (2 ^ m)
    have h2 : x / 2 ^ (m + 1) = x / 2 ^ m / 2 := by rw [Nat.pow_succ, ← Nat.div_div_eq_div_mul]
    have h3 : x / 2 ^ m = 2 * (x / 2 ^ (m + 1)) := by omega
    rw [h3] at h1
    rw [Nat.pow_succ, Nat.mul_assoc]
    exact h1.symm
  have hl : x % 2 ^ m < 2 ^ m := Nat.mod_lt _ hp
  generalize x % 2 ^ m = l at *
  generalize x / 2 ^ (m + 1) = k at *
  have hl2 : 2 ^ m + l < 2 ^ (m + 1) := by rw [Nat.pow_succ]; omega
  have e2 : 2 ^ m + l = 2 ^ m ||| l := by simpa using Nat.two_pow_add_eq_or_of_lt hl 1
  have e3 := Nat.two_pow_add_eq_or_of_lt (show l < 2 ^ (m + 1) by omega) k
  have e4 := Nat.two_pow_add_eq_or_of_lt hl2 k
  rw [e1, e3, Nat.or_assoc, Nat.or_comm l, ← e2, ← e4, ← e3]
  omega

/-- a long division: the bits from j on are done -/
structure DivSt (a b : Nat) (Q : List Nat) (n r j : Nat) : Prop where
  len : Q.length = n
  lt : ∀ d ∈ Q, d < 4294967296
  lr : r < b
  eq : ∃ q, Num.val Q = q * 2 ^ j ∧ a / 2 ^ j = q * b + r

theorem DivSt.start {a b n : Nat} (hb : 0 < b) (ha : a < 4294967296 ^ n) : DivSt a b (List.replicate n 0) n 0 (32 * n) := by
  refine ⟨by simp, fun d hd => by simp at hd; omega, hb, 0, ?_, ?_⟩
  · rw [Num.val_zeros _ (fun d hd => by simp at hd; exact hd.2)]; simp
  · have : (2 : Nat) ^ (32 * n) = 4294967296 ^ n := by rw [Nat.pow_mul]
    rw [this, Nat.div_eq_of_lt ha]; simp
theorem half (a j : Nat) : a / 2 ^ j = 2 * (a / 2 ^ (j + 1)) + a / 2 ^ j % 2 := by
  rw [Nat.pow_succ, ← Nat.div_div_eq_div_mul]; omega
theorem DivSt.less {a b : Nat} {Q : List Nat} {n r j : Nat} (h : DivSt a b Q n r (j + 1)) (hlt : r + r + a / 2 ^ j % 2 < b) : DivSt a b Q n (r + r + a / 2 ^ j % 2) j := by
  obtain ⟨h1, h2, h3, q, h4, h5⟩ := h
  refine ⟨h1, h2, hlt, 2 * q, by rw [h4, Nat.pow_succ, Nat.mul_comm 2 q, Nat.mul_assoc, Nat.mul_comm 2], ?_⟩
  have := half a j
  rw [h5] at this
  rw [Nat.mul_assoc]
  omega
theorem DivSt.bit0 {a b : Nat} {Q : List Nat} {n r j : Nat} (h : DivSt a b Q n r (j + 1)) : Q.getD (j / 32) 0 / 2 ^ (j % 32) % 2 = 0 := by
  obtain ⟨h1, h2, h3, q, h4, h5⟩ := h
  rw [digit_bit Q h2, h4, Nat.pow_succ, Nat.mul_comm (2 ^ j) 2, ← Nat.mul_assoc, Nat.mul_div_cancel _ (Nat.two_pow_pos j), Nat.mul_mod_left]
theorem bit_lt {x m : Nat} (hx : x < 4294967296) (hm : m < 32) (h0 : x / 2 ^ m % 2 = 0) : x + 2 ^ m < 4294967296 := by
  rw [← or_bit x m h0]
  have e : (2 : Nat) ^ 32 = 4294967296 := by decide
  rw [← e] at hx ⊢
  exact Nat.or_lt_two_pow hx (Nat.pow_lt_pow_right (by omega) hm)
theorem DivSt.more {a b : Nat} {Q : List Nat} {n r j : Nat} (h : DivSt a b Q n r (j + 1)) (hj : j / 32 < n) (hge : b ≤ r + r + a / 2 ^ j % 2) :
    DivSt a b (Q.set (j / 32) (Q.getD (j / 32) 0 + 2 ^ (j % 32))) n (r + r + a / 2 ^ j % 2 - b) j := by
  have h0 := h.bit0
  obtain ⟨h1, h2, h3, q, h4, h5⟩ := h
  have hbit : a / 2 ^ j % 2 < 2 := Nat.mod_lt _ (by omega)
  refine ⟨by simpa using h1, mem_set_lt h2 (bit_lt (Num.getD_lt Q h2 _) (Nat.mod_lt _ (by omega)) h0), by omega, 2 * q + 1, ?_, ?_⟩
  · have hv := val_set Q (j / 32) (Q.getD (j / 32) 0 + 2 ^ (j % 32)) (by omega)
    rw [Nat.mul_add, ← pow_split, h4, Nat.pow_succ] at hv
    rw [Nat.add_mul, Nat.one_mul, Nat.mul_comm 2 q, Nat.mul_assoc, Nat.mul_comm 2]
    omega
  · have := half a j
    rw [h5] at this
    rw [Nat.add_mul, Nat.mul_assoc]
    omega
theorem DivSt.done {a b : Nat} {Q : List Nat} {n r : Nat} (h : DivSt a b Q n r 0) : Num.val Q = a / b ∧ r = a % b := by
  obtain ⟨h1, h2, h3, q, h4, h5⟩ := h
  simp at h4 h5
  have hb : 0 < b := by omega
  rw [h4, h5]
  constructor
  · rw [Nat.mul_comm, Nat.mul_add_div hb, Nat.div_eq_of_lt h3]; rfl
  · rw [Nat.mul_comm, Nat.mul_add_mod, Nat.mod_eq_of_lt h3]
theorem dig_len_succ {n m : Nat} (h : m ≤ 4294967295 * n + 4294967295) : (Num.dig m).length ≤ (Num.dig n).length + 1 := by
  have h1 := Num.dig_len_le.1 (Nat.le_refl (Num.dig n).length)
  refine Num.dig_len_le.2 ?_
  rw [Nat.pow_succ]
  omega

/-- two naturals handed back -/
def RetNat2 (w : World) (n m : Nat) (e : Ending) (w' : World) : Prop := ∃ v u, e = .returned (.tuple #[v, u]) ∧ NatAt w' v n ∧ NatAt w' u m ∧ Below w.heap.size w w'

theorem div_bounds {a b : Nat} (ha : a < 18446744073709551616) : 0 ≤ (a : Int) / b ∧ (a : Int) / b < 18446744073709551616 ∧ ((a : Int) / b).toNat = a / b := by
  have h1 : ((a / b : Nat) : Int) = (a : Int) / b := by simp
  have := Nat.div_le_self a b
  have h2 := Int.natCast_nonneg (a / b)
  rw [← h1]
  refine ⟨h2, ?_, Int.toNat_natCast _⟩
  have : ((a / b : Nat) : Int) ≤ (a : Int) := by exact_mod_cast this
  omega
theorem mod_bounds {a b : Nat} (hb : b < 18446744073709551616) (h0 : 0 < b) : 0 ≤ (a : Int) % b ∧ (a : Int) % b < 18446744073709551616 ∧ ((a : Int) % b).toNat = a % b := by
  have h1 : ((a % b : Nat) : Int) = (a : Int) % b := by simp
  have := Nat.mod_lt a h0
  have h2 := Int.natCast_nonneg (a % b)
  rw [← h1]
  refine ⟨h2, ?_, Int.toNat_natCast _⟩
  have : ((a % b : Nat) : Int) < (b : Int) := by exact_mod_cast this
  omega

set_option maxRecDepth 100000 in
set_option maxHeartbeats 400000 in
theorem divided_short (va vb : Value) (a b : Nat) (w : World) (ha : NatAt w va a) (hb : NatAt w vb b) (za : a < 18446744073709551616) (zb : b < 18446744073709551616) (h0 : 0 < b) :
    Calls Tryd.prog 58 #[va, vb] w (RetNat2 w (a / b) (a % b)) := by
  have ha' := ha
  have hb' := hb
  obtain ⟨A, ca, rfl, hca, hma, hsa⟩ := ha
  obtain ⟨A', cb, rfl, hcb, hmb, hsb⟩ := hb
  have l1 := Num.dig_len_two.2 za
  have l2 := Num.dig_len_two.2 zb
  rw [u32s_len] at hca hcb ha' hb' ⊢
  rw [u32s_len]
  generalize (Num.dig a).length = la at *
  generalize (Num.dig b).length = lb at *
  obtain ⟨c1, c2, c3⟩ := div_bounds (b := b) za
  obtain ⟨d1, d2, d3⟩ := mod_bounds (a := a) zb h0
  have HZA := Lib.hid za
  have HZB := Lib.hid zb
  have HA := Lib.hid ha'
  have HB := Lib.hid hb'
  have hb0 : ((b : Int) == 0) = false := by simp; omega
  have C1 := Lib.hid c1
  have D1 := Lib.hid d1
  have HB0 := Lib.hid hb0
  clear c1 d1 hb0
  have C2 := Lib.hid c2
  have C3 := Lib.hid c3
  have D2 := Lib.hid d2
  have D3 := Lib.hid d3
  clear za zb ha' hb' hsa hsb c2 c3 d2 d3
  have g1 : decide ((la : Int) ≤ 2) = true := by simp; omega
  have g2 : decide ((lb : Int) ≤ 2) = true := by simp; omega
  go_enter Tryd.func58, Tryd.ntmps58
  go_wp2_with (first
    | (go_at_call_of 59 (Value.slice A la ca); refine (short_any _ a _ HZA.out (HA.out.ext ?_)).mono ?_; (first | exact Below.refl _ _ | assumption); rintro e w' ⟨rfl, rfl⟩)
    | (go_at_call_of 59 (Value.slice A' lb cb); refine (short_any _ b _ HZB.out (HB.out.ext ?_)).mono ?_; (first | exact Below.refl _ _ | assumption); rintro e w' ⟨rfl, rfl⟩; have hb0 := HB0.out; have c1 := C1.out; have d1 := D1.out; have c2 := C2.out; have d2 := D2.out)
    | (go_at_call_of 42 ((a : Int) / b); refine (natural_any _ _ c1 C2.out).mono ?_; rintro e w1 ⟨v1, rfl, hn1, hb1⟩)
    | (go_at_call_of 42 ((a : Int) % b); refine (natural_any _ _ d1 D2.out).mono ?_; rintro e w2 ⟨v2, rfl, hn2, hb2⟩))
  go_ret2
  rw [C3.out] at hn1
  rw [D3.out] at hn2
  exact ⟨_, _, rfl, hn1.ext hb2, hn2, ext_trans hb1 hb2⟩
end Go.Proofs.YtpdlogpkfnpbpaaDoor
