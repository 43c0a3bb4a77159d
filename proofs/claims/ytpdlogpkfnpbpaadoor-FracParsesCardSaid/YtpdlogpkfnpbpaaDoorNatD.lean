/- Walk of the reference's times on naturals. Conditions: the arguments lie in memory as naturals of at most 50,000 digits. -/
import Derived.Test.YtpdlogpkfnpbpaaDoorNatC
namespace Go.Proofs.YtpdlogpkfnpbpaaDoor
open Go.RowKit

theorem val_set (l : List Nat) (j v : Nat) (h : j < l.length) : Num.val (l.set j v) + 4294967296 ^ j * l.getD j 0 = Num.val l + 4294967296 ^ j * v := by
  induction l generalizing j with
  | nil => simp at h
  | cons a l ih =>
    cases j with
    | zero => simp [Num.val]; omega
    | succ j =>
      have := ih j (by simpa using h)
      simp only [List.set_cons_succ, Num.val, List.getD_cons_succ, Nat.pow_succ]
      generalize 4294967296 ^ j = p at *
      rw [Nat.mul_comm p 4294967296, Nat.mul_assoc, Nat.mul_assoc]
      omega
theorem getD_set (l : List Nat) (j k v : Nat) (h : j < l.length) : (l.set j v).getD k 0 = if k = j then v else l.getD k 0 := by
  rw [List.getD_eq_getElem?_getD, List.getD_eq_getElem?_getD, List.getElem?_set]
  by_cases hk : k = j
  · subst hk; simp [h]
  · simp [hk, Ne.symm hk]
theorem mem_set_lt {l : List Nat} {j v : Nat} (h : ∀ d ∈ l, d < 4294967296) (hv : v < 4294967296) : ∀ d ∈ l.set j v, d < 4294967296 := by
  intro d hd
  rcases List.mem_or_eq_of_mem_set hd with h1 | h1
  · exact h d h1
  · omega

/-- inside: i digits of a are done (value V), k digits of b are done for the digit x -/
structure TimesSt (V x : Nat) (lb O : List Nat) (n i k : Nat) (cy : Int) : Prop where
  len : O.length = n
  lt : ∀ d ∈ O, d < 4294967296
  zero : ∀ j, i + lb.length ≤ j → O.getD j 0 = 0
  c0 : 0 ≤ cy
  c1 : cy < 4294967296
  eq : Num.val O + 4294967296 ^ (i + k) * cy.toNat = V + 4294967296 ^ i * (x * Num.val (lb.take k))

theorem times_arith (P o c x y L V q : Nat) (c' : Int) (hc : c' = (c : Int) + (o + x * y : Nat)) {vs vo : Nat}
    (h1 : vs + P * o = vo + P * (c' % 4294967296).toNat) (h2 : vo + P * c = V + q * (x * L)) :
    vs + P * 4294967296 * (c' / 4294967296).toNat = V + q * (x * L) + P * (x * y) := by
  have e : (c' % 4294967296).toNat + 4294967296 * (c' / 4294967296).toNat = c + o + x * y := by omega
  have e2 : P * ((c' % 4294967296).toNat + 4294967296 * (c' / 4294967296).toNat) = P * (c + o + x * y) := by rw [e]
  rw [Nat.mul_add, Nat.mul_add, Nat.mul_add] at e2
  rw [Nat.mul_assoc]
  omega

theorem prod_le {x y : Nat} (hx : x < 4294967296) (hy : y < 4294967296) : x * y ≤ 18446744065119617025 := by
  have := Nat.mul_le_mul (show x ≤ 4294967295 by omega) (show y ≤ 4294967295 by omega)
  omega

theorem prod_le_int {x y : Nat} (hx : x < 4294967296) (hy : y < 4294967296) : (0 : Int) ≤ (x : Int) * y ∧ (x : Int) * y ≤ 18446744065119617025 := by
  have := prod_le hx hy
  have e : ((x * y : Nat) : Int) = (x : Int) * y := by simp
  rw [← e]
  omega

theorem TimesSt.step {V x : Nat} {lb O : List Nat} {n i k : Nat} {cy c' : Int} (h : TimesSt V x lb O n i k cy) (hb : ∀ d ∈ lb, d < 4294967296) (hx : x < 4294967296)
    (hk : k < lb.length) (hn : i + lb.length < n) (hc : c' = cy + ((O.getD (i + k) 0 + x * lb.getD k 0 : Nat) : Int)) : TimesSt V x lb (O.set (i + k) (c' % 4294967296).toNat) n i (k + 1) (c' / 4294967296) := by
  obtain ⟨hl, hlt, hz, h0, h1, he⟩ := h
  have g1 := Num.getD_lt O hlt (i + k)
  have g2 := prod_le hx (Num.getD_lt lb hb k)
  refine ⟨by simpa using hl, mem_set_lt hlt (by omega), ?_, by omega, by omega, ?_⟩
  · intro j hj
    rw [getD_set _ _ _ _ (by omega), if_neg (by omega)]
    exact hz j hj
  · have hv := val_set O (i + k) (c' % 4294967296).toNat (by omega)
    obtain ⟨c, rfl⟩ := Int.eq_ofNat_of_zero_le h0
    rw [← Nat.add_assoc, Nat.pow_succ, Num.val_take_succ, Nat.mul_add, Nat.mul_add, ← Nat.add_assoc]
    rw [times_arith _ _ c x (lb.getD k 0) (Num.val (lb.take k)) V (4294967296 ^ i) c' hc hv he]
    rw [Nat.pow_add, Nat.mul_left_comm x]
    simp only [Nat.mul_assoc]

/-- outside: i digits of a are done -/
structure TimesOut (la lb O : List Nat) (n i : Nat) : Prop where
  len : O.length = n
  lt : ∀ d ∈ O, d < 4294967296
  zero : ∀ j, i + lb.length ≤ j → O.getD j 0 = 0
  eq : Num.val O = Num.val (la.take i) * Num.val lb

theorem TimesOut.into {la lb O : List Nat} {n i : Nat} (h : TimesOut la lb O n i) (x : Nat) : TimesSt (Num.val (la.take i) * Num.val lb) x lb O n i 0 0 :=
  ⟨h.len, h.lt, h.zero, by omega, by omega, by rw [h.eq]; simp [Num.val]⟩
theorem TimesSt.out {la lb O : List Nat} {n i x : Nat} {cy : Int} (h : TimesSt (Num.val (la.take i) * Num.val lb) x lb O n i lb.length cy) (hx : x = la.getD i 0) (hn : i + lb.length < n) :
    TimesOut la lb (O.set (i + lb.length) cy.toNat) n (i + 1) := by
  obtain ⟨hl, hlt, hz, h0, h1, he⟩ := h
  refine ⟨by simpa using hl, mem_set_lt hlt (by omega), ?_, ?_⟩
  · intro j hj
    rw [getD_set _ _ _ _ (by omega), if_neg (by omega)]
    exact hz j (by omega)
  · have hv := val_set O (i + lb.length) cy.toNat (by omega)
    rw [hz _ (Nat.le_refl _), Nat.mul_zero, Nat.add_zero] at hv
    rw [hv, he, Num.val_take_succ, Nat.add_mul, List.take_length, hx, Nat.mul_assoc]

theorem replicate_u32 (n : Nat) : List.replicate n (Value.int .u32 0) = u32s (List.replicate n 0) := by simp [u32s]
theorem TimesOut.start (la lb : List Nat) (n : Nat) : TimesOut la lb (List.replicate n 0) n 0 := by
  refine ⟨by simp, ?_, ?_, ?_⟩
  · intro d hd; simp at hd; omega
  · intro j _; rw [List.getD_eq_getElem?_getD, List.getElem?_replicate]; split <;> rfl
  · rw [Num.val_zeros _ (fun d hd => by simp at hd; exact hd.2)]; simp [Num.val]
theorem own_cell {w : World} {base g n cap : Nat} {e : TypeId} {O : List Nat} (h : w.ownsRow base e 1 (.slice (some ⟨g, 0, none⟩) n cap) n (u32s O)) {j : Nat} (hj : j < O.length) :
    w.cell? ⟨g, j, none⟩ = some (.int .u32 ((O.getD j 0 : Nat) : Int)) := by
  have hl : O.length = n := by have := h.1; simpa [u32s] using this
  rw [h.cellAt j (by omega), List.getElem?_eq_getElem (by rw [u32s_len]; exact hj), u32s_get]
theorem own_set {w : World} {base g n cap : Nat} {e : TypeId} {O : List Nat} (h : w.ownsRow base e 1 (.slice (some ⟨g, 0, none⟩) n cap) n (u32s O)) (j : Nat) (v : Int) (hv : 0 ≤ v) (hg : base ≤ g) :
    (w.setCell ⟨g, j, none⟩ (.int .u32 v)).ownsRow base e 1 (.slice (some ⟨g, 0, none⟩) n cap) n (u32s (O.set j v.toNat)) ∧ Below base w (w.setCell ⟨g, j, none⟩ (.int .u32 v)) := by
  obtain ⟨h1, _⟩ := h.stored j (.int .u32 v)
  refine ⟨?_, (Below.refl _ _).setCell hg _⟩
  have : ((v.toNat : Nat) : Int) = v := by omega
  simpa [u32s, List.map_set, this] using h1

set_option maxHeartbeats 4000000 in
theorem times_any (va vb : Value) (a b : Nat) (w : World) (ha : NatAt w va a) (hb : NatAt w vb b) (za : (Num.dig a).length ≤ 50000) (zb : (Num.dig b).length ≤ 50000) :
    Calls Tryd.prog 37 #[va, vb] w (RetNat w (a * b)) := by
  obtain ⟨A, ca, rfl, hca, hma, hsa⟩ := ha
  obtain ⟨A', cb, rfl, hcb, hmb, hsb⟩ := hb
  have hva := Num.val_dig a
  have hvb := Num.val_dig b
  have hla := Num.dig_lt a
  have hlb := Num.dig_lt b
  generalize Num.dig a = la at *
  generalize Num.dig b = lb at *
  rw [u32s_len] at hca hcb ⊢
  rw [u32s_len]
  unfold maxLen at hma hmb
  have HVA := Lib.hid hva
  have HVB := Lib.hid hvb
  have HLA := Lib.hid hla
  have HLB := Lib.hid hlb
  clear hva hvb hla hlb
  go_enter Tryd.func37, Tryd.ntmps37
  go_wp2_with (refine wpList_zeros w rfl _ _ 43 rfl w.heap.size 70 (.int .u32 0) 4 Tryd.underlying43 info_u32 rfl (la.length + lb.length + 1) ((la.length : Int) + lb.length + 1) (by rfl) (by rfl) (by omega) (by omega) (by unfold maxLen; omega) (Nat.le_refl _) ?_)
  intro w1 hown1 hb1 hsz1
  rw [replicate_u32] at hown1
  have hgw := Nat.le_refl w.heap.size
  obtain ⟨n, hn⟩ : ∃ n, n = la.length + lb.length + 1 := ⟨_, rfl⟩
  have HST := Lib.hid (TimesOut.start la lb n)
  rw [← hn] at hown1 ⊢
  have hn1 : la.length + lb.length < n := by omega
  have hn2 : n ≤ 200000 := by omega
  clear hn
  generalize hO : List.replicate n 0 = O at *
  clear hO
  go_wp2
  go_loopw [20] (fun i wr => ∃ (k : Nat) (O : List Nat), i = .int .i64 k ∧ k ≤ la.length ∧ TimesOut la lb O n k ∧
      wr.ownsRow w.heap.size 70 1 (.slice (some ⟨w.heap.size, 0, none⟩) n n) n (u32s O) ∧ Below w.heap.size w wr)
    (fun i _ => la.length - (intOf i).toNat)
  case atStart => exact ⟨0, O, rfl, by omega, HST.out, hown1, hb1⟩
  case round =>
    obtain ⟨i, O1, rfl, hi, hst, hown, hb⟩ := hrel
    clear hown1 hb1
    obtain ⟨wo, rfl⟩ : ∃ wo : World, wo = wr := ⟨_, rfl⟩
    by_cases h1 : i < la.length
    · obtain ⟨ba, oa, rfl, hlt1, hcA⟩ := nat_cell (hsa.ext hb) h1
      have b1 := Num.getD_lt la HLA.out i
      obtain ⟨x, hx⟩ : ∃ x, x = la.getD i 0 := ⟨_, rfl⟩
      rw [← hx] at hcA b1
      have HX := Lib.hid hx
      clear hx
      go_wp2
      go_loopw [8, 27] (fun c j wr => ∃ (k : Nat) (O : List Nat) (cy : Int), j = .int .i64 k ∧ c = .int .u64 cy ∧ k ≤ lb.length ∧ TimesSt (Num.val (la.take i) * Num.val lb) x lb O n i k cy ∧
          wr.ownsRow w.heap.size 70 1 (.slice (some ⟨w.heap.size, 0, none⟩) n n) n (u32s O) ∧ Below w.heap.size w wr)
        (fun _ j _ => lb.length - (intOf j).toNat)
      case atStart => exact ⟨0, O1, 0, rfl, rfl, by omega, hst.into x, hown, hb⟩
      case round =>
        obtain ⟨k, O2, cy, rfl, rfl, hk, hst2, hown2, hb2⟩ := hrel
        have hc0 := hst2.c0
        have hc1 := hst2.c1
        have hl2 := hst2.len
        by_cases h2 : k < lb.length
        · obtain ⟨bb, ob, rfl, hlt2, hcB⟩ := nat_cell (hsb.ext hb2) h2
          have b2 := Num.getD_lt lb HLB.out k
          have hcO := own_cell hown2 (by omega : i + k < O2.length)
          have b3 := Num.getD_lt O2 hst2.lt (i + k)
          have hfz := hown2.frozenAt (i + k)
          have HS := Lib.hid (fun c' => hst2.step (c' := c') HLB.out b1 h2 (by omega))
          obtain ⟨y, hy⟩ : ∃ y, y = lb.getD k 0 := ⟨_, rfl⟩
          obtain ⟨o, ho⟩ : ∃ o, o = O2.getD (i + k) 0 := ⟨_, rfl⟩
          rw [← hy] at hcB b2
          rw [← ho] at hcO b3
          obtain ⟨b5, b6⟩ := prod_le_int b1 b2
          have HY := Lib.hid hy
          have HO := Lib.hid ho
          have HL2 := Lib.hid hl2
          have HST2 := Lib.hid hst2
          clear hy ho hl2 hst2
          go_wp2
          go_roundw
          case rel =>
            obtain ⟨q1, q2⟩ := own_set hown2 (i + k) ((cy + (o + x * y : Int)) % 4294967296) (by omega) hgw
            exact ⟨k + 1, _, _, by go_num, rfl, by omega, HS.out _ (by rw [← HO.out, ← HY.out]; simp), q1, hb2.trans q2⟩
          case measure => simp [intOf]; omega
        · obtain rfl : k = lb.length := by omega
          have hcO := own_cell hown2 (by omega : i + lb.length < O2.length)
          have hfz := hown2.frozenAt (i + lb.length)
          have HS := Lib.hid (hst2.out HX.out (by omega))
          have HL2 := Lib.hid hl2
          have HST2 := Lib.hid hst2
          clear hl2 hst2
          go_wp2
          go_roundw
          case rel =>
            obtain ⟨q1, q2⟩ := own_set hown2 (i + lb.length) cy (by omega) hgw
            exact ⟨i + 1, _, by go_num, by omega, HS.out, q1, hb2.trans q2⟩
          case measure => simp [intOf]; omega
    · obtain rfl : i = la.length := by omega
      have hv := hst.eq
      rw [List.take_length, HVA.out, HVB.out] at hv
      have HV := Lib.hid hv
      have HL := Lib.hid hst.lt
      have HST := Lib.hid hst
      clear hst hv
      go_wp2_with (go_at_call 56; refine (trimmed_any _ O1 _ HL.out (Row.of_own hown)).mono ?_; rintro e w' ⟨⟨v1, rfl, hn, hbn⟩, rfl, hsame⟩)
      go_ret
      rw [HV.out] at hn
      exact ⟨_, rfl, hn, hb⟩
end Go.Proofs.YtpdlogpkfnpbpaaDoor
