/- Walks of the reference's plus and less on naturals. Conditions: the arguments lie in memory as naturals of at most 100,000 digits; the second of less is not above the first. -/
import Derived.Test.YtpdlogpkfnpbpaaDoorNatA
namespace Go.Proofs.YtpdlogpkfnpbpaaDoor
open Go.RowKit

/-- after k digits of a sum -/
structure PlusSt (la lb out : List Nat) (carry : Int) (k : Nat) : Prop where
  len : out.length = k
  c0 : 0 ≤ carry
  c1 : carry ≤ 1
  lt : ∀ d ∈ out, d < 4294967296
  eq : Num.val out + 4294967296 ^ k * carry.toNat = Num.val (la.take k) + Num.val (lb.take k)

theorem PlusSt.step {la lb out : List Nat} {carry c' : Int} {k : Nat} (h : PlusSt la lb out carry k) (ha : ∀ d ∈ la, d < 4294967296) (hb : ∀ d ∈ lb, d < 4294967296)
    (hc : c' = carry + la.getD k 0 + lb.getD k 0) : PlusSt la lb (out ++ [(c' % 4294967296).toNat]) (c' / 4294967296) (k + 1) := by
  have h1 := Num.getD_lt la ha k
  have h2 := Num.getD_lt lb hb k
  obtain ⟨hl, h0, h3, hlt, he⟩ := h
  refine ⟨by simp [hl], by omega, by omega, ?_, ?_⟩
  · intro d hd
    rcases List.mem_append.1 hd with hd | hd
    · exact hlt d hd
    · simp at hd; omega
  · rw [Num.val_append, Num.val_take_succ, Num.val_take_succ, hl, Nat.pow_succ]
    simp only [Num.val]
    generalize la.getD k 0 = x at *
    generalize lb.getD k 0 = y at *
    generalize 4294967296 ^ k = p at *
    have e : (c' % 4294967296).toNat + 4294967296 * (c' / 4294967296).toNat = carry.toNat + x + y := by omega
    have e2 : p * ((c' % 4294967296).toNat + 4294967296 * (c' / 4294967296).toNat) = p * carry.toNat + p * x + p * y := by rw [e, Nat.mul_add, Nat.mul_add]
    rw [Nat.mul_add] at e2
    rw [Nat.mul_assoc]
    simp only [Nat.mul_zero, Nat.add_zero]
    omega

theorem getD_none {l : List Nat} {k : Nat} (h : ¬ k < l.length) : l.getD k 0 = 0 := by
  rw [List.getD_eq_getElem?_getD, List.getElem?_eq_none (by omega)]; rfl
theorem PlusSt.done {la lb out : List Nat} {k : Nat} (h : PlusSt la lb out 0 k) (ha : ¬ k < la.length) (hb : ¬ k < lb.length) : Num.val out = Num.val la + Num.val lb := by
  have := h.eq
  rw [List.take_of_length_le (by omega), List.take_of_length_le (by omega)] at this
  simpa using this

theorem nat_cell {w : World} {A : Option Addr} {l : List Nat} {T : TypeId} (hs : Sl T w A (u32s l)) {k : Nat} (hk : k < l.length) :
    ∃ b off, A = some ⟨b, off, none⟩ ∧ b < w.heap.size ∧ w.cell? ⟨b, off + k, none⟩ = some (.int .u32 ((l.getD k 0 : Nat) : Int)) := by
  obtain ⟨b, off, h1, h2, h3⟩ := hs.at_ (by rw [u32s_len]; exact hk : k < (u32s l).length)
  rw [u32s_get] at h3
  exact ⟨b, off, h1, h2, h3⟩

theorem plus_close {la lb out : List Nat} {cy x y d c2 : Int} {k : Nat} {w wr w1 : World} {v' : Value} {e : TypeId} {base : Nat} (HLA : Hid (∀ d ∈ la, d < 4294967296)) (HLB : Hid (∀ d ∈ lb, d < 4294967296)) (hst : PlusSt la lb out cy k)
    (hx : x = la.getD k 0) (hy : y = lb.getD k 0) (hk : k < 100000 ∨ k ≤ 100000 ∧ x = 0 ∧ y = 0) (hb : Below base w wr) (hb1 : Below base wr w1)
    (hd : d = (cy + x + y) % 4294967296) (hc2 : c2 = (cy + x + y) / 4294967296)
    (hown : w1.ownsRow base e 1 v' (k + 1) (u32s out ++ [.int .u32 d])) :
    ∃ (k' : Nat) (out' : List Nat) (cy' : Int), Value.int .i64 ((k : Int) + 1) = .int .i64 k' ∧ Value.int .u64 c2 = .int .u64 cy' ∧ (k' ≤ 100000 ∨ k' ≤ 100001 ∧ cy' = 0) ∧ PlusSt la lb out' cy' k' ∧
      w1.ownsRow base e 1 v' k' (u32s out') ∧ Below base w w1 := by
  subst hd hc2
  have h0 := hst.c0
  have h1 := hst.c1
  refine ⟨k + 1, out ++ [((cy + x + y) % 4294967296).toNat], (cy + x + y) / 4294967296, by go_num, rfl, by omega, hst.step HLA.out HLB.out (by rw [hx, hy]), ?_, hb.trans hb1⟩
  rw [u32s_append, u32s_one]
  exact hown

set_option maxHeartbeats 2000000 in
theorem plus_any (va vb : Value) (a b : Nat) (w : World) (ha : NatAt w va a) (hb : NatAt w vb b) (za : (Num.dig a).length ≤ 100000) (zb : (Num.dig b).length ≤ 100000) :
    Calls Tryd.prog 39 #[va, vb] w (RetNat w (a + b)) := by
  obtain ⟨A, ca, rfl, hca, hma, hsa⟩ := ha
  obtain ⟨A', cb, rfl, hcb, hmb, hsb⟩ := hb
  have hva := Num.val_dig a
  have hvb := Num.val_dig b
  have hla := Num.dig_lt a
  have hlb := Num.dig_lt b
  generalize Num.dig a = la at *
  generalize Num.dig b = lb at *
  rw [u32s_len] at hca hcb ⊢
  rw [u32s_len]
  unfold maxLen at hma hmb
  have HVA := Lib.hid hva
  have HVB := Lib.hid hvb
  have HLA := Lib.hid hla
  have HLB := Lib.hid hlb
  clear hva hvb hla hlb
  go_enter Tryd.func39, Tryd.ntmps39
  go_wp2
  go_loopw [5, 6, 7] (fun v c i wr => ∃ (k : Nat) (out : List Nat) (cy : Int), i = .int .i64 k ∧ c = .int .u64 cy ∧ (k ≤ 100000 ∨ k ≤ 100001 ∧ cy = 0) ∧ PlusSt la lb out cy k ∧
      wr.ownsRow w.heap.size 70 1 v k (u32s out) ∧ Below w.heap.size w wr)
    (fun _ _ i _ => 100002 - (intOf i).toNat)
  case atStart => exact ⟨0, [], 0, rfl, rfl, by omega, ⟨rfl, by omega, by omega, by simp, by simp [Num.val]⟩, World.ownsRow_nil _ _ _ _, Below.refl _ _⟩
  case round =>
    obtain ⟨k, out, cy, rfl, rfl, hk, hst, hown, hb⟩ := hrel
    have hc0 := hst.c0
    have hc1 := hst.c1
    have hsz := hb.size
    have b1 := Num.getD_lt la HLA.out k
    have b2 := Num.getD_lt lb HLB.out k
    by_cases h1 : k < la.length
    · obtain ⟨ba, oa, rfl, hlt1, hcA⟩ := nat_cell (hsa.ext hb) h1
      obtain ⟨x, hx⟩ : ∃ x, x = la.getD k 0 := ⟨_, rfl⟩
      rw [← hx] at hcA b1
      have HX := Lib.hid hx
      clear hx
      by_cases h2 : k < lb.length
      · obtain ⟨bb, ob, rfl, hlt2, hcB⟩ := nat_cell (hsb.ext hb) h2
        obtain ⟨y, hy⟩ : ∃ y, y = lb.getD k 0 := ⟨_, rfl⟩
        rw [← hy] at hcB b2
        have HY := Lib.hid hy
        clear hy
        go_wp2_with (at_builtin; refine wpList_push wr rfl _ _ 43 rfl w.heap.size 70 (.int .u32 0) 4 Tryd.underlying43 info_u32 rfl hown (by rfl) (by rfl) (by rfl) ?c1 ?c2 hsz ?_)
        case c1 => unfold maxLen; omega
        case c2 => omega
        intro v' w1 hown1 hb1 _
        go_wp2
        go_roundw
        case rel => exact plus_close HLA HLB hst (x := x) (y := y) (by rw [HX.out]) (by rw [HY.out]) (by omega) hb hb1 (by omega) (by omega) hown1
        case measure => simp [intOf]; omega
      · have HY := Lib.hid (getD_none h2)
        go_wp2_with (at_builtin; refine wpList_push wr rfl _ _ 43 rfl w.heap.size 70 (.int .u32 0) 4 Tryd.underlying43 info_u32 rfl hown (by rfl) (by rfl) (by rfl) ?d1 ?d2 hsz ?_)
        case d1 => unfold maxLen; omega
        case d2 => omega
        intro v' w1 hown1 hb1 _
        go_wp2
        go_roundw
        case rel => exact plus_close HLA HLB hst (x := x) (y := 0) (by rw [HX.out]) (by rw [HY.out]; rfl) (by omega) hb hb1 (by omega) (by omega) hown1
        case measure => simp [intOf]; omega
    · have HX := Lib.hid (getD_none h1)
      by_cases h2 : k < lb.length
      · obtain ⟨bb, ob, rfl, hlt2, hcB⟩ := nat_cell (hsb.ext hb) h2
        obtain ⟨y, hy⟩ : ∃ y, y = lb.getD k 0 := ⟨_, rfl⟩
        rw [← hy] at hcB b2
        have HY := Lib.hid hy
        clear hy
        go_wp2_with (at_builtin; refine wpList_push wr rfl _ _ 43 rfl w.heap.size 70 (.int .u32 0) 4 Tryd.underlying43 info_u32 rfl hown (by rfl) (by rfl) (by rfl) ?e1 ?e2 hsz ?_)
        case e1 => unfold maxLen; omega
        case e2 => omega
        intro v' w1 hown1 hb1 _
        go_wp2
        go_roundw
        case rel => exact plus_close HLA HLB hst (x := 0) (y := y) (by rw [HX.out]; rfl) (by rw [HY.out]) (by omega) hb hb1 (by omega) (by omega) hown1
        case measure => simp [intOf]; omega
      · have HY := Lib.hid (getD_none h2)
        by_cases h3 : 0 < cy
        · obtain rfl : cy = 1 := by omega
          have hk1 : k ≤ 100000 := by omega
          go_wp2_with (at_builtin; refine wpList_push wr rfl _ _ 43 rfl w.heap.size 70 (.int .u32 0) 4 Tryd.underlying43 info_u32 rfl hown (by rfl) (by rfl) (by rfl) ?f1 ?f2 hsz ?_)
          case f1 => unfold maxLen; omega
          case f2 => omega
          intro v' w1 hown1 hb1 _
          go_wp2
          go_roundw
          case rel => exact plus_close HLA HLB hst (x := 0) (y := 0) (by rw [HX.out]; rfl) (by rw [HY.out]; rfl) (by omega) hb hb1 (by omega) (by omega) hown1
          case measure => simp [intOf]; omega
        · obtain rfl : cy = 0 := by omega
          have hl := hst.lt
          have he := hst.done h1 h2
          rw [HVA.out, HVB.out] at he
          have HL := Lib.hid hl
          have HE := Lib.hid he
          have HT := Lib.hid hst
          clear hl he hst
          go_wp2_with (go_at_call 56; refine (trimmed_any _ out _ HL.out (Row.of_own hown)).mono ?_; rintro e w' ⟨⟨v1, rfl, hn, hbn⟩, rfl, hsame⟩)
          go_ret
          rw [HE.out] at hn
          exact ⟨_, rfl, hn, hb⟩
end Go.Proofs.YtpdlogpkfnpbpaaDoor
