/- Walk of the reference's less on naturals. Conditions: the arguments lie in memory as naturals of at most 100,000 digits; the second is not above the first. -/
import Derived.Test.YtpdlogpkfnpbpaaDoorNatB
namespace Go.Proofs.YtpdlogpkfnpbpaaDoor
open Go.RowKit

/-- a result that is a natural in new memory -/
def RetNatF (w : World) (n : Nat) (e : Ending) (w' : World) : Prop := ∃ v, e = .returned v ∧ NatAt w' v n ∧ Below w.heap.size w w' ∧ ∀ b, v.ownBlock = some b → w.heap.size ≤ b

/-- after k digits of a difference -/
structure LessSt (la lb out : List Nat) (bo : Int) (k : Nat) : Prop where
  len : out.length = k
  c0 : 0 ≤ bo
  c1 : bo ≤ 1
  lt : ∀ d ∈ out, d < 4294967296
  eq : Num.val out + Num.val (lb.take k) = Num.val (la.take k) + 4294967296 ^ k * 0 ∧ bo = 0 ∨ Num.val out + Num.val (lb.take k) = Num.val (la.take k) + 4294967296 ^ k ∧ bo = 1

theorem less_c1 (p x y vo vb va : Nat) (d : Int) (hd : d = (x : Int) - 0 - y + 4294967296 * 0) (h0 : 0 ≤ d) (he : vo + vb = va) : vo + p * d.toNat + (vb + p * y) = va + p * x := by
  have e : d.toNat + y = x := by omega
  have e2 : p * (d.toNat + y) = p * x := by rw [e]
  rw [Nat.mul_add] at e2
  omega
theorem less_c2 (p x y vo vb va : Nat) (d : Int) (hd : d = (x : Int) - 1 - y + 4294967296 * 0) (h0 : 0 ≤ d) (he : vo + vb = va + p) : vo + p * d.toNat + (vb + p * y) = va + p * x := by
  have e : d.toNat + y + 1 = x := by omega
  have e2 : p * (d.toNat + y + 1) = p * x := by rw [e]
  rw [Nat.mul_add, Nat.mul_add] at e2
  omega
theorem less_c3 (p x y vo vb va : Nat) (d : Int) (hd : d = (x : Int) - 0 - y + 4294967296 * 1) (h0 : 0 ≤ d) (he : vo + vb = va) : vo + p * d.toNat + (vb + p * y) = va + p * x + p * 4294967296 := by
  have e : d.toNat + y = 4294967296 + x := by omega
  have e2 : p * (d.toNat + y) = p * (4294967296 + x) := by rw [e]
  rw [Nat.mul_add, Nat.mul_add] at e2
  omega
theorem less_c4 (p x y vo vb va : Nat) (d : Int) (hd : d = (x : Int) - 1 - y + 4294967296 * 1) (h0 : 0 ≤ d) (he : vo + vb = va + p) : vo + p * d.toNat + (vb + p * y) = va + p * x + p * 4294967296 := by
  have e : d.toNat + y + 1 = 4294967296 + x := by omega
  have e2 : p * (d.toNat + y + 1) = p * (4294967296 + x) := by rw [e]
  rw [Nat.mul_add, Nat.mul_add, Nat.mul_add] at e2
  omega
theorem less_bo {d x bo y b2 : Int} (hd : d = x - bo - y + 4294967296 * b2) (h0 : 0 ≤ d) (h1 : d < 4294967296) (c0 : 0 ≤ bo) (c1 : bo ≤ 1) (x0 : 0 ≤ x) (x1 : x < 4294967296) (y0 : 0 ≤ y) (y1 : y < 4294967296) : b2 = 0 ∨ b2 = 1 := by omega

theorem LessSt.step {la lb out : List Nat} {bo d b2 : Int} {k : Nat} (h : LessSt la lb out bo k) (ha : ∀ d ∈ la, d < 4294967296) (hb : ∀ d ∈ lb, d < 4294967296)
    (hd : d = (la.getD k 0 : Int) - bo - lb.getD k 0 + 4294967296 * b2) (h0 : 0 ≤ d) (h1 : d < 4294967296) : LessSt la lb (out ++ [d.toNat]) b2 (k + 1) := by
  have g1 := Num.getD_lt la ha k
  have g2 := Num.getD_lt lb hb k
  obtain ⟨hl, c0, c1, hlt, he⟩ := h
  have hb2 := less_bo hd h0 h1 c0 c1 (by omega) (by omega) (by omega) (by omega)
  have e1 : Num.val (out ++ [d.toNat]) = Num.val out + 4294967296 ^ k * d.toNat := by
    rw [Num.val_append, hl]
    simp only [Num.val, Nat.mul_zero, Nat.add_zero]
  refine ⟨by simp [hl], by omega, by omega, ?_, ?_⟩
  · intro x hx
    rcases List.mem_append.1 hx with hx | hx
    · exact hlt x hx
    · simp at hx; omega
  · rw [e1, Num.val_take_succ, Num.val_take_succ, Nat.pow_succ]
    rw [Nat.mul_zero, Nat.add_zero] at he
    rw [Nat.mul_zero, Nat.add_zero]
    rcases hb2 with hb2 | hb2 <;> subst hb2
    · left
      refine ⟨?_, rfl⟩
      rcases he with ⟨he, hbo⟩ | ⟨he, hbo⟩ <;> subst hbo
      · exact less_c1 _ _ _ _ _ _ _ hd h0 he
      · exact less_c2 _ _ _ _ _ _ _ hd h0 he
    · right
      refine ⟨?_, rfl⟩
      rcases he with ⟨he, hbo⟩ | ⟨he, hbo⟩ <;> subst hbo
      · exact less_c3 _ _ _ _ _ _ _ hd h0 he
      · exact less_c4 _ _ _ _ _ _ _ hd h0 he

theorem LessSt.done {la lb out : List Nat} {bo : Int} (h : LessSt la lb out bo la.length) (hl : lb.length ≤ la.length) (hv : Num.val lb ≤ Num.val la) : Num.val out = Num.val la - Num.val lb := by
  have h1 := Num.val_lt out h.lt
  rw [h.len] at h1
  rcases h.eq with ⟨he, _⟩ | ⟨he, _⟩ <;> rw [List.take_of_length_le (by omega), List.take_of_length_le (by omega)] at he <;> omega

theorem less_close {la lb out : List Nat} {bo d b2 x y : Int} {k : Nat} {w wr w1 : World} {v' : Value} {e : TypeId} {base : Nat} (HLA : Hid (∀ d ∈ la, d < 4294967296)) (HLB : Hid (∀ d ∈ lb, d < 4294967296)) (hst : LessSt la lb out bo k)
    (hx : x = la.getD k 0) (hy : y = lb.getD k 0) (hk : k < la.length) (hb : Below base w wr) (hb1 : Below base wr w1)
    (hd : d = x - bo - y + 4294967296 * b2) (h0 : 0 ≤ d) (h1 : d < 4294967296)
    (hown : w1.ownsRow base e 1 v' (k + 1) (u32s out ++ [.int .u32 d])) :
    ∃ (k' : Nat) (out' : List Nat) (bo' : Int), Value.int .i64 ((k : Int) + 1) = .int .i64 k' ∧ Value.int .i64 b2 = .int .i64 bo' ∧ k' ≤ la.length ∧ LessSt la lb out' bo' k' ∧
      w1.ownsRow base e 1 v' k' (u32s out') ∧ Below base w w1 := by
  refine ⟨k + 1, out ++ [d.toNat], b2, by go_num, rfl, by omega, hst.step HLA.out HLB.out (by rw [hd, hx, hy]) h0 h1, ?_, hb.trans hb1⟩
  rw [u32s_append]
  have : ((d.toNat : Nat) : Int) = d := by omega
  simp only [u32s, List.map_cons, List.map_nil, this] at *
  exact hown

set_option maxHeartbeats 2000000 in
theorem less_any (va vb : Value) (a b : Nat) (w : World) (ha : NatAt w va a) (hb : NatAt w vb b) (za : (Num.dig a).length ≤ 200000) (hba : b ≤ a) :
    Calls Tryd.prog 41 #[va, vb] w (RetNatF w (a - b)) := by
  obtain ⟨A, ca, rfl, hca, hma, hsa⟩ := ha
  obtain ⟨A', cb, rfl, hcb, hmb, hsb⟩ := hb
  have hva := Num.val_dig a
  have hvb := Num.val_dig b
  have hla := Num.dig_lt a
  have hlb := Num.dig_lt b
  have hll := Num.len_mono hba
  generalize Num.dig a = la at *
  generalize Num.dig b = lb at *
  rw [u32s_len] at hca hcb ⊢
  rw [u32s_len]
  unfold maxLen at hma hmb
  have HVA := Lib.hid hva
  have HVB := Lib.hid hvb
  have HLA := Lib.hid hla
  have HLB := Lib.hid hlb
  have HBA := Lib.hid hba
  clear hva hvb hla hlb hba
  go_enter Tryd.func41, Tryd.ntmps41
  go_wp2
  go_loopw [5, 6, 11] (fun v c i wr => ∃ (k : Nat) (out : List Nat) (bo : Int), i = .int .i64 k ∧ c = .int .i64 bo ∧ k ≤ la.length ∧ LessSt la lb out bo k ∧
      wr.ownsRow w.heap.size 70 1 v k (u32s out) ∧ Below w.heap.size w wr)
    (fun _ _ i _ => la.length - (intOf i).toNat)
  case atStart => exact ⟨0, [], 0, rfl, rfl, by omega, ⟨rfl, by omega, by omega, by simp, .inl (by simp [Num.val])⟩, World.ownsRow_nil _ _ _ _, Below.refl _ _⟩
  case round =>
    obtain ⟨k, out, bo, rfl, rfl, hk, hst, hown, hb⟩ := hrel
    have hc0 := hst.c0
    have hc1 := hst.c1
    have hsz := hb.size
    have b1 := Num.getD_lt la HLA.out k
    have b2 := Num.getD_lt lb HLB.out k
    by_cases h1 : k < la.length
    · obtain ⟨ba, oa, rfl, hlt1, hcA⟩ := nat_cell (hsa.ext hb) h1
      obtain ⟨x, hx⟩ : ∃ x, x = la.getD k 0 := ⟨_, rfl⟩
      rw [← hx] at hcA b1
      have HX := Lib.hid hx
      clear hx
      by_cases h2 : k < lb.length
      · obtain ⟨bb, ob, rfl, hlt2, hcB⟩ := nat_cell (hsb.ext hb) h2
        obtain ⟨y, hy⟩ : ∃ y, y = lb.getD k 0 := ⟨_, rfl⟩
        rw [← hy] at hcB b2
        have HY := Lib.hid hy
        clear hy
        by_cases h3 : (x : Int) - bo - y < 0
        · go_wp2_with (at_builtin; refine wpList_push wr rfl _ _ 43 rfl w.heap.size 70 (.int .u32 0) 4 Tryd.underlying43 info_u32 rfl hown (by rfl) (by rfl) (by rfl) ?c1 ?c2 hsz ?_)
          case c1 => unfold maxLen; omega
          case c2 => omega
          intro v' w1 hown1 hb1 _
          go_wp2
          go_roundw
          case rel => exact less_close HLA HLB hst (x := x) (y := y) (by rw [HX.out]) (by rw [HY.out]) h1 hb hb1 (by omega) (by omega) (by omega) hown1
          case measure => simp [intOf]; omega
        · go_wp2_with (at_builtin; refine wpList_push wr rfl _ _ 43 rfl w.heap.size 70 (.int .u32 0) 4 Tryd.underlying43 info_u32 rfl hown (by rfl) (by rfl) (by rfl) ?d1 ?d2 hsz ?_)
          case d1 => unfold maxLen; omega
          case d2 => omega
          intro v' w1 hown1 hb1 _
          go_wp2
          go_roundw
          case rel => exact less_close HLA HLB hst (x := x) (y := y) (by rw [HX.out]) (by rw [HY.out]) h1 hb hb1 (by omega) (by omega) (by omega) hown1
          case measure => simp [intOf]; omega
      · have HY := Lib.hid (getD_none h2)
        by_cases h3 : (x : Int) - bo < 0
        · obtain rfl : x = 0 := by omega
          obtain rfl : bo = 1 := by omega
          go_wp2_with (at_builtin; refine wpList_push wr rfl _ _ 43 rfl w.heap.size 70 (.int .u32 0) 4 Tryd.underlying43 info_u32 rfl hown (by rfl) (by rfl) (by rfl) ?e1 ?e2 hsz ?_)
          case e1 => unfold maxLen; omega
          case e2 => omega
          intro v' w1 hown1 hb1 _
          go_wp2
          go_roundw
          case rel => exact less_close HLA HLB hst (x := 0) (y := 0) (by rw [← HX.out]; rfl) (by rw [HY.out]; rfl) h1 hb hb1 (by omega) (by omega) (by omega) hown1
          case measure => simp [intOf]; omega
        · go_wp2_with (at_builtin; refine wpList_push wr rfl _ _ 43 rfl w.heap.size 70 (.int .u32 0) 4 Tryd.underlying43 info_u32 rfl hown (by rfl) (by rfl) (by rfl) ?f1 ?f2 hsz ?_)
          case f1 => unfold maxLen; omega
          case f2 => omega
          intro v' w1 hown1 hb1 _
          go_wp2
          go_roundw
          case rel => exact less_close HLA HLB hst (x := x) (y := 0) (by rw [HX.out]) (by rw [HY.out]; rfl) h1 hb hb1 (by omega) (by omega) (by omega) hown1
          case measure => simp [intOf]; omega
    · obtain rfl : k = la.length := by omega
      have he := hst.done hll (by rw [HVA.out, HVB.out]; exact HBA.out)
      rw [HVA.out, HVB.out] at he
      have HL := Lib.hid hst.lt
      have HE := Lib.hid he
      have HT := Lib.hid hst
      clear he hst
      go_wp2_with (go_at_call 56; refine (trimmed_any _ out _ HL.out (Row.of_own hown)).mono ?_; rintro e w' ⟨⟨v1, rfl, hn, hbn⟩, rfl, hsame⟩)
      go_ret
      rw [HE.out] at hn
      exact ⟨_, rfl, hn, hb, fun b hb => (hown.lt b (by rw [← hb]; exact (hsame _ rfl).symm)).1⟩
end Go.Proofs.YtpdlogpkfnpbpaaDoor
