/- Walks of the reference's divided and divisor on naturals, the long division. Conditions: the arguments lie in memory as naturals of at most 20,000 digits; the divisor is not zero. -/
import Derived.Test.YtpdlogpkfnpbpaaDoorNatE
namespace Go.Proofs.YtpdlogpkfnpbpaaDoor
open Go.RowKit

theorem and_one (d m : Nat) (hd : d < 4294967296) : bits BinOp.and IntKind.u32 ((d : Int) / 2 ^ m) 1 = ((d / 2 ^ m % 2 : Nat) : Int) := by
  have e : ((d / 2 ^ m : Nat) : Int) = (d : Int) / 2 ^ m := by simp
  have h1 := Nat.div_le_self d (2 ^ m)
  have := u32_and_nat (d / 2 ^ m) 1 (by omega) (by omega)
  rw [e, nat_mask1] at this
  exact this
theorem or_bit32 {o m : Nat} (ho : o < 4294967296) (h0 : o / 2 ^ (m % 32) % 2 = 0) : bits BinOp.or IntKind.u32 (o : Int) (2 ^ (m % 32) % 4294967296) = ((o + 2 ^ (m % 32) : Nat) : Int) := by
  have hm : m % 32 < 32 := Nat.mod_lt _ (by omega)
  have hp : 2 ^ (m % 32) < 4294967296 := by
    have e : (2 : Nat) ^ 32 = 4294967296 := by decide
    rw [← e]
    exact Nat.pow_lt_pow_right (by omega) hm
  have e : (2 : Int) ^ (m % 32) % 4294967296 = ((2 ^ (m % 32) : Nat) : Int) := by
    rw [Int.emod_eq_of_lt]
    · simp
    · exact Int.pow_nonneg (by omega)
    · have : ((2 ^ (m % 32) : Nat) : Int) < 4294967296 := by omega
      simpa using this
  rw [e, u32_or_nat _ _ ho hp, or_bit o _ h0]
theorem own_lt {w : World} {base n g l c : Nat} {e : TypeId} {size : Nat} {xs : List Value} (h : w.ownsRow base e size (.slice (some ⟨g, 0, none⟩) l c) n xs) : g < w.heap.size := (h.lt g rfl).2
theorem cmp_ge {x y : Nat} (h : y ≤ x) : ∃ c, Num.cmpI x y = c ∧ 0 ≤ c := by
  rcases Nat.lt_or_ge y x with h1 | h1
  · exact ⟨1, Num.cmpI_gt h1, by omega⟩
  · exact ⟨0, Num.cmpI_eq (by omega), by omega⟩
theorem NatAt.drewN {w : World} {v : Value} {n : Nat} (h : NatAt w v n) (k : Nat) : NatAt (w.drewN k) v n := h.ext (ext_drewN w k)

set_option maxRecDepth 100000 in
set_option maxHeartbeats 2000000 in
theorem divided_long (va vb : Value) (a b : Nat) (w : World) (ha : NatAt w va a) (hb : NatAt w vb b) (za : (Num.dig a).length ≤ 20000) (zb : (Num.dig b).length ≤ 20000)
    (hlong : ¬ ((Num.dig a).length ≤ 2 ∧ (Num.dig b).length ≤ 2)) (h0 : 0 < b) :
    Calls Tryd.prog 58 #[va, vb] w (RetNat2 w (a / b) (a % b)) := by
  have hb' := hb
  obtain ⟨A, ca, rfl, hca, hma, hsa⟩ := ha
  obtain ⟨A', cb, rfl, hcb, hmb, hsb⟩ := hb
  have hva := Num.val_dig a
  have hla := Num.dig_lt a
  have hap := Num.dig_len_le.1 (Nat.le_refl (Num.dig a).length)
  have hbs : ∀ r, r < b → (Num.dig r).length ≤ (Num.dig b).length := fun r hr => Num.len_mono (Nat.le_of_lt hr)
  rw [u32s_len] at hca hcb hb' ⊢
  rw [u32s_len]
  generalize (Num.dig b).length = lb at *
  generalize Num.dig a = la at *
  unfold maxLen at hma hmb
  have HB := Lib.hid hb'
  have HBS := Lib.hid hbs
  have HAP := Lib.hid hap
  have HVA := Lib.hid hva
  have HLA := Lib.hid hla
  clear hb' hbs hap hva hla hsb
  obtain ⟨n, hn⟩ : ∃ n, n = la.length := ⟨_, rfl⟩
  rw [← hn] at hca za hlong HAP ⊢
  have HN := Lib.hid hn
  clear hn
  have goal : decide ((n : Int) ≤ 2) = true ∧ decide ((lb : Int) ≤ 2) = false ∨ decide ((n : Int) ≤ 2) = false := by
    by_cases h : n ≤ 2
    · left; simp; omega
    · right; simp; omega
  have hgw := Nat.le_refl w.heap.size
  rcases goal with ⟨g1, g2⟩ | g1
  all_goals
    go_enter Tryd.func58, Tryd.ntmps58
    go_wp2_with (refine wpList_zeros w rfl _ _ 43 rfl w.heap.size 70 (.int .u32 0) 4 Tryd.underlying43 info_u32 rfl n (n : Int) (by rfl) (by rfl) rfl (by omega) (by unfold maxLen; omega) (Nat.le_refl _) ?_)
    intro w1 hown1 hb1 hsz1
    rw [replicate_u32] at hown1
    have HST := Lib.hid (DivSt.start h0 HAP.out)
    go_wp2
    go_loopw [7, 8] (fun v i wr => ∃ (j r : Nat) (Q : List Nat), i = .int .i64 ((j : Int) - 1) ∧ j ≤ 32 * n ∧ DivSt a b Q n r j ∧ NatAt wr v r ∧
        wr.ownsRow w.heap.size 70 1 (.slice (some ⟨w.heap.size, 0, none⟩) n n) n (u32s Q) ∧ Below w.heap.size w wr)
      (fun _ i _ => (intOf i + 1).toNat)
    case atStart => exact ⟨32 * n, 0, _, by simp, by omega, HST.out, zero_nil _, hown1, hb1⟩
    case round =>
      obtain ⟨j1, r, Q, rfl, hj, hst, hr, hown, hb⟩ := hrel
      clear hown1 hb1
      obtain ⟨wo, rfl⟩ : ∃ wo : World, wo = wr := ⟨_, rfl⟩
      by_cases h1 : 0 < j1
      · obtain ⟨j, rfl⟩ : ∃ j, j1 = j + 1 := ⟨j1 - 1, by omega⟩
        have e1 : (((j + 1 : Nat) : Int) - 1) = (j : Int) := by omega
        rw [e1]
        clear e1
        have hjn : j / 32 < n := by omega
        obtain ⟨ba, oa, rfl, hlt1, hcA⟩ := nat_cell hsa (by rw [← HN.out]; exact hjn : j / 32 < la.length)
        have hrs := Nat.le_trans (HBS.out r hst.lr) zb
        have hrb := hst.lr
        obtain ⟨d, hd⟩ : ∃ d, d = la.getD (j / 32) 0 := ⟨_, rfl⟩
        have hd32 : d < 4294967296 := by rw [hd]; exact Num.getD_lt la HLA.out _
        have hbitd : d / 2 ^ (j % 32) % 2 = a / 2 ^ j % 2 := by rw [hd, digit_bit la HLA.out, HVA.out]
        rw [← hd] at hcA
        obtain ⟨o, ho⟩ : ∃ o, o = Q.getD (j / 32) 0 := ⟨_, rfl⟩
        have ho32 : o < 4294967296 := by rw [ho]; exact Num.getD_lt Q hst.lt _
        have HO := Lib.hid ho
        have HBIT := Lib.hid hbitd
        have HR := Lib.hid hr
        have HOWN := Lib.hid hown
        have HST2 := Lib.hid hst
        clear hr hown hst hd hbitd ho
        rcases Nat.mod_two_eq_zero_or_one (a / 2 ^ j) with hbit | hbit
        · by_cases hge : b ≤ r + r + 0
          · have hbt : (bits BinOp.and IntKind.u32 ((d : Int) / 2 ^ (j % 32)) 1 == 1) = false := by rw [and_one d _ hd32, HBIT.out, hbit]; rfl
            have hsz2 : (Num.dig (r + r)).length ≤ 20001 := Nat.le_trans (dig_len_succ (n := r) (by omega)) (by omega)
            obtain ⟨c, hc, hc0⟩ := cmp_ge (show b ≤ (r + r) by omega)
            have HC := Lib.hid hc
            clear hc
            go_wp2_with (first
              | (go_at_call_of 39 u7; refine (plus_any _ _ r r _ HR.out HR.out (by omega) (by omega)).mono ?_; rintro e w2 ⟨v2, rfl, hn2, hb2⟩; have hcA := (((hb.trans (hb2.mono hb.size)).cell (p := ⟨ba, oa + j / 32, none⟩) (by first | assumption | omega))).trans hcA)
              | (go_at_call 40; refine (compare_any _ _ (r + r) b _ hn2 (HB.out.ext (ext_trans hb hb2))).mono ?_; rintro e w4 ⟨he, nq, rfl⟩; rw [HC.out] at he; subst he)
              | (go_at_call 41; refine (less_any _ _ (r + r) b _ (hn2.drewN _) (((HB.out.ext (ext_trans hb hb2)).drewN _)) (by first | omega | exact Nat.le_trans (dig_len_succ (n := r) (by omega)) (by omega)) (by omega)).mono ?_; rintro e w5 ⟨v5, rfl, hn5, hb5, hf5⟩; have own5 := own_ext (own_ext HOWN.out hb2) (ext_trans (ext_drewN w2 nq) hb5); have hcO := own_cell own5 (j := j / 32) (by rw [HST2.out.len]; exact hjn); rw [← HO.out] at hcO; have hfz := own5.frozenAt (j / 32)))
            go_region
            go_wp2
            go_roundw
            case rel =>
              have hm := HST2.out.more hjn (by rw [hbit]; omega)
              rw [hbit, ← HO.out] at hm
              have hs0 := HST2.out.bit0
              rw [← HO.out] at hs0
              obtain ⟨q1, q2⟩ := own_set own5 (j / 32) ((o + 2 ^ (j % 32) : Nat) : Int) (Int.natCast_nonneg _) hgw
              rw [Int.toNat_natCast] at q1
              have hb5' := ext_trans hb (ext_trans hb2 (ext_trans (ext_drewN w2 nq) hb5))
              have hgs := hb.size
              have hgs2 := (hb2).size
              have hlt5 := (own_lt HOWN.out)
              refine ⟨j, r + r - b, _, rfl, by omega, hm, ?_, ?_, ?_⟩
              · exact (natAt_set hn5 (fun b hb => by have := hf5 b hb; simp at this; omega)).ext (ext_drew _)
              · rw [or_bit32 ho32 hs0]; exact q1.drew
              · rw [or_bit32 ho32 hs0]; exact (hb5'.trans q2).drew
            case measure => simp [intOf]
          · have hbt : (bits BinOp.and IntKind.u32 ((d : Int) / 2 ^ (j % 32)) 1 == 1) = false := by rw [and_one d _ hd32, HBIT.out, hbit]; rfl
            have hsz2 : (Num.dig (r + r)).length ≤ 20001 := Nat.le_trans (dig_len_succ (n := r) (by omega)) (by omega)
            have HC := Lib.hid (Num.cmpI_lt (show (r + r) < b by omega))
            go_wp2_with (first
              | (go_at_call_of 39 u7; refine (plus_any _ _ r r _ HR.out HR.out (by omega) (by omega)).mono ?_; rintro e w2 ⟨v2, rfl, hn2, hb2⟩; have hcA := (((hb.trans (hb2.mono hb.size)).cell (p := ⟨ba, oa + j / 32, none⟩) (by first | assumption | omega))).trans hcA)
              | (go_at_call 40; refine (compare_any _ _ (r + r) b _ hn2 (HB.out.ext (ext_trans hb hb2))).mono ?_; rintro e w4 ⟨he, nq, rfl⟩; rw [HC.out] at he; subst he))
            go_roundw
            case rel => exact ⟨j, r + r, Q, rfl, by omega, by have := HST2.out.less (by rw [hbit]; omega); rw [hbit] at this; exact this, hn2.drewN _, own_ext HOWN.out (ext_trans hb2 (ext_drewN _ _)), ext_trans hb (ext_trans hb2 (ext_drewN _ _))⟩
            case measure => simp [intOf]
        · by_cases hge : b ≤ r + r + 1
          · have hbt : (bits BinOp.and IntKind.u32 ((d : Int) / 2 ^ (j % 32)) 1 == 1) = true := by rw [and_one d _ hd32, HBIT.out, hbit]; rfl
            have hsz2 : (Num.dig (r + r)).length ≤ 20001 := Nat.le_trans (dig_len_succ (n := r) (by omega)) (by omega)
            obtain ⟨c, hc, hc0⟩ := cmp_ge (show b ≤ (r + r + 1) by omega)
            have HC := Lib.hid hc
            clear hc
            go_wp2_with (first
              | (go_at_call_of 39 u7; refine (plus_any _ _ r r _ HR.out HR.out (by omega) (by omega)).mono ?_; rintro e w2 ⟨v2, rfl, hn2, hb2⟩; have hcA := (((hb.trans (hb2.mono hb.size)).cell (p := ⟨ba, oa + j / 32, none⟩) (by first | assumption | omega))).trans hcA)
              | (go_at_call 39; refine (plus_any _ _ (r + r) 1 _ (hn2.ext ((Below.refl _ _).alloc (Nat.le_refl _) _)) (one_new _) (by omega) (by rw [dig_one]; simp)).mono ?_; rintro e w3 ⟨v3, rfl, hn3, hb3⟩; have hb23 := ext_trans ((Below.refl _ w2).alloc (Nat.le_refl _) _) hb3)
              | (go_at_call 40; refine (compare_any _ _ (r + r + 1) b _ hn3 (HB.out.ext (ext_trans hb (ext_trans hb2 hb23)))).mono ?_; rintro e w4 ⟨he, nq, rfl⟩; rw [HC.out] at he; subst he)
              | (go_at_call 41; refine (less_any _ _ (r + r + 1) b _ (hn3.drewN _) (((HB.out.ext (ext_trans hb (ext_trans hb2 hb23))).drewN _)) (by first | omega | exact Nat.le_trans (dig_len_succ (n := r) (by omega)) (by omega)) (by omega)).mono ?_; rintro e w5 ⟨v5, rfl, hn5, hb5, hf5⟩; have own5 := own_ext (own_ext HOWN.out (ext_trans hb2 hb23)) (ext_trans (ext_drewN w3 nq) hb5); have hcO := own_cell own5 (j := j / 32) (by rw [HST2.out.len]; exact hjn); rw [← HO.out] at hcO; have hfz := own5.frozenAt (j / 32)))
            go_region
            go_wp2
            go_roundw
            case rel =>
              have hm := HST2.out.more hjn (by rw [hbit]; omega)
              rw [hbit, ← HO.out] at hm
              have hs0 := HST2.out.bit0
              rw [← HO.out] at hs0
              obtain ⟨q1, q2⟩ := own_set own5 (j / 32) ((o + 2 ^ (j % 32) : Nat) : Int) (Int.natCast_nonneg _) hgw
              rw [Int.toNat_natCast] at q1
              have hb5' := ext_trans hb (ext_trans (ext_trans hb2 hb23) (ext_trans (ext_drewN w3 nq) hb5))
              have hgs := hb.size
              have hgs2 := ((ext_trans hb2 hb23)).size
              have hlt5 := (own_lt HOWN.out)
              refine ⟨j, r + r + 1 - b, _, rfl, by omega, hm, ?_, ?_, ?_⟩
              · exact (natAt_set hn5 (fun b hb => by have := hf5 b hb; simp at this; omega)).ext (ext_drew _)
              · rw [or_bit32 ho32 hs0]; exact q1.drew
              · rw [or_bit32 ho32 hs0]; exact (hb5'.trans q2).drew
            case measure => simp [intOf]
          · have hbt : (bits BinOp.and IntKind.u32 ((d : Int) / 2 ^ (j % 32)) 1 == 1) = true := by rw [and_one d _ hd32, HBIT.out, hbit]; rfl
            have hsz2 : (Num.dig (r + r)).length ≤ 20001 := Nat.le_trans (dig_len_succ (n := r) (by omega)) (by omega)
            have HC := Lib.hid (Num.cmpI_lt (show (r + r + 1) < b by omega))
            go_wp2_with (first
              | (go_at_call_of 39 u7; refine (plus_any _ _ r r _ HR.out HR.out (by omega) (by omega)).mono ?_; rintro e w2 ⟨v2, rfl, hn2, hb2⟩; have hcA := (((hb.trans (hb2.mono hb.size)).cell (p := ⟨ba, oa + j / 32, none⟩) (by first | assumption | omega))).trans hcA)
              | (go_at_call 39; refine (plus_any _ _ (r + r) 1 _ (hn2.ext ((Below.refl _ _).alloc (Nat.le_refl _) _)) (one_new _) (by omega) (by rw [dig_one]; simp)).mono ?_; rintro e w3 ⟨v3, rfl, hn3, hb3⟩; have hb23 := ext_trans ((Below.refl _ w2).alloc (Nat.le_refl _) _) hb3)
              | (go_at_call 40; refine (compare_any _ _ (r + r + 1) b _ hn3 (HB.out.ext (ext_trans hb (ext_trans hb2 hb23)))).mono ?_; rintro e w4 ⟨he, nq, rfl⟩; rw [HC.out] at he; subst he))
            go_roundw
            case rel => exact ⟨j, r + r + 1, Q, rfl, by omega, by have := HST2.out.less (by rw [hbit]; omega); rw [hbit] at this; exact this, hn3.drewN _, own_ext HOWN.out (ext_trans (ext_trans hb2 hb23) (ext_drewN _ _)), ext_trans hb (ext_trans (ext_trans hb2 hb23) (ext_drewN _ _))⟩
            case measure => simp [intOf]
      · obtain rfl : j1 = 0 := by omega
        obtain ⟨e1, e2⟩ := hst.done
        have HL := Lib.hid hst.lt
        have E1 := Lib.hid e1
        have E2 := Lib.hid e2
        have HR := Lib.hid hr
        have HST2 := Lib.hid hst
        clear hst e1 e2 hr
        go_wp2_with (go_at_call 56; refine (trimmed_any _ Q _ HL.out (Row.of_own hown)).mono ?_; rintro e w' ⟨⟨v1, rfl, hn, hbn⟩, rfl, hsame⟩)
        go_ret2
        rw [E1.out] at hn
        have hr := HR.out
        rw [E2.out] at hr
        exact ⟨_, _, rfl, hn, hr, hb⟩
end Go.Proofs.YtpdlogpkfnpbpaaDoor
