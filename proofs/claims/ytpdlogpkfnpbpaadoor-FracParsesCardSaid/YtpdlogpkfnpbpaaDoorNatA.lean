/- Walks of the reference's small functions on naturals: natural, trimmed, short, compare, and of gcd and size of the program. Conditions: the arguments lie in memory as naturals. -/
import Derived.Test.YtpdlogpkfnpbpaaDoorRows
import Derived.Test.YtpdlogpkfnpbpaaDoorWords
namespace Go.Proofs.YtpdlogpkfnpbpaaDoor
open Go.RowKit

theorem info_u32 : (Tryd.prog.info? 70).map (fun i => (i.zero, i.size, i.bytes)) = some (some (.int .u32 0), 1, 4) := by kernel_rfl

/-- a result that is a natural in memory, nothing older changed -/
def RetNat (w : World) (n : Nat) (e : Ending) (w' : World) : Prop := ∃ v, e = .returned v ∧ NatAt w' v n ∧ Below w.heap.size w w'

theorem dig_step {k : Int} (hp : 0 < k) : Num.dig k.toNat = (k % 4294967296).toNat :: Num.dig (k / 4294967296).toNat := by
  rw [Num.dig_pos (by omega : k.toNat ≠ 0)]
  have e1 : k.toNat % 4294967296 = (k % 4294967296).toNat := by omega
  have e2 : k.toNat / 4294967296 = (k / 4294967296).toNat := by omega
  rw [e1, e2]
theorem u32s_one (k : Int) : u32s [(k % 4294967296).toNat] = [.int .u32 (k % 4294967296)] := by
  have : (((k % 4294967296).toNat : Nat) : Int) = k % 4294967296 := by omega
  simp [u32s, this]

set_option maxHeartbeats 400000 in
theorem natural_any (n0 : Int) (w : World) (h0 : 0 ≤ n0) (h1 : n0 < 18446744073709551616) :
    Calls Tryd.prog 42 #[.int .u64 n0] w (RetNat w n0.toNat) := by
  go_enter Tryd.func42, Tryd.ntmps42
  go_wp2
  go_loopw [0, 3] (fun m v wr => ∃ (k : Int) (done : List Nat), m = .int .u64 k ∧ 0 ≤ k ∧ k < 18446744073709551616 ∧ Num.dig n0.toNat = done ++ Num.dig k.toNat ∧
      wr.ownsRow w.heap.size 70 1 v done.length (u32s done) ∧ Below w.heap.size w wr)
    (fun m _ _ => (intOf m).toNat)
  case atStart => exact ⟨n0, [], rfl, h0, h1, by simp, World.ownsRow_nil _ _ _ _, Below.refl _ _⟩
  case round =>
    obtain ⟨k, done, rfl, hk0, hk, hd, hown, hb⟩ := hrel
    have hlen : done.length + (Num.dig k.toNat).length ≤ 2 := by
      have := Num.dig_len_two.2 (by omega : n0.toNat < 18446744073709551616)
      rw [hd, List.length_append] at this; exact this
    have hsz := hb.size
    have HD := Lib.hid hd
    clear hd
    by_cases hp : 0 < k
    · go_wp2_with (at_builtin; refine wpList_push wr rfl _ _ 43 rfl w.heap.size 70 (.int .u32 0) 4 Tryd.underlying43 info_u32 rfl hown (by rfl) (by rfl) (by rfl) ?c1 ?c2 hsz ?_)
      case c1 => unfold maxLen; omega
      case c2 => omega
      intro v' w1 hown1 hb1 _
      go_wp2
      go_roundw
      case rel =>
        refine ⟨k / 4294967296, done ++ [(k % 4294967296).toNat], rfl, by omega, by omega, ?_, ?_, hb.trans hb1⟩
        · rw [HD.out, dig_step hp]; simp
        · rw [u32s_append, u32s_one]
          simpa using hown1
      case measure => simp [intOf]; omega
    · go_wp2
      go_ret
      have e : k = 0 := by omega
      subst e
      have hd := HD.out
      simp only [Int.toNat_zero, Num.dig_zero, List.append_nil] at hd
      refine ⟨_, rfl, ?_, hb⟩
      unfold NatAt
      rw [hd]
      exact Row.of_own hown

theorem last_dig {l : List Nat} {j : Nat} (hj : l.length = j + 1) (h : l.getD j 0 ≠ 0) : ∀ x, l.getLast? = some x → x ≠ 0 := by
  intro x hx
  rw [List.getLast?_eq_getElem?, hj, Nat.add_sub_cancel] at hx
  rw [List.getD_eq_getElem?_getD, hx] at h
  simpa using h
/-- the value of the digits is not turned by a zero at the end -/
theorem val_drop_zero {l : List Nat} {k : Nat} (h0 : l.getD k 0 = 0) : Num.val (l.take (k + 1)) = Num.val (l.take k) := by
  rw [Num.val_take_succ, h0]; simp
theorem getD_take_self {l : List Nat} {k : Nat} : (l.take (k + 1)).getD k 0 = l.getD k 0 := by
  simp [List.getD_eq_getElem?_getD]

set_option maxHeartbeats 400000 in
theorem trimmed_any (v : Value) (l : List Nat) (w : World) (hl : ∀ d ∈ l, d < 4294967296) (hr : Row 70 w v (u32s l)) :
    Calls Tryd.prog 56 #[v] w fun e w' => RetNat w (Num.val l) e w' ∧ w = w' ∧ ∀ u, e = .returned u → u.ownBlock = v.ownBlock := by
  obtain ⟨A, cap, rfl, hcap, hm0, hs⟩ := hr
  rw [u32s_len] at hcap ⊢
  have hm := hm0
  unfold maxLen at hm
  go_enter Tryd.func56, Tryd.ntmps56
  go_wp2
  go_loop [0] (fun v => ∃ k : Nat, k ≤ l.length ∧ v = .slice A k cap ∧ Num.val l = Num.val (l.take k)) (fun v => lenOf v)
  case atStart => exact ⟨l.length, Nat.le_refl _, rfl, by simp⟩
  case round =>
    obtain ⟨k, hk, rfl, hv⟩ := hrel
    have HV := Lib.hid hv
    clear hv
    by_cases hp : 0 < k
    · obtain ⟨b, off, rfl, hlt, hc⟩ := hs.at_ (by rw [u32s_len]; omega : k - 1 < (u32s l).length)
      rw [u32s_get] at hc
      obtain ⟨j, rfl⟩ : ∃ j, k = j + 1 := ⟨k - 1, by omega⟩
      rw [Nat.add_sub_cancel] at hc
      obtain ⟨d, hd⟩ : ∃ d, d = l.getD j 0 := ⟨_, rfl⟩
      rw [← hd] at hc
      have HD := Lib.hid hd
      clear hd
      by_cases h0 : d = 0
      · subst h0
        go_wp2
        go_round
        case rel => exact ⟨j, by omega, rfl, by rw [HV.out, val_drop_zero HD.out.symm]⟩
        case measure => simp [lenOf]
      · have h1 : ((d : Int) == 0) = false := by simp; omega
        go_wp2
        go_ret
        refine ⟨⟨_, rfl, ?_, Below.refl _ _⟩, rfl, fun u hu => by injection hu with hu; subst hu; first | rfl | (cases A <;> rfl)⟩
        have e : Num.dig (Num.val l) = l.take (j + 1) := by
          rw [HV.out]
          refine Num.dig_val _ (Num.mem_take_lt hl) (last_dig (j := j) (by simp; omega) ?_)
          rw [getD_take_self, ← HD.out]; exact h0
        unfold NatAt
        rw [e]
        exact ⟨some ⟨b, off, none⟩, cap, by simp [u32s_len]; omega, by simp [u32s_len]; omega, hm0, by rw [u32s_take]; exact hs.take _⟩
    · have hk0 : k = 0 := by omega
      subst hk0
      go_wp2
      go_ret
      refine ⟨⟨_, rfl, ?_, Below.refl _ _⟩, rfl, fun u hu => by injection hu with hu; subst hu; first | rfl | (cases A <;> rfl)⟩
      have e : Num.dig (Num.val l) = [] := by rw [HV.out]; simp [Num.val, Num.dig_zero]
      unfold NatAt
      rw [e]
      exact ⟨A, cap, by simp [u32s], by simp [u32s], hm0, .inl (by simp [u32s])⟩

theorem gcd_step (p q : Int) (hp : 0 ≤ p) (hq : 0 ≤ q) : Int.gcd p q = Int.gcd q (p % q) := by
  obtain ⟨p, rfl⟩ := Int.eq_ofNat_of_zero_le hp
  obtain ⟨q, rfl⟩ := Int.eq_ofNat_of_zero_le hq
  rw [← Int.natCast_emod, Int.gcd_natCast_natCast, Int.gcd_natCast_natCast, Nat.gcd_comm p q, Nat.gcd_rec q p, Nat.gcd_comm]

set_option maxHeartbeats 400000 in
theorem gcd_any (a b : Int) (w : World) (ha : 0 ≤ a) (hb : 0 ≤ b) (ha' : a < 18446744073709551616) (hb' : b < 18446744073709551616) :
    Calls Tryd.prog 25 #[.int .u64 a, .int .u64 b] w fun e w' => e = .returned (.int .u64 (Int.gcd a b)) ∧ ∃ n, w' = w.drewN n := by
  go_enter Tryd.func25, Tryd.ntmps25
  go_wp2
  go_loopw [0, 1] (fun x y wr => ∃ (p q : Int) (n : Nat), x = .int .u64 p ∧ y = .int .u64 q ∧ 0 ≤ p ∧ 0 ≤ q ∧ p < 18446744073709551616 ∧ q < 18446744073709551616 ∧ Int.gcd a b = Int.gcd p q ∧ wr = w.drewN n) (fun _ y _ => (intOf y).toNat)
  case atStart => exact ⟨a, b, 0, rfl, rfl, ha, hb, ha', hb', rfl, rfl⟩
  case round =>
    obtain ⟨p, q, n, rfl, rfl, hp, hq, hp', hq', hg, rfl⟩ := hrel
    have HG := Lib.hid hg
    clear hg
    by_cases h0 : q = 0
    · subst h0
      go_wp2
      go_ret
      exact ⟨by rw [HG.out]; simp; omega, n, rfl⟩
    · have h1 : (q == 0) = false := by simpa using h0
      go_wp2
      go_quiet (fail)
      go_wp2
      go_roundw
      case rel =>
        refine ⟨q, p % q, _, rfl, rfl, by omega, Int.emod_nonneg _ (by omega), by omega, ?_, ?_, World.drewN_drewN _ _ _⟩
        · have := Int.emod_lt_of_pos p (by omega : 0 < q); omega
        · rw [HG.out, gcd_step p q hp hq]
      case measure => simp [intOf]; have := Int.emod_lt_of_pos p (by omega : 0 < q); have := Int.emod_nonneg p (by omega : q ≠ 0); omega

theorem wrap_neg (n : Int) (h : n < 0) (h' : -9223372036854775808 ≤ n) : IntKind.u64.wrap (-IntKind.u64.wrap n) = -n := by
  simp only [IntKind.wrap_u64]; omega
theorem size_any (n : Int) (w : World) (h : -9223372036854775808 ≤ n) (h' : n ≤ 9223372036854775807) :
    Calls Tryd.prog 26 #[.int .i64 n] w fun e w' => e = .returned (.int .u64 (n.natAbs : Int)) ∧ w = w' := by
  by_cases h0 : n < 0
  · have e := wrap_neg n h0 h
    have E := Lib.hid e
    clear e
    go_enter Tryd.func26, Tryd.ntmps26
    go_wp2
    go_ret
    exact ⟨ret_int (by rw [E.out]; omega), rfl⟩
  · go_enter Tryd.func26, Tryd.ntmps26
    go_wp2
    go_ret
    exact ⟨ret_int (by omega), rfl⟩

theorem or_lo (d : Nat) (hd : d < 4294967296) : bits .or .u64 0 (d : Int) = (d : Int) := by
  have := u64_or_nat 0 d (by omega) (by omega)
  simpa using this
/-- two digits, put together by a shift and an or -/
theorem or_hi (x d : Nat) (hx : x < 4294967296) (hd : d < 4294967296) : bits .or .u64 (IntKind.u64.wrap ((x : Int) * 4294967296)) (d : Int) = ((d + 4294967296 * x : Nat) : Int) := by
  have e : IntKind.u64.wrap ((x : Int) * 4294967296) = ((x * 4294967296 : Nat) : Int) := by rw [IntKind.wrap_u64]; omega
  rw [e, u64_or_nat _ _ (by omega) (by omega), nat_join 32 _ _ (by omega) (by omega)]
  congr 1; omega

set_option maxHeartbeats 400000 in
theorem short_any (v : Value) (n : Nat) (w : World) (hn : n < 18446744073709551616) (hr : NatAt w v n) :
    Calls Tryd.prog 59 #[v] w fun e w' => e = .returned (.int .u64 (n : Int)) ∧ w = w' := by
  obtain ⟨A, cap, rfl, hcap, hm, hs⟩ := hr
  have hlen := Num.dig_len_two.2 hn
  rw [u32s_len] at hcap ⊢
  unfold maxLen at hm
  have hv := Num.val_dig n
  have hlt := Num.dig_lt n
  generalize Num.dig n = l at *
  have HN := Lib.hid hn
  have HV := Lib.hid hv
  clear hn hv
  match l, hlen with
  | [], _ =>
    go_enter Tryd.func59, Tryd.ntmps59
    go_wp2
    go_rounds 1
    go_ret
    exact ⟨ret_int (by rw [← HV.out]; rfl), rfl⟩
  | [d0], _ =>
    have b0 := hlt d0 (by simp)
    obtain ⟨b, off, rfl, hlt, hc⟩ := hs.at_ (by simp [u32s] : 0 < (u32s [d0]).length)
    rw [u32s_get] at hc
    simp at hc
    go_enter Tryd.func59, Tryd.ntmps59
    go_wp2
    go_rounds 2
    go_ret
    exact ⟨ret_int (by rw [or_lo _ b0, ← HV.out]; simp [Num.val]), rfl⟩
  | [d0, d1], _ =>
    have b0 := hlt d0 (by simp)
    have b1 := hlt d1 (by simp)
    obtain ⟨b, off, hA, hlt, hc⟩ := hs.at_ (by simp [u32s] : 0 < (u32s [d0, d1]).length)
    obtain ⟨b', off', hA', _, hc'⟩ := hs.at_ (by simp [u32s] : 1 < (u32s [d0, d1]).length)
    rw [hA] at hA'
    injection hA' with hA'
    injection hA' with e1 e2
    subst e1 e2 hA
    rw [u32s_get] at hc hc'
    simp at hc hc'
    go_enter Tryd.func59, Tryd.ntmps59
    go_wp2
    go_rounds 3
    go_ret
    exact ⟨ret_int (by rw [or_lo _ b1, or_hi _ _ b1 b0, ← HV.out]; simp [Num.val]), rfl⟩

theorem nat_same {b off b' off' : Nat} {A : Option Addr} (h : A = some ⟨b, off, none⟩) (h' : A = some ⟨b', off', none⟩) : b' = b ∧ off' = off := by
  rw [h] at h'; injection h' with h'; injection h' with e1 e2; exact ⟨e1.symm, e2.symm⟩

set_option maxHeartbeats 1000000 in
theorem compare_any (va vb : Value) (a b : Nat) (w : World) (ha : NatAt w va a) (hb : NatAt w vb b) :
    Calls Tryd.prog 40 #[va, vb] w fun e w' => e = .returned (.int .i64 (Num.cmpI a b)) ∧ ∃ n, w' = w.drewN n := by
  obtain ⟨A, ca, rfl, hca, hma, hsa⟩ := ha
  obtain ⟨A', cb, rfl, hcb, hmb, hsb⟩ := hb
  have hva := Num.val_dig a
  have hvb := Num.val_dig b
  have hla := Num.dig_lt a
  have hlb := Num.dig_lt b
  have ltab : (Num.dig a).length < (Num.dig b).length → a < b := Num.lt_of_len
  have ltba : (Num.dig b).length < (Num.dig a).length → b < a := Num.lt_of_len
  generalize Num.dig a = la at *
  generalize Num.dig b = lb at *
  rw [u32s_len] at hca hcb ⊢
  rw [u32s_len]
  unfold maxLen at hma hmb
  have HVA := Lib.hid hva
  have HVB := Lib.hid hvb
  have HLA := Lib.hid hla
  have HLB := Lib.hid hlb
  have LAB := Lib.hid ltab
  have LBA := Lib.hid ltba
  clear hva hvb hla hlb ltab ltba
  by_cases h1 : la.length < lb.length
  · have e1 : ((la.length : Int) == lb.length) = false := by simp; omega
    go_enter Tryd.func40, Tryd.ntmps40
    go_wp2
    go_ret
    exact ⟨ret_int (Num.cmpI_lt (LAB.out h1)).symm, 0, rfl⟩
  by_cases h2 : lb.length < la.length
  · have e1 : ((la.length : Int) == lb.length) = false := by simp; omega
    go_enter Tryd.func40, Tryd.ntmps40
    go_wp2
    go_ret
    exact ⟨ret_int (Num.cmpI_gt (LBA.out h2)).symm, 0, rfl⟩
  have h3 : la.length = lb.length := by omega
  have h4 : ((la.length : Int) != lb.length) = false := by simp; omega
  have H3 := Lib.hid h3
  clear h3
  go_enter Tryd.func40, Tryd.ntmps40
  go_wp2
  go_loopw [5] (fun i wr => ∃ (k : Int) (n : Nat), i = .int .i64 k ∧ -1 ≤ k ∧ k < la.length ∧ la.drop (k + 1).toNat = lb.drop (k + 1).toNat ∧ wr = w.drewN n) (fun i _ => (intOf i + 1).toNat)
  case atStart => exact ⟨la.length - 1, 0, rfl, by omega, by omega, by rw [List.drop_of_length_le (by omega), List.drop_of_length_le (by omega)], rfl⟩
  case round =>
    obtain ⟨k, n, rfl, hk, hk', hd, rfl⟩ := hrel
    have HD := Lib.hid hd
    clear hd
    by_cases hp : 0 ≤ k
    · obtain ⟨j, rfl⟩ := Int.eq_ofNat_of_zero_le hp
      obtain ⟨ba, oa, rfl, _, hcA⟩ := hsa.at_ (by rw [u32s_len]; omega : j < (u32s la).length)
      obtain ⟨bb, ob, rfl, _, hcB⟩ := hsb.at_ (by rw [u32s_len]; omega : j < (u32s lb).length)
      rw [u32s_get] at hcA hcB
      obtain ⟨da, hda⟩ : ∃ d, d = la.getD j 0 := ⟨_, rfl⟩
      obtain ⟨db, hdb⟩ : ∃ d, d = lb.getD j 0 := ⟨_, rfl⟩
      rw [← hda] at hcA
      rw [← hdb] at hcB
      have HDA := Lib.hid hda
      have HDB := Lib.hid hdb
      clear hda hdb
      by_cases hq : da = db
      · subst hq
        have q1 : ((da : Int) != da) = false := by simp
        have e : la.drop j = lb.drop j := Num.drop_eq_step H3.out (by omega) (by simpa using HD.out) (by rw [← HDA.out, ← HDB.out])
        have HE := Lib.hid e
        clear e
        go_wp2
        go_quiet (fail)
        go_wp2
        go_roundw
        case rel => exact ⟨(j : Int) - 1, _, rfl, by omega, by omega, by simpa using HE.out, rfl⟩
        case measure => simp [intOf]
      · have q1 : ((da : Int) != db) = true := by simp; omega
        by_cases hlt : da < db
        · have e : a < b := by
            rw [← HVA.out, ← HVB.out]
            exact Num.lt_of_top (k := j) HLA.out H3.out (by omega) (by simpa using HD.out) (by rw [← HDA.out, ← HDB.out]; exact hlt)
          have HE := Lib.hid e
          clear e
          go_wp2
          go_quiet (fail)
          go_wp2
          go_quiet (fail)
          go_wp2
          go_ret
          exact ⟨ret_int (Num.cmpI_lt HE.out).symm, drew3 _ _ _ _⟩
        · have e : b < a := by
            rw [← HVA.out, ← HVB.out]
            exact Num.lt_of_top (k := j) HLB.out H3.out.symm (by have := H3.out; omega) (by simpa using HD.out.symm) (by rw [← HDA.out, ← HDB.out]; omega)
          have HE := Lib.hid e
          clear e
          go_wp2
          go_quiet (fail)
          go_wp2
          go_quiet (fail)
          go_wp2
          go_ret
          exact ⟨ret_int (Num.cmpI_gt HE.out).symm, drew3 _ _ _ _⟩
    · obtain rfl : k = -1 := by omega
      have e : a = b := by
        rw [← HVA.out, ← HVB.out]
        have := HD.out
        simp at this
        rw [this]
      have HE := Lib.hid e
      clear e
      go_wp2
      go_ret
      exact ⟨ret_int (Num.cmpI_eq HE.out).symm, n, rfl⟩
end Go.Proofs.YtpdlogpkfnpbpaaDoor
