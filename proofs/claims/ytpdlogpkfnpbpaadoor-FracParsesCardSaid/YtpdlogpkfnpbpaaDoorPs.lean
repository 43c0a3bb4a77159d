/- number of the program, digits of the reference walked. Conditions: the string's length is an int. -/
import Derived.Test.YtpdlogpkfnpbpaaDoorPrC
import Derived.Deep.LoopGhost
namespace Go.Proofs.YtpdlogpkfnpbpaaDoor
open Go.RowKit Go.Lib

theorem dropWhile_nil {p : UInt8 → Bool} : ∀ {l : List UInt8}, l.dropWhile p = [] ↔ ∀ x ∈ l, p x = true
  | [] => by simp
  | x :: l => by
    rw [List.dropWhile_cons]
    by_cases h : p x = true
    · rw [if_pos h, dropWhile_nil]; simp [h]
    · rw [if_neg h]; simp [h]
theorem trim_nil {l cs : List UInt8} : Lib.trimS l cs = [] ↔ ∀ x ∈ l, x ∈ cs := by
  unfold Lib.trimS Lib.trimLeftS Lib.trimRightS
  rw [dropWhile_nil]
  constructor
  · intro h x hx
    have h2 : (l.reverse.dropWhile (cs.contains ·)) = [] := by
      cases hd : l.reverse.dropWhile (cs.contains ·) with
      | nil => rfl
      | cons a t =>
        have h3 := h a (by rw [hd]; simp)
        have h4 := List.head?_dropWhile_not (cs.contains ·) l.reverse
        rw [hd] at h4
        simp only [List.head?_cons] at h4
        rw [h3] at h4
        simp at h4
    have h5 := dropWhile_nil.1 h2 x (by simpa using hx)
    simpa using h5
  · intro h x hx
    have h2 : x ∈ l := by
      have h3 : x ∈ l.reverse.dropWhile (cs.contains ·) := by simpa using hx
      have h4 := (List.dropWhile_sublist (cs.contains ·)).subset h3
      simpa using h4
    simpa using h x h2
theorem digs_iff {b : UInt8} : b ∈ digs ↔ IsD b := by
  unfold IsD digs
  constructor
  · intro h
    simp only [List.mem_cons, List.mem_nil_iff, or_false] at h
    rcases h with rfl | rfl | rfl | rfl | rfl | rfl | rfl | rfl | rfl | rfl <;> decide
  · rintro ⟨h1, h2⟩
    have e : b = UInt8.ofNat b.toNat := by simp
    rw [e]
    obtain ⟨k, hk⟩ : ∃ k, k = b.toNat := ⟨_, rfl⟩
    rw [← hk] at h1 h2 ⊢
    rcases (show k = 48 ∨ k = 49 ∨ k = 50 ∨ k = 51 ∨ k = 52 ∨ k = 53 ∨ k = 54 ∨ k = 55 ∨ k = 56 ∨ k = 57 by omega) with rfl | rfl | rfl | rfl | rfl | rfl | rfl | rfl | rfl | rfl <;> decide
theorem digitVal_isD {b : UInt8} : (∃ d, digitVal b = some d) ↔ IsD b := by
  unfold digitVal IsD
  split <;> simp_all
theorem decFrom_all : ∀ (l : List UInt8) (acc : Nat), (∃ n, decFrom acc l = some n) ↔ ∀ b ∈ l, IsD b
  | [], acc => by simp [decFrom]
  | b :: l, acc => by
    have e1 : decFrom acc (b :: l) = match digitVal b with | some d => decFrom (acc * 10 + d) l | none => none := rfl
    rw [e1]
    cases h : digitVal b with
    | none =>
      have : ¬ IsD b := fun hd => by obtain ⟨d, hd⟩ := digitVal_isD.2 hd; rw [h] at hd; cases hd
      simp [this]
    | some d =>
      have hb : IsD b := digitVal_isD.1 ⟨d, h⟩
      have := decFrom_all l (acc * 10 + d)
      simp only [this, List.mem_cons, forall_eq_or_imp, hb, true_and]
/-- a number of at most ten digits: what number and digits answer -/
def numV (l : List UInt8) : Nat × Bool := match numP l with | some n => (n, true) | none => (0, false)
theorem bytes_empty {l : List UInt8} : (BS l).toList.isEmpty = decide (l = []) := by
  unfold BS
  rw [ByteArray.toList_eq]
  cases l with
  | nil => rfl
  | cons a t => rfl
theorem numP_lt {l : List UInt8} {n : Nat} (h : numP l = some n) : n < 10000000000 := by
  unfold numP at h
  split at h
  · rename_i hl
    have h1 := decFrom_lt l 0 n (decNat_some h).2
    have : 10 ^ l.length ≤ 10 ^ 10 := Nat.pow_le_pow_right (by decide) hl
    omega
  · cases h
theorem numV_none {l : List UInt8} (h : numP l = none) : numV l = (0, false) := by unfold numV; rw [h]
theorem numV_some {l : List UInt8} {n : Nat} (h : numP l = some n) : numV l = (n, true) := by unfold numV; rw [h]
theorem numP_empty : numP [] = none := rfl
theorem numP_long {l : List UInt8} (h : ¬ l.length ≤ 10) : numP l = none := by unfold numP; rw [if_neg h]
theorem numP_bad {l : List UInt8} (h : ¬ ∀ b ∈ l, IsD b) : numP l = none := by
  unfold numP decNat
  split
  · split
    · rfl
    · cases hd : decFrom 0 l with
      | none => rfl
      | some n => exact absurd ((decFrom_all l 0).1 ⟨n, hd⟩) h
  · rfl
theorem numP_good {l : List UInt8} (h1 : l ≠ []) (h2 : l.length ≤ 10) (h3 : ∀ b ∈ l, IsD b) : ∃ n : Nat, numP l = some n ∧ Lib.atoi l = some (n : Int) ∧ decFrom 0 l = some n := by
  obtain ⟨n, hn⟩ := (decFrom_all l 0).2 h3
  have e : decNat l = some n := by unfold decNat; rw [if_neg (by simpa using h1)]; exact hn
  refine ⟨n, by unfold numP; rw [if_pos h2]; exact e, ?_, hn⟩
  cases l with
  | nil => exact absurd rfl h1
  | cons b r =>
    have hb := h3 b (by simp)
    unfold IsD at hb
    unfold Lib.atoi
    have e1 : (b == 45) = false := by
      rw [beq_eq_false_iff_ne]; intro e; subst e; revert hb; decide
    have e2 : (b == 43) = false := by
      rw [beq_eq_false_iff_ne]; intro e; subst e; revert hb; decide
    show (if (b == 45) = true then Option.map (fun m : Nat => -(m : Int)) (decNat r) else if (b == 43) = true then Option.map (fun m : Nat => (m : Int)) (decNat r) else Option.map (fun m : Nat => (m : Int)) (decNat (b :: r))) = some (n : Int)
    rw [e1, e2, e]
    rfl
set_option maxRecDepth 100000 in
set_option maxHeartbeats 2000000 in
theorem number_any (l : List UInt8) (w : World) (hl : l.length ≤ 9223372036854775807) :
    Calls Tryd.prog 17 #[.string (BS l)] w fun e w' => e = .returned (.tuple #[.int .i64 ((numV l).1 : Int), .bool (numV l).2]) ∧ Below w.heap.size w w' := by
  have HTR := Lib.hid (trim_any l w hl)
  have he := bytes_empty (l := l)
  have hz := BS_size l
  obtain ⟨s, hs⟩ : ∃ s, s = BS l := ⟨_, rfl⟩
  rw [← hs] at he hz HTR ⊢
  by_cases h0 : l = []
  · rw [numV_none (by rw [h0]; exact numP_empty)]
    rw [decide_eq_true h0] at he
    clear h0 hz hl hs
    go_enter Tryd.func17, Tryd.ntmps17
    go_wp2
    refine bodyPost_ret (v := .tuple #[.int .i64 0, .bool false]) (by simp [results, Tryd.results17, go_sem]) rfl ?_
    exact ⟨rfl, Below.refl _ _⟩
  · rw [decide_eq_false h0] at he
    by_cases h1 : l.length ≤ 10
    · have hz1 : ¬ (10 : Int) < (s.size : Int) := by omega
      have hte := bytes_empty (l := Lib.trimS l digs)
      obtain ⟨t, ht⟩ : ∃ t, t = BS (Lib.trimS l digs) := ⟨_, rfl⟩
      rw [← ht] at hte HTR
      by_cases h2 : ∀ b ∈ l, IsD b
      · obtain ⟨n, n1, n2, _⟩ := numP_good h0 h1 h2
        have HAT := Lib.hid (fun W => atoi_any l n W (by omega) n2)
        rw [← hs] at HAT
        rw [numV_some n1]
        rw [decide_eq_true (trim_nil.2 fun x hx => digs_iff.2 (h2 x hx))] at hte
        clear h0 h1 h2 hl hs ht n1 n2 hz
        go_enter Tryd.func17, Tryd.ntmps17
        go_wp2_with (first
          | (go_at_call 34; refine (HTR.out).mono ?_; rintro e w1 ⟨rfl, hx1⟩)
          | (go_at_call 35; refine (HAT.out _).mono ?_; rintro e w2 ⟨rfl, hx2⟩))
        refine bodyPost_ret (v := .tuple #[.int .i64 (n : Int), .bool true]) (by simp [results, Tryd.results17, go_sem]) rfl ?_
        exact ⟨rfl, ext_trans hx1 hx2⟩
      · rw [numV_none (numP_bad h2)]
        rw [decide_eq_false (fun h => h2 fun x hx => digs_iff.1 (trim_nil.1 h x hx))] at hte
        clear h0 h1 h2 hl hs ht hz
        go_enter Tryd.func17, Tryd.ntmps17
        go_wp2_with (go_at_call 34; refine (HTR.out).mono ?_; rintro e w1 ⟨rfl, hx1⟩)
        refine bodyPost_ret (v := .tuple #[.int .i64 0, .bool false]) (by simp [results, Tryd.results17, go_sem]) rfl ?_
        exact ⟨rfl, hx1⟩
    · rw [numV_none (numP_long h1)]
      have hz1 : (10 : Int) < (s.size : Int) := by omega
      clear h0 h1 hl hs hz
      go_enter Tryd.func17, Tryd.ntmps17
      go_wp2
      refine bodyPost_ret (v := .tuple #[.int .i64 0, .bool false]) (by simp [results, Tryd.results17, go_sem]) rfl ?_
      exact ⟨rfl, Below.refl _ _⟩
/-- the loop of digits -/
theorem decFrom_step {l : List UInt8} {k a : Nat} (h : decFrom 0 (l.take k) = some a) (hk : k < l.length) (hd : IsD l[k]) : decFrom 0 (l.take (k + 1)) = some (10 * a + (l[k].toNat - 48)) := by
  have h1 := decFrom_take l k 0 a l[k] (l[k].toNat - 48) h (List.getElem?_eq_getElem hk) (by unfold digitVal; exact if_pos hd)
  rw [h1]; congr 1; omega
set_option maxRecDepth 100000 in
set_option maxHeartbeats 2000000 in
theorem digits_any (l : List UInt8) (w : World) (hl : l.length ≤ 9223372036854775807) :
    Calls Tryd.prog 19 #[.string (BS l)] w fun e w' => e = .returned (.tuple #[.int .i64 ((numV l).1 : Int), .bool (numV l).2]) ∧ w' = w := by
  have hz := BS_size l
  have HCH := Lib.hid (fun k (hk : k < (BS l).size) => show (BS l)[k] = l[k]'(by rw [← BS_size]; exact hk) from by
    show (BS l).data[k]'(by exact hk) = _
    simp [BS])
  obtain ⟨s, hs⟩ : ∃ s, s = BS l := ⟨_, rfl⟩
  rw [← hs] at hz ⊢
  have HCH := Lib.hid (show ∀ k (hk : k < s.size) (hk2 : k < l.length), s[k] = l[k] from fun k hk hk2 => by subst hs; exact HCH.out k hk)
  by_cases h0 : l = []
  · rw [numV_none (by rw [h0]; exact numP_empty)]
    have hz0 : (s.size : Int) < 1 := by rw [hz, h0]; decide
    clear h0 hz hl hs HCH
    go_enter Tryd.func19, Tryd.ntmps19
    go_wp2
    refine bodyPost_ret (v := .tuple #[.int .i64 0, .bool false]) (by simp [results, Tryd.results19, go_sem]) rfl ?_
    exact ⟨rfl, rfl⟩
  · have hlp : 1 ≤ l.length := List.length_pos_iff.2 h0
    have hz0 : ¬ (s.size : Int) < 1 := by omega
    by_cases h1 : l.length ≤ 10
    · have hz1 : ¬ (10 : Int) < (s.size : Int) := by omega
      have HN := Lib.hid hz
      have HL := Lib.hid hs
      have hs10 : s.size ≤ 10 := by omega
      have HNE := Lib.hid h0
      clear h0 hl hs hz hlp
      go_enter Tryd.func19, Tryd.ntmps19
      go_wp2_with (fail)
      go_loopg [16, 4] s.size (fun gg i v wr => ∃ (k a : Nat), i = .int .i64 k ∧ k ≤ s.size ∧ gg = s.size - k ∧ v = .int .i64 (a : Int) ∧ decFrom 0 (l.take k) = some a ∧ wr = w)
      case atStart => exact ⟨0, 0, rfl, by omega, by omega, rfl, by simp [decFrom], rfl⟩
      case round =>
        obtain ⟨k, a, rfl, hk, hg, rfl, hd, hw⟩ := hrel
        subst hw
        have HG := Lib.hid hg
        have HD := Lib.hid hd
        have hab : a < 10000000000 := by
          have h2 := decFrom_lt (l.take k) 0 a hd
          have h3 : 10 ^ (l.take k).length ≤ 10 ^ 10 := Nat.pow_le_pow_right (by decide) (by rw [List.length_take]; omega)
          omega
        clear hg hd
        by_cases hlt : k < s.size
        · have hkl : k < l.length := by rw [← HN.out]; exact hlt
          have hlt2 : (k : Int) < (s.size : Int) := by omega
          have hch := HCH.out k hlt hkl
          obtain ⟨b, hb⟩ : ∃ b, b = l[k] := ⟨_, rfl⟩
          rw [← hb] at hch
          have HB := Lib.hid hb
          have e1 : (s[k]'hlt).toNat = b.toNat := by rw [hch]
          clear hch hb
          by_cases hd : IsD b
          · obtain ⟨d1, d2⟩ := hd
            obtain ⟨v, hv⟩ : ∃ v : Nat, v = b.toNat := ⟨_, rfl⟩
            rw [← hv] at e1 d1 d2
            have HST := Lib.hid (show decFrom 0 (l.take (k + 1)) = some (10 * a + (v - 48)) from by
              rw [hv, HB.out]; exact decFrom_step HD.out hkl (by rw [← HB.out]; unfold IsD; omega))
            have t1 : ¬ (v : Int) < 48 := by omega
            have t2 : ¬ (57 : Int) < (v : Int) := by omega
            have t3 : ((v : Int) - 48) % 256 = (v : Int) - 48 := by omega
            clear hv
            go_wp2
            go_roundg (s.size - (k + 1))
            case measure => have := HG.out; omega
            case rel => exact ⟨k + 1, _, by go_num, by omega, rfl, by congr 1; omega, HST.out, rfl⟩
          · have HBD := Lib.hid (show numV l = (0, false) from numV_none (numP_bad fun h => hd (h b (by rw [HB.out]; exact List.getElem_mem _))))
            obtain ⟨v, hv⟩ : ∃ v : Nat, v = b.toNat := ⟨_, rfl⟩
            unfold IsD at hd
            rw [← hv] at e1 hd
            clear hv
            by_cases hlo : v < 48
            · have t1 : (v : Int) < 48 := by omega
              clear hd
              go_wp2
              refine bodyPost_ret (v := .tuple #[.int .i64 0, .bool false]) (by simp [results, Tryd.results19, go_sem]) rfl ?_
              exact ⟨by rw [HBD.out]; rfl, rfl⟩
            · have t1 : ¬ (v : Int) < 48 := by omega
              have t2 : (57 : Int) < (v : Int) := by omega
              clear hd
              go_wp2
              refine bodyPost_ret (v := .tuple #[.int .i64 0, .bool false]) (by simp [results, Tryd.results19, go_sem]) rfl ?_
              exact ⟨by rw [HBD.out]; rfl, rfl⟩
        · have HE := Lib.hid (show numV l = (a, true) from numV_some (by
            have hd := HD.out
            rw [List.take_of_length_le (by rw [← HN.out]; omega)] at hd
            unfold numP decNat
            rw [if_pos h1, if_neg (by simpa using HNE.out)]
            exact hd))
          obtain rfl : k = s.size := by omega
          go_wp2
          refine bodyPost_ret (v := .tuple #[.int .i64 (a : Int), .bool true]) (by simp [results, Tryd.results19, go_sem]) rfl ?_
          exact ⟨by rw [HE.out], rfl⟩
    · rw [numV_none (numP_long h1)]
      have hz1 : (10 : Int) < (s.size : Int) := by omega
      clear h0 h1 hl hs hz HCH hlp
      go_enter Tryd.func19, Tryd.ntmps19
      go_wp2
      refine bodyPost_ret (v := .tuple #[.int .i64 0, .bool false]) (by simp [results, Tryd.results19, go_sem]) rfl ?_
      exact ⟨rfl, rfl⟩
end Go.Proofs.YtpdlogpkfnpbpaaDoor
