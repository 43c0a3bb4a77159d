/- Plain law of the round: the odd joints hang together and are even in number; with the doubled walks all degrees are even. No conditions. -/
import Derived.Test.YtbhjhajnhpohlaaRdg
import Derived.Test.YtbhjhajnhpohlaaWyP
import Derived.Test.YtbhjhajnhpohlaaRo
namespace Go.Proofs.Ytbhjhajnhpohlaa

theorem Wk.cn {l : List Sm} {a b : Nat} {v : Int} (h : Wk l a b v) : Cn allK l l.length a b := by
  induction h with
  | nil => exact .refl _
  | fwd q hq _ ih => exact .fwd q hq hq rfl ih
  | bwd q hq _ ih => exact .bwd q hq hq rfl ih
theorem far_cls {n : Nat} {l : List Sm} (h : ∀ s ∈ l, SmOk n s) {a b : Nat} (hf : (tbl n l).L a b < far) : cls allK l l.length a = cls allK l l.length b :=
  (cls_inv allK l n h l.length (Nat.le_refl _)).cn ((tbl_snd h).wlk a b hf).cn
theorem cls_cn {n : Nat} {l : List Sm} (h : ∀ s ∈ l, SmOk n s) {a b : Nat} (ha : a < n) (hb : b < n) (e : cls allK l l.length a = cls allK l l.length b) : Cn allK l l.length a b := by
  have hc := cls_inv allK l n h l.length (Nat.le_refl _)
  have h1 := hc.con a ha
  have h2 := hc.con b hb
  rw [e] at h1
  exact h1.trans h2.symm
theorem near_cn {n : Nat} {l : List Sm} (h : ∀ s ∈ l, SmOk n s) (hn : n ≤ 16) {a x y : Nat} (ha : a < n) (hc : Cn allK l l.length x y) (hf : (tbl n l).L a x < far) : (tbl n l).L a y < far := by
  induction hc with
  | refl => exact hf
  | fwd q hq _ _ _ ih =>
    have h1 := tbl_bq h hn ih
    have h2 := (tri_edge h ha hq).1
    have hso := h _ (List.getElem_mem hq)
    unfold SmOk at hso
    unfold far
    omega
  | bwd q hq _ _ _ ih =>
    have h1 := tbl_bq h hn ih
    have h2 := (tri_edge h ha hq).2
    have hso := h _ (List.getElem_mem hq)
    unfold SmOk at hso
    unfold far
    omega
theorem cls_far {n : Nat} {l : List Sm} (h : ∀ s ∈ l, SmOk n s) (hn : n ≤ 16) {a b : Nat} (ha : a < n) (hb : b < n) (e : cls allK l l.length a = cls allK l l.length b) : (tbl n l).L a b < far :=
  near_cn h hn ha (cls_cn h ha hb e) (by rw [(tbl_snd h).dia a]; decide)
/-- all seams in the class of the first joint -/
def Conn (l : List Sm) (f : Nat) : Prop := ∀ s ∈ l, cls allK l l.length s.a.toNat = cls allK l l.length f
instance (l : List Sm) (f : Nat) : Decidable (Conn l f) := List.decidableBAll _ _
theorem Conn.b {n : Nat} {l : List Sm} {f : Nat} (hl : ∀ s ∈ l, SmOk n s) (h : Conn l f) {q : Nat} (hq : q < l.length) : cls allK l l.length l[q].b.toNat = cls allK l l.length f := by
  have hc := cls_inv allK l n hl l.length (Nat.le_refl _)
  have h1 := h _ (List.getElem_mem hq)
  rw [← h1]
  exact (hc.cn (.fwd q hq hq rfl (.refl _))).symm
theorem deg_pos {ch : Sm → Bool} : ∀ {l : List Sm} {j : Nat}, deg ch l j ≠ 0 → ∃ s ∈ l, s.a = j ∨ s.b = j
  | [], j, h => absurd rfl h
  | s :: l, j, h => by
    by_cases hs : s.a = j ∨ s.b = j
    · exact ⟨s, by simp, hs⟩
    · have h0 : inc s j = 0 := by unfold inc; rw [if_neg (fun e => hs (.inl e)), if_neg (fun e => hs (.inr e))]; rfl
      have : deg ch l j ≠ 0 := by
        intro e
        apply h
        show (if ch s then inc s j else 0) + deg ch l j = 0
        rw [e, h0]; split <;> rfl
      obtain ⟨t, ht, hh⟩ := deg_pos this
      exact ⟨t, by simp [ht], hh⟩
theorem oddN_mem {ch : Sm → Bool} {l : List Sm} : ∀ n, ∀ x ∈ oddN ch l n, ∃ j : Nat, x = j ∧ j < n ∧ deg ch l j % 2 = 1
  | 0, x, hx => by simp [oddN] at hx
  | n + 1, x, hx => by
    unfold oddN at hx
    split at hx
    · rename_i hd
      rcases List.mem_append.1 hx with hx | hx
      · obtain ⟨j, h1, h2, h3⟩ := oddN_mem n x hx
        exact ⟨j, h1, by omega, h3⟩
      · exact ⟨n, by simpa using hx, by omega, hd⟩
    · obtain ⟨j, h1, h2, h3⟩ := oddN_mem n x hx
      exact ⟨j, h1, by omega, h3⟩
theorem lo_rng {n : Nat} {l : List Sm} (h : ∀ s ∈ l, SmOk n s) : ∀ x ∈ oddN allS l 16, 0 ≤ x ∧ x < n := by
  intro x hx
  obtain ⟨j, rfl, _, hd⟩ := oddN_mem 16 x hx
  refine ⟨by omega, Int.not_le.1 fun hj => ?_⟩
  rw [deg_out h (by omega)] at hd
  omega
theorem lo_cls {n : Nat} {l : List Sm} {f : Nat} (h : ∀ s ∈ l, SmOk n s) (hc : Conn l f) : ∀ x ∈ oddN allS l 16, cls allK l l.length x.toNat = cls allK l l.length f := by
  intro x hx
  obtain ⟨j, rfl, _, hd⟩ := oddN_mem 16 x hx
  obtain ⟨s, hs, he⟩ := deg_pos (ch := allS) (l := l) (j := j) (by omega)
  rw [Int.toNat_natCast]
  obtain ⟨q, hq, rfl⟩ := List.getElem_of_mem hs
  rcases he with he | he
  · have := hc _ hs
    rw [he] at this
    exact this
  · have := hc.b h hq
    rw [he] at this
    exact this
theorem lo_con {n : Nat} {l : List Sm} {f : Nat} (h : ∀ s ∈ l, SmOk n s) (hn : n ≤ 16) (hc : Conn l f) : ∀ i j, i < (oddN allS l 16).length → j < (oddN allS l 16).length → (tbl n l).L (jt (oddN allS l 16) i) (jt (oddN allS l 16) j) < far := by
  intro i j hi hj
  have e : ∀ i, (hi : i < (oddN allS l 16).length) → jt (oddN allS l 16) i = ((oddN allS l 16)[i]).toNat := fun i hi => by
    unfold jt; rw [List.getD_eq_getElem?_getD, List.getElem?_eq_getElem hi]; rfl
  rw [e i hi, e j hj]
  have r1 := lo_rng h _ (List.getElem_mem hi)
  have r2 := lo_rng h _ (List.getElem_mem hj)
  exact cls_far h hn (by omega) (by omega) ((lo_cls h hc _ (List.getElem_mem hi)).trans (lo_cls h hc _ (List.getElem_mem hj)).symm)
/-- the degrees of the first n joints -/
def sdeg (l : List Sm) : Nat → Int
  | 0 => 0
  | n + 1 => sdeg l n + deg allS l n
theorem odd_sdeg (l : List Sm) : ∀ n, ((oddN allS l n).length : Int) % 2 = sdeg l n % 2
  | 0 => rfl
  | n + 1 => by
    have ih := odd_sdeg l n
    unfold oddN sdeg
    split
    · rw [List.length_append]; push_cast; simp; omega
    · omega
theorem sdeg_cons (s : Sm) (l : List Sm) : ∀ n, sdeg (s :: l) n = sdeg [s] n + sdeg l n
  | 0 => rfl
  | n + 1 => by
    have ih := sdeg_cons s l n
    unfold sdeg
    rw [ih]
    show _ + ((if allS s then inc s n else 0) + deg allS l n) = _ + ((if allS s then inc s n else 0) + 0) + _
    omega
theorem sdeg_one {s : Sm} (h : 0 ≤ s.a ∧ 0 ≤ s.b) : ∀ n, sdeg [s] n = (if s.a < n then 1 else 0) + (if s.b < n then 1 else 0)
  | 0 => by unfold sdeg; rw [if_neg (by omega), if_neg (by omega)]; rfl
  | n + 1 => by
    have ih := sdeg_one h n
    have e : deg allS [s] n = inc s n := by show (if allS s then inc s n else 0) + 0 = _; unfold allS; simp
    unfold sdeg
    rw [ih, e]
    unfold inc
    push_cast
    by_cases h1 : s.a < n <;> by_cases h2 : s.b < n <;> by_cases h3 : s.a = n <;> by_cases h4 : s.b = n <;> simp [h1, h2, h3, h4] <;> repeat' split
    all_goals omega
theorem sdeg_two {n : Nat} (hn : n ≤ 16) : ∀ {l : List Sm}, (∀ s ∈ l, SmOk n s) → sdeg l 16 = 2 * l.length
  | [], _ => by decide
  | s :: l, h => by
    have hs := h s (by simp)
    unfold SmOk at hs
    rw [sdeg_cons, sdeg_two hn (l := l) (fun t ht => h t (by simp [ht])), sdeg_one ⟨hs.1, hs.2.2.1⟩, if_pos (by omega), if_pos (by omega)]
    simp only [List.length_cons]
    push_cast
    omega
theorem lo_even {n : Nat} {l : List Sm} (h : ∀ s ∈ l, SmOk n s) (hn : n ≤ 16) : (oddN allS l 16).length % 2 = 0 := by
  have h1 := odd_sdeg l 16
  rw [sdeg_two hn h] at h1
  omega

/-- what the bits of a set weigh -/
def wc (s : Nat) (f : Nat → Nat) : Nat → Nat
  | 0 => 0
  | n + 1 => wc s f n + if s.testBit n then f n else 0
theorem wc_off {s i : Nat} (h : s.testBit i = true) (f : Nat → Nat) : ∀ n, wc s f n = wc (wo1 s i) f n + if i < n then f i else 0
  | 0 => by simp [wc]
  | n + 1 => by
    have ih := wc_off h f n
    have hb := wo1_bit s i n
    unfold wc
    by_cases e : i = n
    · subst e
      rw [h] at hb ⊢
      rw [hb]
      rw [if_neg (show ¬ i < i by omega)] at ih
      rw [if_pos (show i < i + 1 by omega)]
      simp
      omega
    · have : decide (i = n) = false := by simpa using e
      rw [this, Bool.xor_false] at hb
      rw [hb]
      by_cases hn : i < n
      · rw [if_pos hn] at ih
        rw [if_pos (show i < n + 1 by omega)]
        omega
      · rw [if_neg hn] at ih
        rw [if_neg (show ¬ i < n + 1 by omega)]
        omega
theorem wc_zero (f : Nat → Nat) : ∀ n, wc 0 f n = 0
  | 0 => rfl
  | n + 1 => by unfold wc; rw [wc_zero f n]; simp
theorem wc_full (f : Nat → Nat) (m : Nat) : ∀ n, n ≤ m → wc (2 ^ m - 1) f n = ((List.range n).map f).sum
  | 0, _ => rfl
  | n + 1, h => by
    unfold wc
    rw [wc_full f m n (by omega), List.range_succ, List.map_append, List.sum_append_nat, Nat.testBit_two_pow_sub_one]
    simp
    omega
theorem Ext.par {d : Nat → Nat → Int} {v : Int} {k s : Nat} {ps : List (Nat × Nat)} (h : Ext d v k s ps) (lo : List Int) (x : Int) : ppar lo ps x = wc s (fun i => at1 (jt lo i) x) k := by
  induction h with
  | nil => rw [wc_zero]; rfl
  | cons hs hi hj hij hjk bi bj he t ih =>
    have h1 := wc_off bi (fun i => at1 (jt lo i) x) k
    have h2 := wc_off (wo_facts bi hij bj).1 (fun i => at1 (jt lo i) x) k
    rw [if_pos (by omega)] at h1
    rw [if_pos hjk] at h2
    have e : ∀ (p : Nat × Nat) (qs : List (Nat × Nat)), ppar lo (p :: qs) x = at1 (jt lo p.1) x + at1 (jt lo p.2) x + ppar lo qs x := fun p qs => by unfold ppar; simp
    rw [e, ih, h1, h2]
    dsimp only
    omega
theorem Ext.sum {d : Nat → Nat → Int} {v : Int} {k s : Nat} {ps : List (Nat × Nat)} (h : Ext d v k s ps) : psum d ps = (dpv d v k s).1 := by
  induction h with
  | nil => rw [dpv_zero]; rfl
  | cons hs hi hj hij hjk bi bj he t ih =>
    have e : ∀ (p : Nat × Nat) (qs : List (Nat × Nat)), psum d (p :: qs) = d p.1 p.2 + psum d qs := fun p qs => by unfold psum; simp
    rw [e, ih, he]
    dsimp only
    omega
/-- how often a joint stands in a list -/
def occ (lo : List Int) (x : Int) : Nat := (lo.map fun y => if y = x then 1 else 0).sum
theorem occ_range {lo : List Int} (h : ∀ y ∈ lo, 0 ≤ y) (x : Int) : ((List.range lo.length).map fun i => at1 (jt lo i) x).sum = occ lo x := by
  unfold occ
  congr 1
  apply List.ext_getElem
  · simp
  · intro i h1 h2
    have hi : i < lo.length := by simpa using h1
    have := h _ (List.getElem_mem hi)
    simp only [List.getElem_map, List.getElem_range]
    unfold at1 jt
    rw [List.getD_eq_getElem?_getD, List.getElem?_eq_getElem hi]
    have e : (((lo[i]).toNat : Nat) : Int) = lo[i] := Int.toNat_of_nonneg this
    simp only [Option.getD_some, e]
theorem occ_odd (l : List Sm) : ∀ n (x : Int), occ (oddN allS l n) x = if 0 ≤ x ∧ x < n ∧ deg allS l x.toNat % 2 = 1 then 1 else 0
  | 0, x => by
    rw [if_neg (by omega)]; rfl
  | n + 1, x => by
    have ih := occ_odd l n x
    have ea : ∀ (a b : List Int), occ (a ++ b) x = occ a x + occ b x := fun a b => by unfold occ; rw [List.map_append, List.sum_append_nat]
    have e1 : occ [(n : Int)] x = if (n : Int) = x then 1 else 0 := by unfold occ; simp
    unfold oddN
    split
    · rename_i hd
      rw [ea, ih, e1]
      by_cases hx : (n : Int) = x
      · subst hx
        rw [if_neg (by omega), if_pos rfl, if_pos ⟨by omega, by push_cast; omega, by rw [Int.toNat_natCast]; exact hd⟩]
      · rw [if_neg hx]
        by_cases h2 : 0 ≤ x ∧ x < n ∧ deg allS l x.toNat % 2 = 1
        · rw [if_pos h2, if_pos ⟨h2.1, by push_cast; omega, h2.2.2⟩]
        · rw [if_neg h2, if_neg (fun e => h2 ⟨e.1, by have := e.2.1; push_cast at this; omega, e.2.2⟩)]
    · rename_i hd
      rw [ih]
      by_cases h2 : 0 ≤ x ∧ x < n ∧ deg allS l x.toNat % 2 = 1
      · rw [if_pos h2, if_pos ⟨h2.1, by push_cast; omega, h2.2.2⟩]
      · rw [if_neg h2, if_neg (fun e => ?_)]
        by_cases hx : x = (n : Int)
        · subst hx
          rw [Int.toNat_natCast] at e
          exact hd e.2.2
        · exact h2 ⟨e.1, by have := e.2.1; push_cast at this; omega, e.2.2⟩
theorem lnDeg_ns (l : List Sm) : ∀ k, k ≤ l.length → ∀ j : Nat, (lnDeg (lnsN l k) (j : Int) : Int) = deg allS (l.take k) j
  | 0, _, j => by simp [lnsN, lnDeg, deg]
  | k + 1, hk, j => by
    have hlt : k < l.length := by omega
    rw [lnsN_succ hlt rfl, lnDeg_append, deg_take allS hlt, Int.natCast_add, lnDeg_ns l k (by omega) j]
    congr 1
    unfold lnDeg lnInc inc allS
    simp only [List.map_cons, List.map_nil, List.sum_cons, List.sum_nil]
    push_cast
    split <;> split <;> rfl
theorem lnDeg_out {n : Nat} {l : List Sm} (h : ∀ s ∈ l, SmOk n s) {v : Int} (hv : v < 0 ∨ n ≤ v) : ∀ k, k ≤ l.length → lnDeg (lnsN l k) v = 0
  | 0, _ => by simp [lnsN, lnDeg]
  | k + 1, hk => by
    have hlt : k < l.length := by omega
    have hs := h _ (List.getElem_mem hlt)
    unfold SmOk at hs
    rw [lnsN_succ hlt rfl, lnDeg_append, lnDeg_out h hv k (by omega)]
    unfold lnDeg lnInc
    simp only [List.map_cons, List.map_nil, List.sum_cons, List.sum_nil]
    rw [if_neg (by omega), if_neg (by omega)]
    rfl
/-- what is known of the lines of a round -/
structure RnL (n f : Nat) (l : List Sm) (Y : List Ln) : Prop where
  ln : ∀ s ∈ Y, IsLn l s
  all : ∀ q, q < l.length → ∃ s ∈ Y, s.k = (q : Int)
  ev : ∀ v, lnDeg Y v % 2 = 0
  hg : Hangs Y f
  len : Y.length ≤ 1000
  sum : lnSum l Y = sumN l l.length + (dpv (fun i j => (tbl n l).L (jt (oddN allS l 16) i) (jt (oddN allS l 16) j)) 17592186044416 (oddN allS l 16).length (2 ^ (oddN allS l 16).length - 1)).1
theorem lns_is (l : List Sm) : ∀ s ∈ lnsN l l.length, IsLn l s := by
  intro s hs
  obtain ⟨k, hk, rfl⟩ := List.getElem_of_mem hs
  obtain ⟨hl, e⟩ := lnsN_get l l.length (Nat.le_refl _) k hk
  exact ⟨k, hl, e⟩
theorem lnSum_ns (l : List Sm) : ∀ k, k ≤ l.length → lnSum l (lnsN l k) = sumN l k
  | 0, _ => rfl
  | k + 1, hk => by
    have hlt : k < l.length := by omega
    rw [lnsN_succ hlt rfl, lnSum_append, lnSum_ns l k (by omega), sumN_succ hlt rfl]
    congr 1
    simp [lnSum, lnLen, List.getD_eq_getElem?_getD, hlt]
theorem lnAt_mem {L : List Ln} {k : Nat} (h : k < L.length) : lnAt L k ∈ L := by rw [lnAt_get h]; exact List.getElem_mem h
theorem rnl_of {n f : Nat} {l : List Sm} {X : List Ln} {ps : List (Nat × Nat)} (hok : GOk n l) (hf : f < n) (hc : Conn l f)
    (he : Ext (fun i j => (tbl n l).L (jt (oddN allS l 16) i) (jt (oddN allS l 16) j)) 17592186044416 (oddN allS l 16).length (2 ^ (oddN allS l 16).length - 1) ps)
    (hx : Xt l X (psum (fun i j => (tbl n l).L (jt (oddN allS l 16) i) (jt (oddN allS l 16) j)) ps) (ppar (oddN allS l 16) ps)) (hl : X.length ≤ 16 * ps.length) : RnL n f l (lnsN l l.length ++ X) := by
  have hs := hok.2.2.2
  have hn : n ≤ 16 := by have := hok.2.1; omega
  have hlen := lnsN_len' l l.length (Nat.le_refl _)
  refine ⟨fun s hm => ?_, fun q hq => ?_, fun v => ?_, fun S hS hcl k hk => ?_, ?_, ?_⟩
  · rcases List.mem_append.1 hm with hm | hm
    · exact lns_is l s hm
    · exact hx.ln s hm
  · obtain ⟨hl2, e⟩ := lnsN_get l l.length (Nat.le_refl _) q (by rw [hlen]; exact hq)
    exact ⟨(lnsN l l.length)[q]'(by rw [hlen]; exact hq), List.mem_append_left _ (List.getElem_mem _), by rw [e]⟩
  · rw [lnDeg_append]
    have h1 := hx.pr v
    rw [he.par, wc_full _ _ _ (Nat.le_refl _), occ_range (fun y hy => (lo_rng hs y hy).1), occ_odd] at h1
    by_cases hv : 0 ≤ v ∧ v < 16
    · obtain ⟨j, rfl⟩ := Int.eq_ofNat_of_zero_le hv.1
      have h2 := lnDeg_ns l l.length (Nat.le_refl _) j
      rw [List.take_length] at h2
      rw [Int.toNat_natCast] at h1
      split at h1
      · omega
      · rename_i hd
        have : ¬ deg allS l j % 2 = 1 := fun e => hd ⟨hv.1, by omega, e⟩
        omega
    · have h2 := lnDeg_out hs (v := v) (by omega) l.length (Nat.le_refl _)
      rw [if_neg (by omega)] at h1
      omega
  · have hedge : ∀ q (hq : q < l.length), S l[q].a ↔ S l[q].b := by
      intro q hq
      have hk : q < (lnsN l l.length ++ X).length := by rw [List.length_append]; omega
      have h := hcl q hk
      have e : lnAt (lnsN l l.length ++ X) q = ⟨q, l[q].a, l[q].b⟩ := by
        rw [lnAt_get hk, List.getElem_append_left (by omega)]
        exact (lnsN_get l l.length (Nat.le_refl _) q (by omega)).2
      rw [e] at h
      exact h
    have hcn : ∀ {x y : Nat}, Cn allK l l.length x y → S (x : Int) → S (y : Int) := by
      intro x y h
      induction h with
      | refl => exact fun h => h
      | fwd q hq _ _ _ ih =>
        intro h
        have hso := hs _ (List.getElem_mem hq)
        unfold SmOk at hso
        have h2 := ih h
        rw [Int.toNat_of_nonneg hso.1] at h2
        rw [Int.toNat_of_nonneg hso.2.2.1]
        exact (hedge q hq).1 h2
      | bwd q hq _ _ _ ih =>
        intro h
        have hso := hs _ (List.getElem_mem hq)
        unfold SmOk at hso
        have h2 := ih h
        rw [Int.toNat_of_nonneg hso.2.2.1] at h2
        rw [Int.toNat_of_nonneg hso.1]
        exact (hedge q hq).2 h2
    have hm := lnAt_mem hk
    have hi : IsLn l (lnAt (lnsN l l.length ++ X) k) := by
      rcases List.mem_append.1 hm with hm | hm
      · exact lns_is l _ hm
      · exact hx.ln _ hm
    obtain ⟨q, hq, e⟩ := hi
    rw [e]
    have hso := hs _ (List.getElem_mem hq)
    unfold SmOk at hso
    have h := hcn (cls_cn hs hf (by omega) (hc _ (List.getElem_mem hq)).symm) hS
    rw [Int.toNat_of_nonneg hso.1] at h
    exact h
  · rw [List.length_append, hlen]
    have h1 := he.len
    have h2 := cntB_le (2 ^ (oddN allS l 16).length - 1) (oddN allS l 16).length
    have h3 := oddN_len allS l 16
    have h4 := hok.2.2.1
    omega
  · rw [lnSum_append, lnSum_ns l l.length (Nat.le_refl _), hx.sm, he.sum]
end Go.Proofs.Ytbhjhajnhpohlaa
