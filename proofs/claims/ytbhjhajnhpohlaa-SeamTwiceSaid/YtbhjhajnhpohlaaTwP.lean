/- Plain law of the pairing: the least sum is at most the sum of all seams; it is positive where a joint is odd. No conditions. -/
import Derived.Test.YtbhjhajnhpohlaaRoP
namespace Go.Proofs.Ytbhjhajnhpohlaa

/-- a list of joints, paired, and what the pairs cost -/
inductive Pc (L : Mx) : List Nat → Int → Prop
  | nil : Pc L [] 0
  | cons {a b : Nat} {r : List Nat} {c : Int} (h : Pc L r c) : Pc L (a :: b :: r) (c + L a b)
  | perm {r r' : List Nat} {c : Int} (h : Pc L r c) (p : r.Perm r') : Pc L r' c
theorem Pc.nn {L : Mx} (h0 : ∀ a b, 0 ≤ L a b) {r : List Nat} {c : Int} (h : Pc L r c) : 0 ≤ c := by
  induction h with
  | nil => exact Int.le_refl _
  | @cons a b r c h ih => exact Int.add_nonneg ih (h0 a b)
  | perm h p ih => exact ih
/-- the partner of a joint -/
theorem Pc.inv {L : Mx} {n : Nat} (hs : ∀ a b, a < n → b < n → L a b = L b a) {r : List Nat} {c : Int} (h : Pc L r c) : (∀ x ∈ r, x < n) → ∀ x ∈ r, ∃ y r' c', r.Perm (x :: y :: r') ∧ c = c' + L x y ∧ Pc L r' c' := by
  induction h with
  | nil => intro _ x hx; cases hx
  | @cons a b r c h ih =>
    intro hn x hx
    have ha := hn a (by simp)
    have hb := hn b (by simp)
    by_cases e1 : x = a
    · subst e1
      exact ⟨b, r, c, .refl _, rfl, h⟩
    · by_cases e2 : x = b
      · subst e2
        exact ⟨a, r, c, .swap _ _ _, by rw [hs _ _ ha hb], h⟩
      · have hx' : x ∈ r := by
          rcases List.mem_cons.1 hx with h1 | h1
          · exact absurd h1 e1
          · rcases List.mem_cons.1 h1 with h2 | h2
            · exact absurd h2 e2
            · exact h2
        obtain ⟨y, r', c', p, e, h'⟩ := ih (fun z hz => hn z (by simp [hz])) x hx'
        refine ⟨y, a :: b :: r', c' + L a b, ?_, by omega, .cons h'⟩
        have p1 : (a :: b :: r).Perm (a :: b :: x :: y :: r') := (p.cons b).cons a
        have p2 : (a :: b :: x :: y :: r').Perm (x :: y :: a :: b :: r') := (List.perm_append_comm (l₁ := [a, b]) (l₂ := [x, y])).append_right r'
        exact p1.trans p2
  | @perm r r' c h p ih =>
    intro hn x hx
    obtain ⟨y, q, c', p', e, h'⟩ := ih (fun z hz => hn z (p.mem_iff.1 hz)) x (p.mem_iff.2 hx)
    exact ⟨y, q, c', p.symm.trans p', e, h'⟩
/-- a joint that stands twice goes -/
theorem Pc.red {L : Mx} {n : Nat} (hs : ∀ a b, a < n → b < n → L a b = L b a) (h0 : ∀ a b, 0 ≤ L a b) (ht : ∀ a b c, a < n → b < n → c < n → L a c ≤ L a b + L b c) {x : Nat} {r : List Nat} {c : Int} (h : Pc L (x :: x :: r) c) (hn : ∀ z ∈ x :: x :: r, z < n) : ∃ c', c' ≤ c ∧ Pc L r c' := by
  obtain ⟨y, r', c', p, e, h'⟩ := h.inv hs hn x (by simp)
  have p1 : (x :: r).Perm (y :: r') := p.cons_inv
  by_cases hy : y = x
  · subst hy
    exact ⟨c', by have := h0 y y; omega, .perm h' p1.cons_inv.symm⟩
  · have hx : x ∈ r' := by
      have : x ∈ y :: r' := p1.mem_iff.1 (by simp)
      rcases List.mem_cons.1 this with h1 | h1
      · exact absurd h1.symm hy
      · exact h1
    have hn' : ∀ z ∈ r', z < n := fun z hz => hn z (p.mem_iff.2 (by simp [hz]))
    obtain ⟨z, r'', c'', p2, e2, h''⟩ := h'.inv hs hn' x hx
    have hxn := hn x (by simp)
    have hyn := hn y (p.mem_iff.2 (by simp))
    have hzn := hn' z (p2.mem_iff.2 (by simp))
    have p3 : (x :: r).Perm (x :: y :: z :: r'') := p1.trans ((p2.cons y).trans (.swap _ _ _))
    have t := ht y x z hyn hxn hzn
    have e3 := hs y x hyn hxn
    exact ⟨c'' + L y z, by omega, .perm (.cons h'') p3.cons_inv.symm⟩
/-- a list without repetition of the same parities -/
theorem Pc.nodup {L : Mx} {n : Nat} (hs : ∀ a b, a < n → b < n → L a b = L b a) (h0 : ∀ a b, 0 ≤ L a b) (ht : ∀ a b c, a < n → b < n → c < n → L a c ≤ L a b + L b c) : ∀ (m : Nat) (r : List Nat) (c : Int), r.length ≤ m → Pc L r c → (∀ z ∈ r, z < n) → ∃ r' c', c' ≤ c ∧ Pc L r' c' ∧ r'.Nodup ∧ (∀ z, r'.count z % 2 = r.count z % 2) ∧ ∀ z ∈ r', z < n := by
  intro m
  induction m with
  | zero =>
    intro r c hl h hn
    obtain rfl : r = [] := List.eq_nil_of_length_eq_zero (by omega)
    exact ⟨[], c, Int.le_refl _, h, List.nodup_nil, fun _ => rfl, hn⟩
  | succ m ih =>
    intro r c hl h hn
    by_cases hd : r.Nodup
    · exact ⟨r, c, Int.le_refl _, h, hd, fun _ => rfl, hn⟩
    · have : ∃ x, 1 < r.count x := by
        refine Classical.byContradiction fun hc => hd (List.nodup_iff_count.2 fun x => ?_)
        exact Nat.le_of_not_lt fun hx => hc ⟨x, hx⟩
      obtain ⟨x, hx⟩ := this
      have m1 : x ∈ r := List.count_pos_iff.1 (by omega)
      have p1 : r.Perm (x :: r.erase x) := List.perm_cons_erase m1
      have c1 : (r.erase x).count x = r.count x - 1 := List.count_erase_self
      have m2 : x ∈ r.erase x := List.count_pos_iff.1 (by omega)
      have p2 : r.Perm (x :: x :: (r.erase x).erase x) := p1.trans ((List.perm_cons_erase m2).cons x)
      obtain ⟨c', hc', h'⟩ := (Pc.perm h p2).red hs h0 ht (fun z hz => hn z (p2.mem_iff.2 hz))
      have hlen := p2.length_eq
      simp only [List.length_cons] at hlen
      obtain ⟨r', c'', q1, q2, q3, q4, q5⟩ := ih _ c' (by omega) h' (fun z hz => hn z (p2.mem_iff.2 (by simp [hz])))
      refine ⟨r', c'', by omega, q2, q3, fun z => ?_, q5⟩
      rw [q4 z, p2.count_eq z, List.count_cons, List.count_cons]
      split <;> omega

/-- the joints at the bits of a set -/
def sel (lo : List Int) (s : Nat) : Nat → List Nat
  | 0 => []
  | n + 1 => if s.testBit n then jt lo n :: sel lo s n else sel lo s n
theorem sel_off {lo : List Int} {s i : Nat} (h : s.testBit i = true) : ∀ n, i < n → (sel lo s n).Perm (jt lo i :: sel lo (wo1 s i) n)
  | 0, hn => by omega
  | n + 1, hn => by
    have hb := wo1_bit s i n
    have same : ∀ m, m ≤ i → sel lo (wo1 s i) m = sel lo s m := by
      intro m
      induction m with
      | zero => intro _; rfl
      | succ m ih =>
        intro hm
        have hb := wo1_bit s i m
        have : decide (i = m) = false := by simp; omega
        rw [this, Bool.xor_false] at hb
        unfold sel
        rw [hb, ih (by omega)]
    by_cases e : i = n
    · subst e
      rw [h] at hb
      unfold sel
      rw [h, hb, same i (Nat.le_refl _)]
      simp
    · have : decide (i = n) = false := by simpa using e
      rw [this, Bool.xor_false] at hb
      have ih := sel_off (lo := lo) h n (by omega)
      unfold sel
      rw [hb]
      split
      · exact (ih.cons _).trans (.swap _ _ _)
      · exact ih
theorem sel_mem {lo : List Int} {s : Nat} : ∀ n, ∀ y ∈ sel lo s n, ∃ j, j < n ∧ s.testBit j = true ∧ y = jt lo j
  | 0, y, h => by cases h
  | n + 1, y, h => by
    unfold sel at h
    split at h
    · rename_i hb
      rcases List.mem_cons.1 h with h | h
      · exact ⟨n, by omega, hb, h⟩
      · obtain ⟨j, h1, h2, h3⟩ := sel_mem n y h
        exact ⟨j, by omega, h2, h3⟩
    · obtain ⟨j, h1, h2, h3⟩ := sel_mem n y h
      exact ⟨j, by omega, h2, h3⟩
/-- no pairing of a set is cheaper than the table -/
theorem dpv_le {L : Mx} {lo : List Int} {n : Nat} {D v : Int} {k : Nat} (hd : ∀ i j, i < k → j < k → 0 ≤ L (jt lo i) (jt lo j) ∧ L (jt lo i) (jt lo j) ≤ D) (hv : (k : Int) * D < v) (hD : 0 ≤ D) (hs : ∀ a b, a < n → b < n → L a b = L b a) (h0 : ∀ a b, 0 ≤ L a b) (hlo : ∀ i, i < k → jt lo i < n) :
    ∀ (m s : Nat) (c : Int), s ≤ m → s < 2 ^ k → cntB s k % 2 = 0 → Pc L (sel lo s k) c → (dpv (fun i j => L (jt lo i) (jt lo j)) v k s).1 ≤ c := by
  intro m
  induction m with
  | zero =>
    intro s c hm hk he h
    obtain rfl : s = 0 := by omega
    rw [dpv_zero]
    exact h.nn h0
  | succ m ih =>
    intro s c hm hk he h
    rcases Nat.eq_zero_or_pos s with rfl | hs0
    · rw [dpv_zero]
      exact h.nn h0
    obtain ⟨hb, hlk, hl⟩ := low_ex hk hs0
    have hp := sel_off (lo := lo) hb k hlk
    have hn : ∀ x ∈ sel lo s k, x < n := fun x hx => by
      obtain ⟨j, h1, _, rfl⟩ := sel_mem k x hx
      exact hlo j h1
    obtain ⟨y, r', c', p, e, h'⟩ := h.inv hs hn (jt lo (low k s)) (hp.mem_iff.2 (by simp))
    have p1 : (sel lo (wo1 s (low k s)) k).Perm (y :: r') := (hp.symm.trans p).cons_inv
    obtain ⟨j, j1, j2, rfl⟩ := sel_mem k y (p1.mem_iff.2 (by simp))
    have hbj : s.testBit j = true ∧ low k s ≠ j := by
      have := wo1_bit s (low k s) j
      rw [j2] at this
      by_cases e : low k s = j
      · rw [← e, hb] at this; simp at this
      · have e2 : decide (low k s = j) = false := by simpa using e
        rw [e2, Bool.xor_false] at this
        exact ⟨this.symm, e⟩
    have hij : low k s < j := by
      rcases Nat.lt_or_ge (low k s) j with h1 | h1
      · exact h1
      · have := hl j (by have := hbj.2; omega)
        rw [hbj.1] at this
        cases this
    have p2 : (sel lo (wo1 (wo1 s (low k s)) j) k).Perm r' := ((sel_off (lo := lo) j2 k j1).symm.trans p1).cons_inv
    obtain ⟨f1, f2, f3⟩ := wo_facts hb hij hbj.1
    have hc1 := cntB_off hb k
    rw [if_pos hlk] at hc1
    have hc2 := cntB_off f1 k
    rw [if_pos j1] at hc2
    have h1 := ih (wo1 (wo1 s (low k s)) j) c' (by omega) (by omega) (by omega) (.perm h' p2.symm)
    obtain ⟨-, -, h2⟩ := dpv_even (d := fun i j => L (jt lo i) (jt lo j)) (D := D) (v := v) (k := k) hd hv hD s s (Nat.le_refl _) hk he
    obtain ⟨j', a1, a2, a3, -, -, a5⟩ := h2 hs0
    have h3 := a5 j j1 hij hbj.1
    omega
/-- the table is the same both ways -/
theorem Wk.rev {l : List Sm} {a b : Nat} {v : Int} (h : Wk l a b v) : Wk l b a v := by
  induction h with
  | nil => exact .nil _
  | fwd q hq _ ih => exact ((Wk.back q hq).trans ih).cast (by omega)
  | bwd q hq _ ih => exact ((Wk.one q hq).trans ih).cast (by omega)
theorem tbl_sym {n : Nat} {l : List Sm} (h : ∀ s ∈ l, SmOk n s) {a b : Nat} (ha : a < n) (hb : b < n) : (tbl n l).L a b = (tbl n l).L b a := by
  have key : ∀ a b, a < n → b < n → (tbl n l).L b a ≤ (tbl n l).L a b := fun a b ha hb => by
    by_cases hf : (tbl n l).L a b < far
    · exact tbl_le h ((tbl_snd h).wlk a b hf).rev hb
    · have := (tbl_snd h).rng b a
      omega
  have h1 := key a b ha hb
  have h2 := key b a hb ha
  omega
/-- both ends of all seams -/
def endsL : List Sm → List Nat
  | [] => []
  | s :: l => s.a.toNat :: s.b.toNat :: endsL l
theorem endsL_lt {n : Nat} : ∀ {l : List Sm}, (∀ s ∈ l, SmOk n s) → ∀ z ∈ endsL l, z < n
  | [], _, z, hz => by cases hz
  | s :: l, h, z, hz => by
    have hs := h s (by simp)
    unfold SmOk at hs
    rcases List.mem_cons.1 hz with rfl | hz
    · omega
    · rcases List.mem_cons.1 hz with rfl | hz
      · omega
      · exact endsL_lt (fun t ht => h t (by simp [ht])) z hz
theorem endsL_count {n : Nat} : ∀ {l : List Sm}, (∀ s ∈ l, SmOk n s) → ∀ j : Nat, ((endsL l).count j : Int) = deg allS l j
  | [], _, j => rfl
  | s :: l, h, j => by
    have hs := h s (by simp)
    unfold SmOk at hs
    have ih := endsL_count (l := l) (fun t ht => h t (by simp [ht])) j
    show ((s.a.toNat :: s.b.toNat :: endsL l).count j : Int) = (if allS s then inc s j else 0) + deg allS l j
    rw [List.count_cons, List.count_cons, ← ih]
    unfold allS inc
    simp only [if_true, beq_iff_eq]
    push_cast
    by_cases h1 : s.a.toNat = j <;> by_cases h2 : s.b.toNat = j
    · rw [if_pos h1, if_pos h2, if_pos (by omega), if_pos (by omega)]; omega
    · rw [if_pos h1, if_neg h2, if_pos (by omega), if_neg (by omega)]; omega
    · rw [if_neg h1, if_pos h2, if_neg (by omega), if_pos (by omega)]; omega
    · rw [if_neg h1, if_neg h2, if_neg (by omega), if_neg (by omega)]; omega
def tot (l : List Sm) : Int := (l.map Sm.n).sum
theorem endsL_pc {n : Nat} {l0 : List Sm} (h0 : ∀ s ∈ l0, SmOk n s) : ∀ {l : List Sm}, (∀ s ∈ l, s ∈ l0) → ∃ c, c ≤ tot l ∧ Pc (tbl n l0).L (endsL l) c
  | [], _ => ⟨0, Int.le_refl _, .nil⟩
  | s :: l, h => by
    obtain ⟨c, h1, h2⟩ := endsL_pc h0 (l := l) (fun t ht => h t (by simp [ht]))
    obtain ⟨q, hq, e⟩ := List.getElem_of_mem (h s (by simp))
    have h3 := (tbl_edge h0 hq).1
    rw [e] at h3
    refine ⟨c + (tbl n l0).L s.a.toNat s.b.toNat, ?_, .cons h2⟩
    have : tot (s :: l) = s.n + tot l := by simp [tot]
    omega
theorem sumN_tot (l : List Sm) : ∀ k, k ≤ l.length → sumN l k = tot (l.take k)
  | 0, _ => rfl
  | k + 1, h => by
    have hlt : k < l.length := by omega
    rw [sumN_succ hlt rfl, sumN_tot l k (by omega), List.take_succ_eq_append_getElem hlt]
    unfold tot
    rw [List.map_append, List.sum_append_int]
    simp
theorem sel_full {lo : List Int} (m : Nat) : ∀ n, n ≤ m → (sel lo (2 ^ m - 1) n).Perm ((List.range n).map (jt lo))
  | 0, _ => .refl _
  | n + 1, h => by
    unfold sel
    rw [Nat.testBit_two_pow_sub_one, if_pos (by simp; omega), List.range_succ, List.map_append]
    exact ((sel_full m n (by omega)).cons _).trans (List.perm_append_comm (l₁ := [jt lo n]))
theorem jt_range {lo : List Int} : (List.range lo.length).map (jt lo) = lo.map Int.toNat := by
  apply List.ext_getElem
  · simp
  · intro i h1 h2
    have hi : i < lo.length := by simpa using h1
    simp [jt, List.getD_eq_getElem?_getD, hi]
theorem oddN_count (l : List Sm) : ∀ n j, ((oddN allS l n).map Int.toNat).count j = if j < n ∧ deg allS l j % 2 = 1 then 1 else 0
  | 0, j => by simp [oddN]
  | n + 1, j => by
    have ih := oddN_count l n j
    unfold oddN
    split
    · rename_i hd
      rw [List.map_append, List.count_append, ih]
      simp only [List.map_cons, List.map_nil, Int.toNat_natCast, List.count_cons, List.count_nil, beq_iff_eq]
      by_cases e : n = j
      · subst e
        rw [if_neg (by omega), if_pos rfl, if_pos ⟨by omega, hd⟩]
      · rw [if_neg e]
        by_cases h2 : j < n ∧ deg allS l j % 2 = 1
        · rw [if_pos h2, if_pos ⟨by omega, h2.2⟩]
        · rw [if_neg h2, if_neg (fun e2 => h2 ⟨by omega, e2.2⟩)]
    · rename_i hd
      rw [ih]
      by_cases h2 : j < n ∧ deg allS l j % 2 = 1
      · rw [if_pos h2, if_pos ⟨by omega, h2.2⟩]
      · rw [if_neg h2, if_neg (fun e2 => ?_)]
        by_cases e : j = n
        · subst e; exact hd e2.2
        · exact h2 ⟨by omega, e2.2⟩
/-- the pairing costs at most what all seams cost -/
theorem dp_le {n f : Nat} {l : List Sm} (hok : GOk n l) (hc : Conn l f) : 0 ≤ (dpv (fun i j => (tbl n l).L (jt (oddN allS l 16) i) (jt (oddN allS l 16) j)) 17592186044416 (oddN allS l 16).length (2 ^ (oddN allS l 16).length - 1)).1 ∧ (dpv (fun i j => (tbl n l).L (jt (oddN allS l 16) i) (jt (oddN allS l 16) j)) 17592186044416 (oddN allS l 16).length (2 ^ (oddN allS l 16).length - 1)).1 ≤ sumN l l.length := by
  have h := hok.2.2.2
  have hn : n ≤ 16 := by have := hok.2.1; omega
  have hs : ∀ a b, a < n → b < n → (tbl n l).L a b = (tbl n l).L b a := fun a b ha hb => tbl_sym h ha hb
  have h0 : ∀ a b, 0 ≤ (tbl n l).L a b := fun a b => ((tbl_snd h).rng a b).1
  have ht : ∀ a b c, a < n → b < n → c < n → (tbl n l).L a c ≤ (tbl n l).L a b + (tbl n l).L b c := fun a b c ha hb hc => tbl_tri h b hb a c ha hc
  obtain ⟨c, hct, hpc⟩ := endsL_pc h (l := l) (fun s hs => hs)
  obtain ⟨r, c', h1, h2, h3, h4, h5⟩ := Pc.nodup hs h0 ht _ _ _ (Nat.le_refl _) hpc (endsL_lt h)
  have hlen := oddN_len allS l 16
  have hjr : ∀ i, i < (oddN allS l 16).length → jt (oddN allS l 16) i < n := fun i hi => by
    have := lo_rng h _ (List.getElem_mem hi)
    unfold jt
    rw [List.getD_eq_getElem?_getD, List.getElem?_eq_getElem hi]
    show ((oddN allS l 16)[i]).toNat < n
    omega
  have hd : ∀ i j, i < (oddN allS l 16).length → j < (oddN allS l 16).length → 0 ≤ (tbl n l).L (jt (oddN allS l 16) i) (jt (oddN allS l 16) j) ∧ (tbl n l).L (jt (oddN allS l 16) i) (jt (oddN allS l 16) j) ≤ 655360000 := fun i j hi hj => ⟨h0 _ _, tbl_bq h hn (lo_con h hn hc i j hi hj)⟩
  have hlt : 2 ^ (oddN allS l 16).length - 1 < 2 ^ (oddN allS l 16).length := by have := Nat.two_pow_pos (oddN allS l 16).length; omega
  have hcb : cntB (2 ^ (oddN allS l 16).length - 1) (oddN allS l 16).length % 2 = 0 := by rw [cntB_full _ _ (Nat.le_refl _)]; exact lo_even h hn
  have hperm : r.Perm (sel (oddN allS l 16) (2 ^ (oddN allS l 16).length - 1) (oddN allS l 16).length) := by
    refine List.Perm.trans ?_ (sel_full _ _ (Nat.le_refl _)).symm
    rw [jt_range]
    refine List.perm_iff_count.2 fun z => ?_
    rw [oddN_count]
    have e1 := h4 z
    have e2 := endsL_count h z
    have e3 : r.count z ≤ 1 := List.nodup_iff_count.1 h3 z
    by_cases hz : deg allS l z % 2 = 1
    · have hz16 : z < 16 := by
        refine Nat.lt_of_not_le fun hz16 => ?_
        rw [deg_out h (by omega)] at hz
        omega
      rw [if_pos ⟨hz16, hz⟩]
      omega
    · rw [if_neg (fun e => hz e.2)]
      omega
  have hb := dpv_le (L := (tbl n l).L) (lo := oddN allS l 16) (n := n) (D := 655360000) (v := 17592186044416) hd (by omega) (by decide) hs h0 hjr _ _ c' (Nat.le_refl _) hlt hcb (.perm h2 hperm)
  obtain ⟨hge, -, -⟩ := dpv_even (d := fun i j => (tbl n l).L (jt (oddN allS l 16) i) (jt (oddN allS l 16) j)) (D := 655360000) (v := 17592186044416) hd (by omega) (by decide) _ _ (Nat.le_refl _) hlt hcb
  refine ⟨hge, ?_⟩
  rw [sumN_tot l l.length (Nat.le_refl _), List.take_length]
  omega
/-- it is nothing only where no joint is odd -/
theorem dp_zero {n f : Nat} {l : List Sm} (hok : GOk n l) (hc : Conn l f) (hz : (dpv (fun i j => (tbl n l).L (jt (oddN allS l 16) i) (jt (oddN allS l 16) j)) 17592186044416 (oddN allS l 16).length (2 ^ (oddN allS l 16).length - 1)).1 = 0) : oddN allS l 16 = [] := by
  have h := hok.2.2.2
  have hn : n ≤ 16 := by have := hok.2.1; omega
  refine Classical.byContradiction fun hne => ?_
  have hpos : 0 < (oddN allS l 16).length := List.length_pos_iff.2 hne
  have h0 : ∀ a b, 0 ≤ (tbl n l).L a b := fun a b => ((tbl_snd h).rng a b).1
  have hlen := oddN_len allS l 16
  have hd : ∀ i j, i < (oddN allS l 16).length → j < (oddN allS l 16).length → 0 ≤ (tbl n l).L (jt (oddN allS l 16) i) (jt (oddN allS l 16) j) ∧ (tbl n l).L (jt (oddN allS l 16) i) (jt (oddN allS l 16) j) ≤ 655360000 := fun i j hi hj => ⟨h0 _ _, tbl_bq h hn (lo_con h hn hc i j hi hj)⟩
  have hlt : 2 ^ (oddN allS l 16).length - 1 < 2 ^ (oddN allS l 16).length := by have := Nat.two_pow_pos (oddN allS l 16).length; omega
  have hs0 : 0 < 2 ^ (oddN allS l 16).length - 1 := by
    have : (2 : Nat) ^ 1 ≤ 2 ^ (oddN allS l 16).length := Nat.pow_le_pow_right (by omega) hpos
    omega
  have hcb : cntB (2 ^ (oddN allS l 16).length - 1) (oddN allS l 16).length % 2 = 0 := by rw [cntB_full _ _ (Nat.le_refl _)]; exact lo_even h hn
  obtain ⟨-, -, hex⟩ := dpv_even (d := fun i j => (tbl n l).L (jt (oddN allS l 16) i) (jt (oddN allS l 16) j)) (D := 655360000) (v := 17592186044416) hd (by omega) (by decide) _ _ (Nat.le_refl _) hlt hcb
  obtain ⟨j, j1, j2, j3, -, j5, -⟩ := hex hs0
  obtain ⟨hb, hlk, hl⟩ := low_ex hlt hs0
  obtain ⟨f1, f2, f3⟩ := wo_facts hb j2 j3
  have hc1 := cntB_off hb (oddN allS l 16).length
  rw [if_pos hlk] at hc1
  have hc2 := cntB_off f1 (oddN allS l 16).length
  rw [if_pos j1] at hc2
  obtain ⟨hr, -, -⟩ := dpv_even (d := fun i j => (tbl n l).L (jt (oddN allS l 16) i) (jt (oddN allS l 16) j)) (D := 655360000) (v := 17592186044416) hd (by omega) (by decide) _ (wo1 (wo1 (2 ^ (oddN allS l 16).length - 1) (low (oddN allS l 16).length (2 ^ (oddN allS l 16).length - 1))) j) (Nat.le_refl _) (by omega) (by omega)
  rw [hz] at j5
  have hjt : ∀ i (hi : i < (oddN allS l 16).length), jt (oddN allS l 16) i = ((oddN allS l 16)[i]).toNat := fun i hi => by
    unfold jt; rw [List.getD_eq_getElem?_getD, List.getElem?_eq_getElem hi]; rfl
  have hnd : ((oddN allS l 16).map Int.toNat).Nodup := List.nodup_iff_count.2 fun z => by rw [oddN_count]; split <;> omega
  have hne2 : jt (oddN allS l 16) (low (oddN allS l 16).length (2 ^ (oddN allS l 16).length - 1)) ≠ jt (oddN allS l 16) j := by
    rw [hjt _ hlk, hjt _ j1]
    intro e
    have e2 : ((oddN allS l 16).map Int.toNat)[low (oddN allS l 16).length (2 ^ (oddN allS l 16).length - 1)]'(by rw [List.length_map]; exact hlk) = ((oddN allS l 16).map Int.toNat)[j]'(by rw [List.length_map]; exact j1) := by
      rw [List.getElem_map, List.getElem_map]; exact e
    have e3 := (List.getElem_inj hnd).1 e2
    omega
  have hx := lo_rng h _ (List.getElem_mem hlk)
  have hy := lo_rng h _ (List.getElem_mem j1)
  obtain ⟨q, hq, x, -, -, hxn, hL, hge⟩ := tbl_step h (a := jt (oddN allS l 16) (low (oddN allS l 16).length (2 ^ (oddN allS l 16).length - 1))) (b := jt (oddN allS l 16) j) (by rw [hjt _ hlk]; omega) (by rw [hjt _ j1]; omega) hne2 (lo_con h hn hc _ _ hlk j1)
  have := h0 x (jt (oddN allS l 16) j)
  omega
end Go.Proofs.Ytbhjhajnhpohlaa
