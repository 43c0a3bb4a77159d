/- Plain law of Runs: the lines of a class, their degrees, that they hang together; the runs a tour of them is cut into. No conditions. -/
import Derived.Test.YtbhjhajnhpohlaaParP
import Derived.Test.YtbhjhajnhpohlaaOe
import Derived.Test.YtbhjhajnhpohlaaRc
namespace Go.Proofs.Ytbhjhajnhpohlaa

/-- the class of a joint in the seams of a thread -/
def kls (l : List Sm) (t : Int) : Nat → Int := cls (chB l t (-1)) l l.length
/-- the seams of a thread in a class -/
def chJ (l : List Sm) (t j : Int) (s : Sm) : Bool := decide (s.t = t) && decide (kls l t s.a.toNat = j)
theorem chJ_iff {l : List Sm} {t j : Int} {s : Sm} : chJ l t j s = true ↔ s.t = t ∧ kls l t s.a.toNat = j := by
  unfold chJ; rw [Bool.and_eq_true, decide_eq_true_iff, decide_eq_true_iff]
/-- the lines of the chosen among the first k seams -/
def lnsC (ch : Sm → Bool) (l : List Sm) : Nat → List Ln
  | 0 => []
  | k + 1 => match l[k]? with
    | none => lnsC ch l k
    | some s => if ch s then lnsC ch l k ++ [⟨k, s.a, s.b⟩] else lnsC ch l k
theorem lnsC_yes {ch : Sm → Bool} {l : List Sm} {k : Nat} (h : k < l.length) {s : Sm} (hs : s = l[k]) (hc : ch s = true) : lnsC ch l (k + 1) = lnsC ch l k ++ [⟨k, s.a, s.b⟩] := by
  show (match l[k]? with | none => _ | some s => _) = _
  rw [List.getElem?_eq_getElem h, ← hs]
  dsimp only
  rw [if_pos hc]
theorem lnsC_no {ch : Sm → Bool} {l : List Sm} {k : Nat} (h : k < l.length) {s : Sm} (hs : s = l[k]) (hc : ch s = false) : lnsC ch l (k + 1) = lnsC ch l k := by
  show (match l[k]? with | none => _ | some s => _) = _
  rw [List.getElem?_eq_getElem h, ← hs]
  dsimp only
  rw [if_neg (by rw [hc]; decide)]
theorem lnsC_len (ch : Sm → Bool) (l : List Sm) : ∀ k, (lnsC ch l k).length ≤ k
  | 0 => by simp [lnsC]
  | k + 1 => by
    have := lnsC_len ch l k
    unfold lnsC
    split
    · omega
    · split
      · simp; omega
      · omega
theorem lnsC_mem {ch : Sm → Bool} {l : List Sm} {s : Ln} : ∀ k, k ≤ l.length → (s ∈ lnsC ch l k ↔ ∃ q, ∃ h : q < l.length, q < k ∧ ch l[q] = true ∧ s = ⟨q, l[q].a, l[q].b⟩)
  | 0, _ => by
    constructor
    · intro h; simp [lnsC] at h
    · rintro ⟨q, _, h, _⟩; omega
  | k + 1, hk => by
    have hlt : k < l.length := by omega
    have ih := lnsC_mem (l := l) (ch := ch) (s := s) k (by omega)
    cases hc : ch l[k]
    · rw [lnsC_no hlt rfl hc, ih]
      constructor
      · rintro ⟨q, h, h1, h2, h3⟩; exact ⟨q, h, by omega, h2, h3⟩
      · rintro ⟨q, h, h1, h2, h3⟩
        by_cases e : q = k
        · subst e; rw [hc] at h2; cases h2
        · exact ⟨q, h, by omega, h2, h3⟩
    · rw [lnsC_yes hlt rfl hc, List.mem_append, ih]
      constructor
      · rintro (⟨q, h, h1, h2, h3⟩ | h)
        · exact ⟨q, h, by omega, h2, h3⟩
        · exact ⟨k, hlt, by omega, hc, by simpa using h⟩
      · rintro ⟨q, h, h1, h2, h3⟩
        by_cases e : q = k
        · subst e; right; rw [h3]; simp
        · exact .inl ⟨q, h, by omega, h2, h3⟩
theorem lnsC_keys {ch : Sm → Bool} {l : List Sm} : ∀ k, k ≤ l.length → ((lnsC ch l k).map Ln.k).Nodup
  | 0, _ => by simp [lnsC]
  | k + 1, hk => by
    have hlt : k < l.length := by omega
    have ih := lnsC_keys (l := l) (ch := ch) k (by omega)
    cases hc : ch l[k]
    · rw [lnsC_no hlt rfl hc]; exact ih
    · rw [lnsC_yes hlt rfl hc, List.map_append]
      refine List.nodup_append.2 ⟨ih, by simp, fun a ha b hb e => ?_⟩
      have hb' : b = (k : Int) := by simpa using hb
      obtain ⟨s, hs, rfl⟩ := List.mem_map.1 ha
      obtain ⟨q, h, h1, _, rfl⟩ := (lnsC_mem k (by omega)).1 hs
      have e' : (q : Int) = b := e
      omega
theorem lnDeg_app (X Y : List Ln) (v : Int) : lnDeg (X ++ Y) v = lnDeg X v + lnDeg Y v := by
  unfold lnDeg; rw [List.map_append, List.sum_append_nat]
theorem lnDeg_C (ch : Sm → Bool) (l : List Sm) : ∀ k, k ≤ l.length → ∀ j : Nat, (lnDeg (lnsC ch l k) (j : Int) : Int) = deg ch (l.take k) j
  | 0, _, j => by simp [lnsC, lnDeg, deg]
  | k + 1, hk, j => by
    have hlt : k < l.length := by omega
    have ih := lnDeg_C ch l k (by omega) j
    rw [deg_take ch hlt]
    cases hc : ch l[k]
    · rw [lnsC_no hlt rfl hc, ih]; simp
    · rw [lnsC_yes hlt rfl hc, lnDeg_app, Int.natCast_add, ih]
      congr 1
      unfold lnDeg lnInc inc
      simp only [List.map_cons, List.map_nil, List.sum_cons, List.sum_nil]
      push_cast
      split <;> split <;> rfl
theorem lnDeg_far {X : List Ln} {v : Int} (h : ∀ s ∈ X, s.a ≠ v ∧ s.b ≠ v) : lnDeg X v = 0 := by
  induction X with
  | nil => rfl
  | cons s X ih =>
    have e : lnDeg (s :: X) v = lnInc s v + lnDeg X v := by simp [lnDeg]
    have h0 := h s (by simp)
    rw [e, ih (fun s hs => h s (by simp [hs]))]
    unfold lnInc
    rw [if_neg h0.1, if_neg h0.2]
theorem deg_filter (ch : Sm → Bool) (j : Nat) : ∀ l : List Sm, deg ch l j = deg allS (l.filter ch) j
  | [] => rfl
  | s :: l => by
    have ih := deg_filter ch j l
    cases hc : ch s
    · rw [List.filter_cons_of_neg (by simp [hc])]
      show (if ch s then inc s j else 0) + deg ch l j = _
      rw [hc, ih]; simp
    · rw [List.filter_cons_of_pos hc]
      show (if ch s then inc s j else 0) + deg ch l j = (if allS s then inc s j else 0) + deg allS _ j
      rw [hc, ih]; rfl
theorem oddN_filter (ch : Sm → Bool) (l : List Sm) : ∀ n, oddN ch l n = oddN allS (l.filter ch) n
  | 0 => rfl
  | n + 1 => by
    unfold oddN
    rw [oddN_filter ch l n, deg_filter ch n l]
theorem oddN_even {n : Nat} {l : List Sm} (ch : Sm → Bool) (h : ∀ s ∈ l, SmOk n s) (hn : n ≤ 16) : (oddN ch l 16).length % 2 = 0 := by
  rw [oddN_filter]
  exact lo_even (fun s hs => h s (List.mem_filter.1 hs).1) hn
theorem oddN_nodup (ch : Sm → Bool) (l : List Sm) : ∀ n, (oddN ch l n).Nodup
  | 0 => by simp [oddN]
  | n + 1 => by
    have ih := oddN_nodup ch l n
    unfold oddN
    split
    · refine List.nodup_append.2 ⟨ih, by simp, fun a ha b hb e => ?_⟩
      obtain ⟨j, rfl, hj, _⟩ := oddN_mem n a ha
      have hb' : b = (n : Int) := by simpa using hb
      omega
    · exact ih
/-- jumps between the pairs -/
def jps : List Int → List Ln
  | a :: b :: r => ⟨-1, a, b⟩ :: jps r
  | _ => []
theorem jps_len : ∀ e : List Int, (jps e).length = e.length / 2
  | [] => rfl
  | [_] => by simp [jps]
  | a :: b :: r => by
    show (jps r).length + 1 = (r.length + 1 + 1) / 2
    rw [jps_len r]; omega
theorem jps_get : ∀ (e : List Int) (i : Nat) (h : i < (jps e).length), ∃ h1 : 2 * i + 1 < e.length, (jps e)[i] = ⟨-1, e[2 * i], e[2 * i + 1]⟩
  | [], i, h => absurd h (by simp [jps])
  | [_], i, h => absurd h (by simp [jps])
  | a :: b :: r, 0, _ => ⟨by simp, rfl⟩
  | a :: b :: r, i + 1, h => by
    have h' : i < (jps r).length := by simpa [jps] using h
    obtain ⟨h1, e⟩ := jps_get r i h'
    refine ⟨by simp; omega, ?_⟩
    show (jps r)[i] = _
    rw [e]
    rfl
theorem jps_snoc : ∀ (e : List Int) (a b : Int), e.length % 2 = 0 → jps (e ++ [a, b]) = jps e ++ [⟨-1, a, b⟩]
  | [], _, _, _ => rfl
  | [_], _, _, h => by simp at h
  | x :: y :: r, a, b, h => by
    show (⟨-1, x, y⟩ : Ln) :: jps (r ++ [a, b]) = ⟨-1, x, y⟩ :: (jps r ++ _)
    rw [jps_snoc r a b (by simp at h; omega)]
theorem lnDeg_jps : ∀ (e : List Int) (v : Int), e.length % 2 = 0 → lnDeg (jps e) v = occ e v
  | [], _, _ => rfl
  | [_], _, h => by simp at h
  | a :: b :: r, v, h => by
    have ih := lnDeg_jps r v (by simp at h; omega)
    have e1 : lnDeg (jps (a :: b :: r)) v = lnInc ⟨-1, a, b⟩ v + lnDeg (jps r) v := by simp [lnDeg, jps]
    have e2 : occ (a :: b :: r) v = ((if a = v then 1 else 0) + (if b = v then 1 else 0)) + occ r v := by simp [occ]; omega
    rw [e1, e2, ih]
    rfl
/-- the lines of a class: its seams, and a jump for each pair of its odd joints -/
def lnsY (l : List Sm) (t j : Int) : List Ln := lnsC (chJ l t j) l l.length ++ jps (oddN (chJ l t j) l 16)
theorem lnsY_even {n : Nat} {l : List Sm} {t j : Int} (h : ∀ s ∈ l, SmOk n s) (hn : n ≤ 16) (v : Int) : lnDeg (lnsY l t j) v % 2 = 0 := by
  unfold lnsY
  rw [lnDeg_app, lnDeg_jps _ _ (oddN_even _ h hn), oddN_filter, occ_odd]
  by_cases hv : 0 ≤ v ∧ v < 16
  · obtain ⟨i, rfl⟩ := Int.eq_ofNat_of_zero_le hv.1
    have h1 := lnDeg_C (chJ l t j) l l.length (Nat.le_refl _) i
    rw [List.take_length, deg_filter] at h1
    rw [Int.toNat_natCast]
    split
    · rename_i hd; have := hd.2.2; omega
    · rename_i hd
      have : ¬ deg allS (l.filter (chJ l t j)) i % 2 = 1 := fun e => hd ⟨hv.1, by omega, e⟩
      omega
  · rw [if_neg (by omega), lnDeg_far]
    intro s hs
    obtain ⟨q, hq, _, _, rfl⟩ := (lnsC_mem l.length (Nat.le_refl _)).1 hs
    have := h _ (List.getElem_mem hq)
    unfold SmOk at this
    exact ⟨show l[q].a ≠ v by omega, show l[q].b ≠ v by omega⟩
section
variable {n : Nat} {l : List Sm} {t j : Int}
theorem kls_inv (t : Int) (h : ∀ s ∈ l, SmOk n s) : ClI (chB l t (-1)) l n l.length (kls l t) := cls_inv _ l n h l.length (Nat.le_refl _)
theorem chB_thr (ht : 0 ≤ t) {q : Nat} (hq : q < l.length) : chB l t (-1) q = true ↔ l[q].t = t := by
  unfold chB chR
  rw [List.getElem?_eq_getElem hq, Bool.and_eq_true, decide_eq_true_iff, decide_eq_true_iff]
  constructor
  · rintro ⟨_, h | h⟩
    · omega
    · exact h
  · intro h; exact ⟨by omega, .inr h⟩
theorem kls_ends (h : ∀ s ∈ l, SmOk n s) (ht : 0 ≤ t) {q : Nat} (hq : q < l.length) (e : l[q].t = t) : kls l t l[q].a.toNat = kls l t l[q].b.toNat :=
  (kls_inv t h).one q hq hq ((chB_thr ht hq).2 e)
theorem kls_cn (h : ∀ s ∈ l, SmOk n s) {a b : Nat} (ha : a < n) (hb : b < n) (e : kls l t a = kls l t b) : Cn (chB l t (-1)) l l.length a b := by
  have hc := kls_inv t h
  have h1 := hc.con a ha
  have h2 := hc.con b hb
  rw [e] at h1
  exact h1.trans h2.symm
/-- an odd joint of a class is in it -/
theorem odd_kls (h : ∀ s ∈ l, SmOk n s) (ht : 0 ≤ t) {x : Int} {m : Nat} (hx : x ∈ oddN (chJ l t j) l m) : 0 ≤ x ∧ x < n ∧ kls l t x.toNat = j := by
  obtain ⟨i, rfl, _, hd⟩ := oddN_mem m x hx
  rw [deg_filter] at hd
  obtain ⟨s, hs, he⟩ := deg_pos (ch := allS) (l := l.filter (chJ l t j)) (j := i) (by omega)
  obtain ⟨hs1, hs2⟩ := List.mem_filter.1 hs
  obtain ⟨e1, e2⟩ := chJ_iff.1 hs2
  obtain ⟨q, hq, rfl⟩ := List.getElem_of_mem hs1
  have hso := h _ hs1
  unfold SmOk at hso
  have hk := kls_ends h ht hq e1
  rw [Int.toNat_natCast]
  rcases he with he | he
  · refine ⟨by omega, by omega, ?_⟩
    rw [he] at e2; exact e2
  · refine ⟨by omega, by omega, ?_⟩
    rw [e2, he] at hk; exact hk.symm
theorem lnsY_len (hl : l.length ≤ 64) : (lnsY l t j).length ≤ 72 := by
  unfold lnsY
  rw [List.length_append, jps_len]
  have := lnsC_len (chJ l t j) l l.length
  have := oddN_len (chJ l t j) l 16
  omega
theorem jps_mem {e : List Int} {s : Ln} (h : s ∈ jps e) : s.k = -1 ∧ s.a ∈ e ∧ s.b ∈ e := by
  obtain ⟨i, hi, rfl⟩ := List.getElem_of_mem h
  obtain ⟨h1, e1⟩ := jps_get e i hi
  rw [e1]
  exact ⟨rfl, List.getElem_mem _, List.getElem_mem _⟩
theorem lnsY_rng (h : ∀ s ∈ l, SmOk n s) (ht : 0 ≤ t) {s : Ln} (hs : s ∈ lnsY l t j) : (0 ≤ s.a ∧ s.a < n ∧ kls l t s.a.toNat = j) ∧ (0 ≤ s.b ∧ s.b < n ∧ kls l t s.b.toNat = j) := by
  rcases List.mem_append.1 hs with hs | hs
  · obtain ⟨q, hq, _, hc, rfl⟩ := (lnsC_mem l.length (Nat.le_refl _)).1 hs
    obtain ⟨e1, e2⟩ := chJ_iff.1 hc
    have hso := h _ (List.getElem_mem hq)
    unfold SmOk at hso
    exact ⟨⟨hso.1, hso.2.1, e2⟩, hso.2.2.1, hso.2.2.2.1, (kls_ends h ht hq e1).symm.trans e2⟩
  · obtain ⟨_, h1, h2⟩ := jps_mem hs
    exact ⟨odd_kls h ht h1, odd_kls h ht h2⟩
theorem lnsY_hangs (h : ∀ s ∈ l, SmOk n s) (ht : 0 ≤ t) {f : Nat} (hf : f < n) (hj : kls l t f = j) : Hangs (lnsY l t j) f := by
  intro S hS hcl k hk
  have hline : ∀ q (hq : q < l.length), l[q].t = t → kls l t l[q].a.toNat = j → (S l[q].a ↔ S l[q].b) := by
    intro q hq e1 e2
    have hm : (⟨q, l[q].a, l[q].b⟩ : Ln) ∈ lnsY l t j := List.mem_append_left _ ((lnsC_mem l.length (Nat.le_refl _)).2 ⟨q, hq, hq, chJ_iff.2 ⟨e1, e2⟩, rfl⟩)
    obtain ⟨p, hp, e⟩ := List.getElem_of_mem hm
    have := hcl p hp
    rw [lnAt_get hp, e] at this
    exact this
  have hI := kls_inv t h
  have hcn : ∀ {x y : Nat}, Cn (chB l t (-1)) l l.length x y → kls l t x = j → S (x : Int) → S (y : Int) := by
    intro x y hxy
    induction hxy with
    | refl => exact fun _ h => h
    | fwd q hq _ hc hpath ih =>
      intro hx hs
      have hso := h _ (List.getElem_mem hq)
      unfold SmOk at hso
      have h2 := ih hx hs
      rw [Int.toNat_of_nonneg hso.1] at h2
      rw [Int.toNat_of_nonneg hso.2.2.1]
      exact (hline q hq ((chB_thr ht hq).1 hc) ((hI.cn hpath).symm.trans hx)).1 h2
    | bwd q hq _ hc hpath ih =>
      intro hx hs
      have hso := h _ (List.getElem_mem hq)
      unfold SmOk at hso
      have h2 := ih hx hs
      rw [Int.toNat_of_nonneg hso.2.2.1] at h2
      rw [Int.toNat_of_nonneg hso.1]
      have e := (chB_thr ht hq).1 hc
      exact (hline q hq e ((kls_ends h ht hq e).trans ((hI.cn hpath).symm.trans hx))).2 h2
  have hm := lnAt_mem hk
  obtain ⟨⟨r1, r2, r3⟩, _⟩ := lnsY_rng h ht hm
  have := hcn (kls_cn (t := t) h hf (b := (lnAt (lnsY l t j) k).a.toNat) (by omega) (hj.trans r3.symm)) hj hS
  rw [Int.toNat_of_nonneg r1] at this
  exact this
end
end Go.Proofs.Ytbhjhajnhpohlaa
