/- Plain law of Runs: the lines of a class, their degrees, that they hang together; the runs that a tour of them is cut into; when runs are a sewing; the least number of runs. No conditions. -/
import Derived.Test.YtbhjhajnhpohlaaParP
import Derived.Test.YtbhjhajnhpohlaaOe
import Derived.Test.YtbhjhajnhpohlaaRc
namespace Go.Proofs.Ytbhjhajnhpohlaa

/-- the class of a joint in the seams of a thread -/
def kls (l : List Sm) (t : Int) : Nat → Int := cls (chB l t (-1)) l l.length
/-- the seams of a thread in a class -/
def chJ (l : List Sm) (t j : Int) (s : Sm) : Bool := decide (s.t = t) && decide (kls l t s.a.toNat = j)
theorem chJ_iff {l : List Sm} {t j : Int} {s : Sm} : chJ l t j s = true ↔ s.t = t ∧ kls l t s.a.toNat = j := by
  unfold chJ; rw [Bool.and_eq_true, decide_eq_true_iff, decide_eq_true_iff]
/-- the lines of the chosen among the first k seams -/
def lnsC (ch : Sm → Bool) (l : List Sm) : Nat → List Ln
  | 0 => []
  | k + 1 => match l[k]? with
    | none => lnsC ch l k
    | some s => if ch s then lnsC ch l k ++ [⟨k, s.a, s.b⟩] else lnsC ch l k
theorem lnsC_yes {ch : Sm → Bool} {l : List Sm} {k : Nat} (h : k < l.length) {s : Sm} (hs : s = l[k]) (hc : ch s = true) : lnsC ch l (k + 1) = lnsC ch l k ++ [⟨k, s.a, s.b⟩] := by
  show (match l[k]? with | none => _ | some s => _) = _
  rw [List.getElem?_eq_getElem h, ← hs]
  dsimp only
  rw [if_pos hc]
theorem lnsC_no {ch : Sm → Bool} {l : List Sm} {k : Nat} (h : k < l.length) {s : Sm} (hs : s = l[k]) (hc : ch s = false) : lnsC ch l (k + 1) = lnsC ch l k := by
  show (match l[k]? with | none => _ | some s => _) = _
  rw [List.getElem?_eq_getElem h, ← hs]
  dsimp only
  rw [if_neg (by rw [hc]; decide)]
theorem lnsC_len (ch : Sm → Bool) (l : List Sm) : ∀ k, (lnsC ch l k).length ≤ k
  | 0 => by simp [lnsC]
  | k + 1 => by
    have := lnsC_len ch l k
    unfold lnsC
    split
    · omega
    · split
      · simp; omega
      · omega
theorem lnsC_mem {ch : Sm → Bool} {l : List Sm} {s : Ln} : ∀ k, k ≤ l.length → (s ∈ lnsC ch l k ↔ ∃ q, ∃ h : q < l.length, q < k ∧ ch l[q] = true ∧ s = ⟨q, l[q].a, l[q].b⟩)
  | 0, _ => by
    constructor
    · intro h; simp [lnsC] at h
    · rintro ⟨q, _, h, _⟩; omega
  | k + 1, hk => by
    have hlt : k < l.length := by omega
    have ih := lnsC_mem (l := l) (ch := ch) (s := s) k (by omega)
    cases hc : ch l[k]
    · rw [lnsC_no hlt rfl hc, ih]
      constructor
      · rintro ⟨q, h, h1, h2, h3⟩; exact ⟨q, h, by omega, h2, h3⟩
      · rintro ⟨q, h, h1, h2, h3⟩
        by_cases e : q = k
        · subst e; rw [hc] at h2; cases h2
        · exact ⟨q, h, by omega, h2, h3⟩
    · rw [lnsC_yes hlt rfl hc, List.mem_append, ih]
      constructor
      · rintro (⟨q, h, h1, h2, h3⟩ | h)
        · exact ⟨q, h, by omega, h2, h3⟩
        · exact ⟨k, hlt, by omega, hc, by simpa using h⟩
      · rintro ⟨q, h, h1, h2, h3⟩
        by_cases e : q = k
        · subst e; right; rw [h3]; simp
        · exact .inl ⟨q, h, by omega, h2, h3⟩
theorem lnsC_keys {ch : Sm → Bool} {l : List Sm} : ∀ k, k ≤ l.length → ((lnsC ch l k).map Ln.k).Nodup
  | 0, _ => by simp [lnsC]
  | k + 1, hk => by
    have hlt : k < l.length := by omega
    have ih := lnsC_keys (l := l) (ch := ch) k (by omega)
    cases hc : ch l[k]
    · rw [lnsC_no hlt rfl hc]; exact ih
    · rw [lnsC_yes hlt rfl hc, List.map_append]
      refine List.nodup_append.2 ⟨ih, by simp, fun a ha b hb e => ?_⟩
      have hb' : b = (k : Int) := by simpa using hb
      obtain ⟨s, hs, rfl⟩ := List.mem_map.1 ha
      obtain ⟨q, h, h1, _, rfl⟩ := (lnsC_mem k (by omega)).1 hs
      have e' : (q : Int) = b := e
      omega
theorem lnDeg_app (X Y : List Ln) (v : Int) : lnDeg (X ++ Y) v = lnDeg X v + lnDeg Y v := by
  unfold lnDeg; rw [List.map_append, List.sum_append_nat]
theorem lnDeg_C (ch : Sm → Bool) (l : List Sm) : ∀ k, k ≤ l.length → ∀ j : Nat, (lnDeg (lnsC ch l k) (j : Int) : Int) = deg ch (l.take k) j
  | 0, _, j => by simp [lnsC, lnDeg, deg]
  | k + 1, hk, j => by
    have hlt : k < l.length := by omega
    have ih := lnDeg_C ch l k (by omega) j
    rw [deg_take ch hlt]
    cases hc : ch l[k]
    · rw [lnsC_no hlt rfl hc, ih]; simp
    · rw [lnsC_yes hlt rfl hc, lnDeg_app, Int.natCast_add, ih]
      congr 1
      unfold lnDeg lnInc inc
      simp only [List.map_cons, List.map_nil, List.sum_cons, List.sum_nil]
      push_cast
      split <;> split <;> rfl
theorem lnDeg_far {X : List Ln} {v : Int} (h : ∀ s ∈ X, s.a ≠ v ∧ s.b ≠ v) : lnDeg X v = 0 := by
  induction X with
  | nil => rfl
  | cons s X ih =>
    have e : lnDeg (s :: X) v = lnInc s v + lnDeg X v := by simp [lnDeg]
    have h0 := h s (by simp)
    rw [e, ih (fun s hs => h s (by simp [hs]))]
    unfold lnInc
    rw [if_neg h0.1, if_neg h0.2]
theorem deg_filter (ch : Sm → Bool) (j : Nat) : ∀ l : List Sm, deg ch l j = deg allS (l.filter ch) j
  | [] => rfl
  | s :: l => by
    have ih := deg_filter ch j l
    cases hc : ch s
    · rw [List.filter_cons_of_neg (by simp [hc])]
      show (if ch s then inc s j else 0) + deg ch l j = _
      rw [hc, ih]; simp
    · rw [List.filter_cons_of_pos hc]
      show (if ch s then inc s j else 0) + deg ch l j = (if allS s then inc s j else 0) + deg allS _ j
      rw [hc, ih]; rfl
theorem oddN_filter (ch : Sm → Bool) (l : List Sm) : ∀ n, oddN ch l n = oddN allS (l.filter ch) n
  | 0 => rfl
  | n + 1 => by
    unfold oddN
    rw [oddN_filter ch l n, deg_filter ch n l]
theorem oddN_even {n : Nat} {l : List Sm} (ch : Sm → Bool) (h : ∀ s ∈ l, SmOk n s) (hn : n ≤ 16) : (oddN ch l 16).length % 2 = 0 := by
  rw [oddN_filter]
  exact lo_even (fun s hs => h s (List.mem_filter.1 hs).1) hn
theorem oddN_nodup (ch : Sm → Bool) (l : List Sm) : ∀ n, (oddN ch l n).Nodup
  | 0 => by simp [oddN]
  | n + 1 => by
    have ih := oddN_nodup ch l n
    unfold oddN
    split
    · refine List.nodup_append.2 ⟨ih, by simp, fun a ha b hb e => ?_⟩
      obtain ⟨j, rfl, hj, _⟩ := oddN_mem n a ha
      have hb' : b = (n : Int) := by simpa using hb
      omega
    · exact ih
/-- jumps between the pairs -/
def jps : List Int → List Ln
  | a :: b :: r => ⟨-1, a, b⟩ :: jps r
  | _ => []
theorem jps_len : ∀ e : List Int, (jps e).length = e.length / 2
  | [] => rfl
  | [_] => by simp [jps]
  | a :: b :: r => by
    show (jps r).length + 1 = (r.length + 1 + 1) / 2
    rw [jps_len r]; omega
theorem jps_get : ∀ (e : List Int) (i : Nat) (h : i < (jps e).length), ∃ h1 : 2 * i + 1 < e.length, (jps e)[i] = ⟨-1, e[2 * i], e[2 * i + 1]⟩
  | [], i, h => absurd h (by simp [jps])
  | [_], i, h => absurd h (by simp [jps])
  | a :: b :: r, 0, _ => ⟨by simp, rfl⟩
  | a :: b :: r, i + 1, h => by
    have h' : i < (jps r).length := by simpa [jps] using h
    obtain ⟨h1, e⟩ := jps_get r i h'
    refine ⟨by simp; omega, ?_⟩
    show (jps r)[i] = _
    rw [e]
    rfl
theorem jps_snoc : ∀ (e : List Int) (a b : Int), e.length % 2 = 0 → jps (e ++ [a, b]) = jps e ++ [⟨-1, a, b⟩]
  | [], _, _, _ => rfl
  | [_], _, _, h => by simp at h
  | x :: y :: r, a, b, h => by
    show (⟨-1, x, y⟩ : Ln) :: jps (r ++ [a, b]) = ⟨-1, x, y⟩ :: (jps r ++ _)
    rw [jps_snoc r a b (by simp at h; omega)]
theorem lnDeg_jps : ∀ (e : List Int) (v : Int), e.length % 2 = 0 → lnDeg (jps e) v = occ e v
  | [], _, _ => rfl
  | [_], _, h => by simp at h
  | a :: b :: r, v, h => by
    have ih := lnDeg_jps r v (by simp at h; omega)
    have e1 : lnDeg (jps (a :: b :: r)) v = lnInc ⟨-1, a, b⟩ v + lnDeg (jps r) v := by simp [lnDeg, jps]
    have e2 : occ (a :: b :: r) v = ((if a = v then 1 else 0) + (if b = v then 1 else 0)) + occ r v := by simp [occ]; omega
    rw [e1, e2, ih]
    rfl
/-- the lines of a class: its seams, and a jump for each pair of its odd joints -/
def lnsY (l : List Sm) (t j : Int) : List Ln := lnsC (chJ l t j) l l.length ++ jps (oddN (chJ l t j) l 16)
theorem lnsY_even {n : Nat} {l : List Sm} {t j : Int} (h : ∀ s ∈ l, SmOk n s) (hn : n ≤ 16) (v : Int) : lnDeg (lnsY l t j) v % 2 = 0 := by
  unfold lnsY
  rw [lnDeg_app, lnDeg_jps _ _ (oddN_even _ h hn), oddN_filter, occ_odd]
  by_cases hv : 0 ≤ v ∧ v < 16
  · obtain ⟨i, rfl⟩ := Int.eq_ofNat_of_zero_le hv.1
    have h1 := lnDeg_C (chJ l t j) l l.length (Nat.le_refl _) i
    rw [List.take_length, deg_filter] at h1
    rw [Int.toNat_natCast]
    split
    · rename_i hd; have := hd.2.2; omega
    · rename_i hd
      have : ¬ deg allS (l.filter (chJ l t j)) i % 2 = 1 := fun e => hd ⟨hv.1, by omega, e⟩
      omega
  · rw [if_neg (by omega), lnDeg_far]
    intro s hs
    obtain ⟨q, hq, _, _, rfl⟩ := (lnsC_mem l.length (Nat.le_refl _)).1 hs
    have := h _ (List.getElem_mem hq)
    unfold SmOk at this
    exact ⟨show l[q].a ≠ v by omega, show l[q].b ≠ v by omega⟩
section
variable {n : Nat} {l : List Sm} {t j : Int}
theorem kls_inv (t : Int) (h : ∀ s ∈ l, SmOk n s) : ClI (chB l t (-1)) l n l.length (kls l t) := cls_inv _ l n h l.length (Nat.le_refl _)
theorem chB_thr (ht : 0 ≤ t) {q : Nat} (hq : q < l.length) : chB l t (-1) q = true ↔ l[q].t = t := by
  unfold chB chR
  rw [List.getElem?_eq_getElem hq, Bool.and_eq_true, decide_eq_true_iff, decide_eq_true_iff]
  constructor
  · rintro ⟨_, h | h⟩
    · omega
    · exact h
  · intro h; exact ⟨by omega, .inr h⟩
theorem kls_ends (h : ∀ s ∈ l, SmOk n s) (ht : 0 ≤ t) {q : Nat} (hq : q < l.length) (e : l[q].t = t) : kls l t l[q].a.toNat = kls l t l[q].b.toNat :=
  (kls_inv t h).one q hq hq ((chB_thr ht hq).2 e)
theorem kls_cn (h : ∀ s ∈ l, SmOk n s) {a b : Nat} (ha : a < n) (hb : b < n) (e : kls l t a = kls l t b) : Cn (chB l t (-1)) l l.length a b := by
  have hc := kls_inv t h
  have h1 := hc.con a ha
  have h2 := hc.con b hb
  rw [e] at h1
  exact h1.trans h2.symm
/-- an odd joint of a class is in it -/
theorem odd_kls (h : ∀ s ∈ l, SmOk n s) (ht : 0 ≤ t) {x : Int} {m : Nat} (hx : x ∈ oddN (chJ l t j) l m) : 0 ≤ x ∧ x < n ∧ kls l t x.toNat = j := by
  obtain ⟨i, rfl, _, hd⟩ := oddN_mem m x hx
  rw [deg_filter] at hd
  obtain ⟨s, hs, he⟩ := deg_pos (ch := allS) (l := l.filter (chJ l t j)) (j := i) (by omega)
  obtain ⟨hs1, hs2⟩ := List.mem_filter.1 hs
  obtain ⟨e1, e2⟩ := chJ_iff.1 hs2
  obtain ⟨q, hq, rfl⟩ := List.getElem_of_mem hs1
  have hso := h _ hs1
  unfold SmOk at hso
  have hk := kls_ends h ht hq e1
  rw [Int.toNat_natCast]
  rcases he with he | he
  · refine ⟨by omega, by omega, ?_⟩
    rw [he] at e2; exact e2
  · refine ⟨by omega, by omega, ?_⟩
    rw [e2, he] at hk; exact hk.symm
theorem lnsY_len (hl : l.length ≤ 64) : (lnsY l t j).length ≤ 72 := by
  unfold lnsY
  rw [List.length_append, jps_len]
  have := lnsC_len (chJ l t j) l l.length
  have := oddN_len (chJ l t j) l 16
  omega
theorem jps_mem {e : List Int} {s : Ln} (h : s ∈ jps e) : s.k = -1 ∧ s.a ∈ e ∧ s.b ∈ e := by
  obtain ⟨i, hi, rfl⟩ := List.getElem_of_mem h
  obtain ⟨h1, e1⟩ := jps_get e i hi
  rw [e1]
  exact ⟨rfl, List.getElem_mem _, List.getElem_mem _⟩
theorem lnsY_rng (h : ∀ s ∈ l, SmOk n s) (ht : 0 ≤ t) {s : Ln} (hs : s ∈ lnsY l t j) : (0 ≤ s.a ∧ s.a < n ∧ kls l t s.a.toNat = j) ∧ (0 ≤ s.b ∧ s.b < n ∧ kls l t s.b.toNat = j) := by
  rcases List.mem_append.1 hs with hs | hs
  · obtain ⟨q, hq, _, hc, rfl⟩ := (lnsC_mem l.length (Nat.le_refl _)).1 hs
    obtain ⟨e1, e2⟩ := chJ_iff.1 hc
    have hso := h _ (List.getElem_mem hq)
    unfold SmOk at hso
    exact ⟨⟨hso.1, hso.2.1, e2⟩, hso.2.2.1, hso.2.2.2.1, (kls_ends h ht hq e1).symm.trans e2⟩
  · obtain ⟨_, h1, h2⟩ := jps_mem hs
    exact ⟨odd_kls h ht h1, odd_kls h ht h2⟩
theorem lnsY_hangs (h : ∀ s ∈ l, SmOk n s) (ht : 0 ≤ t) {f : Nat} (hf : f < n) (hj : kls l t f = j) : Hangs (lnsY l t j) f := by
  intro S hS hcl k hk
  have hline : ∀ q (hq : q < l.length), l[q].t = t → kls l t l[q].a.toNat = j → (S l[q].a ↔ S l[q].b) := by
    intro q hq e1 e2
    have hm : (⟨q, l[q].a, l[q].b⟩ : Ln) ∈ lnsY l t j := List.mem_append_left _ ((lnsC_mem l.length (Nat.le_refl _)).2 ⟨q, hq, hq, chJ_iff.2 ⟨e1, e2⟩, rfl⟩)
    obtain ⟨p, hp, e⟩ := List.getElem_of_mem hm
    have := hcl p hp
    rw [lnAt_get hp, e] at this
    exact this
  have hI := kls_inv t h
  have hcn : ∀ {x y : Nat}, Cn (chB l t (-1)) l l.length x y → kls l t x = j → S (x : Int) → S (y : Int) := by
    intro x y hxy
    induction hxy with
    | refl => exact fun _ h => h
    | fwd q hq _ hc hpath ih =>
      intro hx hs
      have hso := h _ (List.getElem_mem hq)
      unfold SmOk at hso
      have h2 := ih hx hs
      rw [Int.toNat_of_nonneg hso.1] at h2
      rw [Int.toNat_of_nonneg hso.2.2.1]
      exact (hline q hq ((chB_thr ht hq).1 hc) ((hI.cn hpath).symm.trans hx)).1 h2
    | bwd q hq _ hc hpath ih =>
      intro hx hs
      have hso := h _ (List.getElem_mem hq)
      unfold SmOk at hso
      have h2 := ih hx hs
      rw [Int.toNat_of_nonneg hso.2.2.1] at h2
      rw [Int.toNat_of_nonneg hso.1]
      have e := (chB_thr ht hq).1 hc
      exact (hline q hq e ((kls_ends h ht hq e).trans ((hI.cn hpath).symm.trans hx))).2 h2
  have hm := lnAt_mem hk
  obtain ⟨⟨r1, r2, r3⟩, _⟩ := lnsY_rng h ht hm
  have := hcn (kls_cn (t := t) h hf (b := (lnAt (lnsY l t j) k).a.toNat) (by omega) (hj.trans r3.symm)) hj hS
  rw [Int.toNat_of_nonneg r1] at this
  exact this
end

/-- a run of a sewing -/
def GoodRun (l : List Sm) (run : List Mv) : Prop := run ≠ [] ∧ ∀ i, i < run.length → (run.getD i default).inG l ∧ fol l run i ∧ thd l run i
theorem getD_get {run : List Mv} {i : Nat} (h : i < run.length) : run.getD i default = run[i] := by
  rw [List.getD_eq_getElem?_getD, List.getElem?_eq_getElem h]; rfl
theorem drop_keys {run : List Mv} {i : Nat} (h : i < run.length) : (run.drop i).map Mv.k = (run.getD i default).k :: (run.drop (i + 1)).map Mv.k := by
  rw [List.drop_eq_getElem_cons h, List.map_cons, getD_get h]
theorem pRun_good {l : List Sm} {run : List Mv} (hg : GoodRun l run) : ∀ n i D, n + i = run.length → (D ++ (run.drop i).map Mv.k).Nodup → pRun l run n i D = some (D ++ (run.drop i).map Mv.k)
  | 0, i, D, hi, _ => by
    rw [List.drop_of_length_le (by omega)]
    simp [pRun]
  | n + 1, i, D, hi, hd => by
    have hlt : i < run.length := by omega
    obtain ⟨h1, h2, h3⟩ := hg.2 i hlt
    rw [drop_keys hlt] at hd ⊢
    have e : D ++ (run.getD i default).k :: (run.drop (i + 1)).map Mv.k = D ++ [(run.getD i default).k] ++ (run.drop (i + 1)).map Mv.k := by simp
    rw [e] at hd ⊢
    have hnot : (run.getD i default).k ∉ D := by
      intro hm
      have := (List.nodup_append.1 (List.nodup_append.1 hd).1).2.2 _ hm _ (List.mem_singleton.2 rfl)
      exact this rfl
    show (if (run.getD i default).inG l ∧ (run.getD i default).k ∉ D ∧ (fol l run i ∧ thd l run i) then pRun l run n (i + 1) (D ++ [(run.getD i default).k]) else none) = _
    rw [if_pos ⟨h1, hnot, h2, h3⟩]
    exact pRun_good hg n (i + 1) _ (by omega) hd
theorem pAll_good {l : List Sm} : ∀ (ls : List (List Mv)) (D : List Int), (∀ run ∈ ls, GoodRun l run) → (D ++ ls.flatten.map Mv.k).Nodup → pAll l ls D = some (D ++ ls.flatten.map Mv.k)
  | [], D, _, _ => by simp [pAll]
  | run :: ls, D, hg, hd => by
    have h1 := hg run (by simp)
    rw [List.flatten_cons, List.map_append, ← List.append_assoc] at hd ⊢
    have hr := pRun_good h1 run.length 0 D rfl (by rw [List.drop_zero]; exact (List.nodup_append.1 hd).1)
    rw [List.drop_zero] at hr
    unfold pAll
    rw [if_neg h1.1, hr]
    exact pAll_good ls _ (fun r hr => hg r (by simp [hr])) hd
theorem pRun_inv {l : List Sm} {run : List Mv} : ∀ n i D D', n + i = run.length → D.Nodup → pRun l run n i D = some D' →
    (∀ j, i ≤ j → j < run.length → (run.getD j default).inG l ∧ fol l run j ∧ thd l run j) ∧ D' = D ++ (run.drop i).map Mv.k ∧ D'.Nodup
  | 0, i, D, D', hi, hd, h => by
    have e : D = D' := by simpa [pRun] using h
    subst e
    rw [List.drop_of_length_le (by omega)]
    exact ⟨fun j h1 h2 => by omega, by simp, hd⟩
  | n + 1, i, D, D', hi, hd, h => by
    have hlt : i < run.length := by omega
    have h' : (if (run.getD i default).inG l ∧ (run.getD i default).k ∉ D ∧ (fol l run i ∧ thd l run i) then pRun l run n (i + 1) (D ++ [(run.getD i default).k]) else none) = some D' := h
    split at h'
    · rename_i hc
      obtain ⟨c1, c2, c3, c4⟩ := hc
      have hd2 : (D ++ [(run.getD i default).k]).Nodup := List.nodup_append.2 ⟨hd, by simp, fun a ha b hb e => by
        have : b = (run.getD i default).k := by simpa using hb
        rw [e, this] at ha; exact c2 ha⟩
      obtain ⟨i1, i2, i3⟩ := pRun_inv n (i + 1) _ _ (by omega) hd2 h'
      refine ⟨fun j h1 h2 => ?_, by rw [i2, drop_keys hlt]; simp, i3⟩
      by_cases e : j = i
      · subst e; exact ⟨c1, c3, c4⟩
      · exact i1 j (by omega) h2
    · cases h'
theorem pAll_inv {l : List Sm} : ∀ (ls : List (List Mv)) (D D' : List Int), D.Nodup → pAll l ls D = some D' → (∀ run ∈ ls, GoodRun l run) ∧ D' = D ++ ls.flatten.map Mv.k ∧ D'.Nodup
  | [], D, D', hd, h => by
    have e : D = D' := by simpa [pAll] using h
    subst e
    exact ⟨fun r hr => (by cases hr), by simp, hd⟩
  | run :: ls, D, D', hd, h => by
    unfold pAll at h
    split at h
    · cases h
    · rename_i hne
      split at h
      · cases h
      · rename_i D1 h1
        obtain ⟨a1, a2, a3⟩ := pRun_inv run.length 0 D D1 rfl hd h1
        obtain ⟨b1, b2, b3⟩ := pAll_inv ls D1 D' a3 h
        rw [List.drop_zero] at a2
        refine ⟨fun r hr => ?_, by rw [b2, a2]; simp, b3⟩
        rcases List.mem_cons.1 hr with rfl | hr
        · exact ⟨hne, fun i hi => a1 i (Nat.zero_le _) hi⟩
        · exact b1 r hr
/-- a sewing -/
def Sewing (l : List Sm) (ls : List (List Mv)) : Prop := (∀ run ∈ ls, GoodRun l run) ∧ (ls.flatten.map Mv.k).Nodup ∧ ls.flatten.length = l.length
theorem sewB_iff {l : List Sm} {ls : List (List Mv)} : sewB l ls = true ↔ Sewing l ls := by
  constructor
  · intro h
    unfold sewB at h
    split at h
    · cases h
    · rename_i D hD
      obtain ⟨h1, h2, h3⟩ := pAll_inv ls [] D (by simp) hD
      rw [List.nil_append] at h2
      subst h2
      refine ⟨h1, h3, ?_⟩
      have := of_decide_eq_true h
      rwa [List.length_map] at this
  · rintro ⟨h1, h2, h3⟩
    unfold sewB
    rw [pAll_good ls [] h1 (by rw [List.nil_append]; exact h2)]
    exact decide_eq_true (by rw [List.nil_append, List.length_map]; exact h3)

/-- cut at the jumps, hop by hop -/
def splH (J : Hop → Bool) : List Hop → List Hop → List (List Hop)
  | acc, [] => match acc with
    | [] => []
    | _ => [acc]
  | acc, h :: hs => if J h then acc :: splH J [] hs else splH J (acc ++ [h]) hs
def jH (Y : List Ln) (h : Hop) : Bool := decide ((lnAt Y h.k).k < 0)
theorem splH_map (Y : List Ln) : ∀ (hs acc : List Hop), (splH (jH Y) acc hs).map (List.map (Hop.mv Y)) = spl (acc.map (Hop.mv Y)) (hs.map (Hop.mv Y))
  | [], acc => by
    cases acc with
    | nil => rfl
    | cons a acc =>
      show [List.map (Hop.mv Y) (a :: acc)] = spl _ []
      rw [spl_nil_open (by simp)]
  | h :: hs, acc => by
    by_cases hj : (lnAt Y h.k).k < 0
    · have e : jH Y h = true := decide_eq_true hj
      have e1 : splH (jH Y) acc (h :: hs) = acc :: splH (jH Y) [] hs := by show (if jH Y h then _ else _) = _; rw [e]; rfl
      rw [e1, List.map_cons, List.map_cons, spl_jump (show (Hop.mv Y h).k < 0 from hj), splH_map Y hs []]
      rfl
    · have e : jH Y h = false := decide_eq_false hj
      have e1 : splH (jH Y) acc (h :: hs) = splH (jH Y) (acc ++ [h]) hs := by show (if jH Y h then _ else _) = _; rw [e]; rfl
      rw [e1, List.map_cons, spl_keep (show 0 ≤ (Hop.mv Y h).k from by show 0 ≤ (lnAt Y h.k).k; omega), splH_map Y hs (acc ++ [h]), List.map_append]
      rfl
theorem Trk.split {Y : List Ln} {y : Int} : ∀ {a b : List Hop} {x : Int}, Trk Y x (a ++ b) y → ∃ z, Trk Y x a z ∧ Trk Y z b y
  | [], b, x, w => ⟨x, .nil _, w⟩
  | h :: a, b, x, w => by
    cases w with
    | cons _ _ hk hx t =>
      obtain ⟨z, h1, h2⟩ := Trk.split t
      exact ⟨z, .cons h a hk hx h1, h2⟩
/-- what is cut out: walks without jumps, none empty -/
theorem splH_ok {Y : List Ln} {J : Hop → Bool} : ∀ (gs acc : List Hop) (x y : Int), Trk Y x (acc ++ gs) y → (∀ h ∈ acc, J h = false) → (acc = [] → ∀ g gs', gs = g :: gs' → J g = false) →
    (∀ i (hi : i + 1 < gs.length), ¬ (J gs[i] = true ∧ J gs[i + 1] = true)) → ∀ run ∈ splH J acc gs, run ≠ [] ∧ (∃ x y, Trk Y x run y) ∧ ∀ h ∈ run, J h = false
  | [], acc, x, y, w, ha, _, _, run, hr => by
    cases acc with
    | nil => cases hr
    | cons a acc =>
      have e : run = a :: acc := by simpa [splH] using hr
      subst e
      rw [List.append_nil] at w
      exact ⟨by simp, ⟨x, y, w⟩, ha⟩
  | g :: gs, acc, x, y, w, ha, hf, hadj, run, hr => by
    have hadj' : ∀ i (hi : i + 1 < gs.length), ¬ (J gs[i] = true ∧ J gs[i + 1] = true) := fun i hi => hadj (i + 1) (by simpa using hi)
    cases hj : J g
    · have e1 : splH J acc (g :: gs) = splH J (acc ++ [g]) gs := by show (if J g then _ else _) = _; rw [hj]; rfl
      rw [e1] at hr
      refine splH_ok gs (acc ++ [g]) x y (by simpa using w) (fun h hh => ?_) (fun e => absurd e (by simp)) hadj' run hr
      rcases List.mem_append.1 hh with hh | hh
      · exact ha h hh
      · have : h = g := by simpa using hh
        rw [this]; exact hj
    · have e1 : splH J acc (g :: gs) = acc :: splH J [] gs := by show (if J g then _ else _) = _; rw [hj]; rfl
      rw [e1] at hr
      obtain ⟨z, w1, w2⟩ := w.split
      have w3 : ∃ z', Trk Y z' gs y := by
        cases w2 with
        | cons _ _ _ _ t => exact ⟨_, t⟩
      obtain ⟨z', w3⟩ := w3
      rcases List.mem_cons.1 hr with rfl | hr
      · refine ⟨fun e => ?_, ⟨x, z, w1⟩, ha⟩
        rw [hf e g gs rfl] at hj
        cases hj
      · refine splH_ok gs [] z' y w3 (fun h hh => by cases hh) (fun _ g' gs' e => ?_) hadj' run hr
        subst e
        have := hadj 0 (by simp)
        simp only [List.getElem_cons_zero, List.getElem_cons_succ] at this
        cases hg : J g'
        · rfl
        · exact absurd ⟨hj, hg⟩ this
theorem splH_jlen {J : Hop → Bool} {g : Hop} (hg : J g = true) : ∀ (gs acc : List Hop), (splH J acc (gs ++ [g])).length = (gs ++ [g]).countP J
  | [], acc => by
    have e1 : splH J acc ([] ++ [g]) = acc :: [] := by show (if J g then _ else _) = _; rw [hg]; rfl
    rw [e1]; simp [hg]
  | h :: gs, acc => by
    cases hj : J h
    · have e1 : splH J acc (h :: (gs ++ [g])) = splH J (acc ++ [h]) (gs ++ [g]) := by show (if J h then _ else _) = _; rw [hj]; rfl
      rw [List.cons_append, e1, splH_jlen hg gs, List.countP_cons_of_neg (by rw [hj]; decide)]
    · have e1 : splH J acc (h :: (gs ++ [g])) = acc :: splH J [] (gs ++ [g]) := by show (if J h then _ else _) = _; rw [hj]; rfl
      rw [List.cons_append, e1, List.length_cons, splH_jlen hg gs, List.countP_cons_of_pos hj]
theorem splH_none {J : Hop → Bool} : ∀ (gs acc : List Hop), (∀ g ∈ gs, J g = false) → acc ++ gs ≠ [] → splH J acc gs = [acc ++ gs]
  | [], acc, _, hne => by
    cases acc with
    | nil => exact absurd rfl hne
    | cons a acc => simp [splH]
  | g :: gs, acc, h, _ => by
    have e1 : splH J acc (g :: gs) = splH J (acc ++ [g]) gs := by show (if J g then _ else _) = _; rw [h g (by simp)]; rfl
    rw [e1, splH_none gs (acc ++ [g]) (fun x hx => h x (by simp [hx])) (by simp)]
    simp
/-- turned so that the first jump ends it -/
def rotH (Y : List Ln) (hs : List Hop) : List Hop := match hs.findIdx? (jH Y) with
  | none => hs
  | some i => hs.drop (i + 1) ++ hs.take (i + 1)
theorem rotH_map (Y : List Ln) (hs : List Hop) : rotJ (hs.map (Hop.mv Y)) = (rotH Y hs).map (Hop.mv Y) := by
  unfold rotJ rotH
  have e : (hs.map (Hop.mv Y)).findIdx? (fun m => decide (m.k < 0)) = hs.findIdx? (jH Y) := by
    rw [List.findIdx?_map]; rfl
  rw [e]
  cases hs.findIdx? (jH Y) with
  | none => rfl
  | some i => simp [List.map_append, List.map_drop, List.map_take]
section
variable {n : Nat} {l : List Sm} {t j : Int}
theorem lnsY_at {p : Nat} (hp : p < (lnsY l t j).length) : (p < (lnsC (chJ l t j) l l.length).length ∧ ∃ q, ∃ hq : q < l.length, l[q].t = t ∧ lnAt (lnsY l t j) p = ⟨q, l[q].a, l[q].b⟩) ∨
    ((lnsC (chJ l t j) l l.length).length ≤ p ∧ ∃ i, i = p - (lnsC (chJ l t j) l l.length).length ∧ ∃ h1 : 2 * i + 1 < (oddN (chJ l t j) l 16).length, lnAt (lnsY l t j) p = ⟨-1, (oddN (chJ l t j) l 16)[2 * i], (oddN (chJ l t j) l 16)[2 * i + 1]⟩) := by
  rw [lnAt_get hp]
  unfold lnsY at hp ⊢
  by_cases h : p < (lnsC (chJ l t j) l l.length).length
  · left
    rw [List.getElem_append_left h]
    obtain ⟨q, hq, _, hc, e⟩ := (lnsC_mem l.length (Nat.le_refl _)).1 (List.getElem_mem h)
    exact ⟨h, q, hq, (chJ_iff.1 hc).1, e⟩
  · right
    rw [List.getElem_append_right (by omega)]
    have hj : p - (lnsC (chJ l t j) l l.length).length < (jps (oddN (chJ l t j) l 16)).length := by rw [List.length_append] at hp; omega
    obtain ⟨h1, e⟩ := jps_get (oddN (chJ l t j) l 16) _ hj
    exact ⟨by omega, _, rfl, h1, e⟩
theorem lnsY_j {h : Hop} (hp : h.k < (lnsY l t j).length) : jH (lnsY l t j) h = decide ((lnsC (chJ l t j) l l.length).length ≤ h.k) := by
  unfold jH
  rcases lnsY_at hp with ⟨h1, q, hq, _, e⟩ | ⟨h1, i, _, h2, e⟩
  · rw [e, decide_eq_false (show ¬ (lnsC (chJ l t j) l l.length).length ≤ h.k by omega)]
    exact decide_eq_false (show ¬ ((q : Int) < 0) by omega)
  · rw [e, decide_eq_true h1]
    rfl
/-- two jumps do not follow each other -/
theorem jumps_apart {g h : Hop} (hg : g.k < (lnsY l t j).length) (hh : h.k < (lnsY l t j).length) (jg : jH (lnsY l t j) g = true) (jh : jH (lnsY l t j) h = true) (hne : g.k ≠ h.k) : g.to_ (lnsY l t j) ≠ h.fr (lnsY l t j) := by
  rw [lnsY_j hg] at jg
  rw [lnsY_j hh] at jh
  have g1 := of_decide_eq_true jg
  have h1 := of_decide_eq_true jh
  rcases lnsY_at hg with ⟨g2, _⟩ | ⟨_, i, hi, hi1, ei⟩
  · omega
  rcases lnsY_at hh with ⟨h2, _⟩ | ⟨_, m, hm, hm1, em⟩
  · omega
  have him : i ≠ m := by omega
  have hnd := oddN_nodup (chJ l t j) l 16
  have hinj : ∀ (u v : Nat) (hu : u < (oddN (chJ l t j) l 16).length) (hv : v < (oddN (chJ l t j) l 16).length), (oddN (chJ l t j) l 16)[u] = (oddN (chJ l t j) l 16)[v] → u = v := fun u v hu hv e => (List.getElem_inj hnd).1 e
  unfold Hop.to_ Hop.fr Ln.to_ Ln.fr
  rw [ei, em]
  dsimp only
  cases g.r <;> cases h.r <;> intro e <;> have := hinj _ _ _ _ e <;> omega
theorem cnt_range (a : Nat) : ∀ b, (List.range (a + b)).countP (fun p => decide (a ≤ p)) = b
  | 0 => by
    rw [Nat.add_zero, List.countP_eq_zero]
    intro p hp
    have := List.mem_range.1 hp
    simpa using this
  | b + 1 => by
    rw [← Nat.add_assoc, List.range_succ, List.countP_append, cnt_range a b]
    simp
theorem tour_jumps {f : Int} {hs : List Hop} (T : Tour (lnsY l t j) f hs) : hs.countP (jH (lnsY l t j)) = (oddN (chJ l t j) l 16).length / 2 := by
  have e1 : hs.countP (jH (lnsY l t j)) = (hs.map Hop.k).countP (fun p => decide ((lnsC (chJ l t j) l l.length).length ≤ p)) := by
    rw [List.countP_map]
    refine List.countP_congr fun h hh => ?_
    rw [lnsY_j (T.1.lt h hh)]
    rfl
  have e2 : (lnsY l t j).length = (lnsC (chJ l t j) l l.length).length + (oddN (chJ l t j) l 16).length / 2 := by
    unfold lnsY; rw [List.length_append, jps_len]
  rw [e1, T.2.countP_eq, e2, cnt_range]
/-- a walk along seams of a class is a good run -/
theorem hops_good {rs : List Hop} {x y : Int} (w : Trk (lnsY l t j) x rs y) (hne : rs ≠ []) (hj : ∀ h ∈ rs, jH (lnsY l t j) h = false) : GoodRun l (rs.map (Hop.mv (lnsY l t j))) ∧ ((rs.map (Hop.mv (lnsY l t j))).getD 0 default).thr l = t := by
  have hends : ∀ i (hi : i < rs.length), (Hop.mv (lnsY l t j) rs[i]).inG l ∧ (Hop.mv (lnsY l t j) rs[i]).from l = rs[i].fr (lnsY l t j) ∧ (Hop.mv (lnsY l t j) rs[i]).to_ l = rs[i].to_ (lnsY l t j) ∧ (Hop.mv (lnsY l t j) rs[i]).thr l = t := by
    intro i hi
    have hm := List.getElem_mem hi
    have hk := w.lt _ hm
    have h1 := hj _ hm
    rw [lnsY_j hk] at h1
    have h2 := of_decide_eq_false h1
    rcases lnsY_at hk with ⟨_, q, hq, ht, e⟩ | ⟨h3, _⟩
    · unfold Mv.inG Mv.from Mv.to_ Mv.thr Hop.mv Hop.fr Hop.to_ Ln.fr Ln.to_
      rw [e]
      dsimp only
      rw [Int.toNat_natCast, List.getElem?_eq_getElem hq]
      exact ⟨⟨by omega, by omega⟩, rfl, rfl, ht⟩
    · exact absurd h3 h2
  have hget : ∀ i (hi : i < rs.length), (rs.map (Hop.mv (lnsY l t j))).getD i default = Hop.mv (lnsY l t j) rs[i] := fun i hi => by
    rw [getD_get (by simpa using hi), List.getElem_map]
  have h0 : 0 < rs.length := List.length_pos_iff.2 hne
  refine ⟨⟨by simpa using hne, fun i hi => ?_⟩, ?_⟩
  · have hi' : i < rs.length := by simpa using hi
    obtain ⟨a1, a2, a3, a4⟩ := hends i hi'
    refine ⟨by rw [hget i hi']; exact a1, ?_, ?_⟩
    · unfold fol
      cases i with
      | zero => exact .inl rfl
      | succ i =>
        right
        rw [Nat.add_sub_cancel, hget i (by omega), hget (i + 1) hi', (hends i (by omega)).2.2.1, a2]
        exact w.chain i hi'
    · unfold thd
      rw [hget i hi', hget 0 h0, a4, (hends 0 h0).2.2.2]
  · rw [hget 0 h0, (hends 0 h0).2.2.2]
theorem hop_keys (Y : List Ln) {hs : List Hop} (hp : (hs.map Hop.k).Perm (List.range Y.length)) : ((hs.map (Hop.mv Y)).map Mv.k).Perm (Y.map Ln.k) := by
  have e1 : (hs.map (Hop.mv Y)).map Mv.k = (hs.map Hop.k).map fun p => (lnAt Y p).k := by rw [List.map_map, List.map_map]; rfl
  have e2 : (List.range Y.length).map (fun p => (lnAt Y p).k) = Y.map Ln.k := by
    apply List.ext_getElem
    · simp
    · intro i h1 h2
      have : i < Y.length := by simpa using h2
      simp [lnAt_get this]
  rw [e1, ← e2]
  exact hp.map _
theorem filter_keys (Y : List Mv) : (Y.filter fun m => decide (0 ≤ m.k)).map Mv.k = (Y.map Mv.k).filter fun k => decide (0 ≤ k) := by
  rw [List.filter_map]; rfl
theorem lnsY_keys : ((lnsY l t j).map Ln.k).filter (fun k => decide (0 ≤ k)) = (lnsC (chJ l t j) l l.length).map Ln.k := by
  unfold lnsY
  rw [List.map_append, List.filter_append]
  have h1 : ((lnsC (chJ l t j) l l.length).map Ln.k).filter (fun k => decide (0 ≤ k)) = (lnsC (chJ l t j) l l.length).map Ln.k := by
    rw [List.filter_eq_self]
    intro k hk
    obtain ⟨s, hs, rfl⟩ := List.mem_map.1 hk
    obtain ⟨q, _, _, _, rfl⟩ := (lnsC_mem l.length (Nat.le_refl _)).1 hs
    exact decide_eq_true (show (0 : Int) ≤ (q : Int) by omega)
  have h2 : ((jps (oddN (chJ l t j) l 16)).map Ln.k).filter (fun k => decide (0 ≤ k)) = [] := by
    rw [List.filter_eq_nil_iff]
    intro k hk
    obtain ⟨s, hs, rfl⟩ := List.mem_map.1 hk
    rw [(jps_mem hs).1]; decide
  rw [h1, h2, List.append_nil]
/-- a tour of a class, cut at its jumps -/
theorem cut_ok {f : Int} {hs : List Hop} (hne : lnsC (chJ l t j) l l.length ≠ []) (T : Tour (lnsY l t j) f hs) :
    (∀ run ∈ spl [] (rotJ (hs.map (Hop.mv (lnsY l t j)))), GoodRun l run ∧ (run.getD 0 default).thr l = t) ∧
    ((spl [] (rotJ (hs.map (Hop.mv (lnsY l t j))))).flatten.map Mv.k).Perm ((lnsC (chJ l t j) l l.length).map Ln.k) ∧
    (spl [] (rotJ (hs.map (Hop.mv (lnsY l t j))))).length = max 1 ((oddN (chJ l t j) l 16).length / 2) := by
  have hcnt := tour_jumps T
  have hC : 0 < (lnsC (chJ l t j) l l.length).length := List.length_pos_iff.2 hne
  have hYl : (lnsY l t j).length = (lnsC (chJ l t j) l l.length).length + (oddN (chJ l t j) l 16).length / 2 := by
    unfold lnsY; rw [List.length_append, jps_len]
  have hlen : hs.length = (lnsY l t j).length := by
    have := T.2.length_eq
    rwa [List.length_map, List.length_range] at this
  have hnd : (hs.map Hop.k).Nodup := T.2.nodup_iff.2 List.nodup_range
  have hflat : ((spl [] (rotJ (hs.map (Hop.mv (lnsY l t j))))).flatten.map Mv.k).Perm ((lnsC (chJ l t j) l l.length).map Ln.k) := by
    rw [spl_flat, List.nil_append, filter_keys, ← lnsY_keys]
    exact (((rotJ_perm _).map Mv.k).trans (hop_keys _ T.2)).filter _
  have hsp : spl [] (rotJ (hs.map (Hop.mv (lnsY l t j)))) = (splH (jH (lnsY l t j)) [] (rotH (lnsY l t j) hs)).map (List.map (Hop.mv (lnsY l t j))) := by
    rw [rotH_map, splH_map]; rfl
  refine ⟨?_, hflat, ?_⟩
  · intro run hr
    rw [hsp] at hr
    obtain ⟨rs, hrs, rfl⟩ := List.mem_map.1 hr
    have hok : rs ≠ [] ∧ (∃ x y, Trk (lnsY l t j) x rs y) ∧ ∀ h ∈ rs, jH (lnsY l t j) h = false := by
      unfold rotH at hrs
      cases hfi : hs.findIdx? (jH (lnsY l t j)) with
      | none =>
        rw [hfi] at hrs
        have hall := List.findIdx?_eq_none_iff.1 hfi
        exact splH_ok hs [] f f T.1 (fun h hh => by cases hh) (fun _ g gs' e => hall g (by rw [e]; simp)) (fun i hi hc => by rw [hall _ (List.getElem_mem _)] at hc; exact absurd hc.1 (by decide)) rs hrs
      | some i =>
        rw [hfi] at hrs
        dsimp only at hrs
        obtain ⟨hi, hji, _⟩ := List.findIdx?_eq_some_iff_getElem.1 hfi
        obtain ⟨z, w1, w2⟩ := (show Trk (lnsY l t j) f (hs.take (i + 1) ++ hs.drop (i + 1)) f by rw [List.take_append_drop]; exact T.1).split
        have wg := w2.append w1
        have hgl : (hs.drop (i + 1) ++ hs.take (i + 1)).length = hs.length := by simp; omega
        have hpg : ((hs.drop (i + 1) ++ hs.take (i + 1)).map Hop.k).Nodup := by
          have hp : (hs.drop (i + 1) ++ hs.take (i + 1)).Perm hs := List.perm_append_comm.trans (by rw [List.take_append_drop])
          exact (hp.map Hop.k).nodup_iff.2 hnd
        have hlast : ∀ (p : Nat) (hp : p < (hs.drop (i + 1) ++ hs.take (i + 1)).length), p = hs.length - 1 → (hs.drop (i + 1) ++ hs.take (i + 1))[p] = hs[i] := by
          intro p hp e
          subst e
          rw [List.getElem_append_right (by simp; omega)]
          simp only [List.getElem_take]
          congr 1
          simp; omega
        generalize hs.drop (i + 1) ++ hs.take (i + 1) = gs at *
        have hkinj : ∀ (p q : Nat) (hp : p < gs.length) (hq : q < gs.length), gs[p].k = gs[q].k → p = q := by
          intro p q hp hq e
          have := (List.getElem_inj (xs := gs.map Hop.k) (i := p) (j := q) (h₀ := by simpa using hp) (h₁ := by simpa using hq) hpg).1 (by simpa using e)
          exact this
        have hlt := wg.lt
        refine splH_ok gs [] z z wg (fun h hh => by cases hh) (fun _ g gs' e => ?_) (fun p hp hc => ?_) rs hrs
        · -- the first is no jump: the last is one
          have h0 : 0 < gs.length := by rw [e]; simp
          have hg0 : g = gs[0] := by simp [e]
          cases hj : jH (lnsY l t j) g
          · rfl
          · exfalso
            have hl : gs[gs.length - 1] = hs[i] := hlast _ (by omega) (by omega)
            have e1 := wg.last h0
            have e2 := wg.first h0
            have hpos : 0 < hs.countP (jH (lnsY l t j)) := List.countP_pos_iff.2 ⟨hs[i], List.getElem_mem hi, hji⟩
            have h2 : 2 ≤ gs.length := by omega
            have hne0 : gs[gs.length - 1].k ≠ gs[0].k := fun e => by have := hkinj _ _ (by omega) h0 e; omega
            refine jumps_apart (hlt _ (List.getElem_mem _)) (hlt _ (List.getElem_mem _)) (by rw [hl]; exact hji) (by rw [← hg0]; exact hj) hne0 ?_
            rw [e1, e2]
        · have hne1 : gs[p].k ≠ gs[p + 1].k := fun e => by have := hkinj _ _ (by omega) hp e; omega
          exact jumps_apart (hlt _ (List.getElem_mem _)) (hlt _ (List.getElem_mem _)) hc.1 hc.2 hne1 (wg.chain p hp)
    obtain ⟨h1, ⟨x, y, w⟩, h3⟩ := hok
    exact hops_good w h1 h3
  · rw [hsp, List.length_map]
    unfold rotH
    cases hfi : hs.findIdx? (jH (lnsY l t j)) with
    | none =>
      dsimp only
      have hall := List.findIdx?_eq_none_iff.1 hfi
      have h0 : hs.countP (jH (lnsY l t j)) = 0 := List.countP_eq_zero.2 fun h hh => by rw [hall h hh]; decide
      rw [splH_none hs [] hall (by rw [List.nil_append]; intro e; rw [e] at hlen; simp at hlen; omega)]
      simp only [List.length_cons, List.length_nil]
      omega
    | some i =>
      dsimp only
      obtain ⟨hi, hji, _⟩ := List.findIdx?_eq_some_iff_getElem.1 hfi
      have e : hs.drop (i + 1) ++ hs.take (i + 1) = (hs.drop (i + 1) ++ hs.take i) ++ [hs[i]] := by rw [List.take_succ_eq_append_getElem hi, List.append_assoc]
      have hp : (hs.drop (i + 1) ++ hs.take (i + 1)).Perm hs := List.perm_append_comm.trans (by rw [List.take_append_drop])
      have hpos : 0 < hs.countP (jH (lnsY l t j)) := List.countP_pos_iff.2 ⟨hs[i], List.getElem_mem hi, hji⟩
      have hc := hp.countP_eq (jH (lnsY l t j))
      rw [e] at hc ⊢
      rw [splH_jlen hji, hc]
      omega
end

/-- the least number of runs of a class -/
def fwJ (l : List Sm) (t j : Int) : Nat := if lnsC (chJ l t j) l l.length = [] then 0 else max 1 ((oddN (chJ l t j) l 16).length / 2)
/-- of the first m classes -/
def fwT (l : List Sm) (t : Int) : Nat → Nat
  | 0 => 0
  | m + 1 => fwT l t m + fwJ l t m
/-- of the first m threads -/
def fwA (l : List Sm) (n : Nat) : Nat → Nat
  | 0 => 0
  | m + 1 => fwA l n m + fwT l m n
/-- the thread of a run -/
def runT (l : List Sm) (run : List Mv) : Int := (run.getD 0 default).thr l
/-- the runs of what P says; c: how many of each thread -/
structure RunsI (l : List Sm) (P : Sm → Prop) (c : Int → Nat) (R : List (List Mv)) : Prop where
  good : ∀ run ∈ R, GoodRun l run
  nd : (R.flatten.map Mv.k).Nodup
  mem : ∀ q : Int, q ∈ R.flatten.map Mv.k ↔ ∃ i, ∃ h : i < l.length, q = (i : Int) ∧ P l[i]
  cnt : ∀ t, R.countP (fun run => decide (runT l run = t)) = c t
theorem RunsI.nil (l : List Sm) : RunsI l (fun _ => False) (fun _ => 0) [] :=
  ⟨fun r hr => (by cases hr), by simp, fun q => ⟨fun h => by simp at h, fun ⟨_, _, _, h⟩ => h.elim⟩, fun t => rfl⟩
theorem RunsI.congr {l : List Sm} {P P' : Sm → Prop} {c c' : Int → Nat} {R : List (List Mv)} (h : RunsI l P c R) (hP : ∀ s ∈ l, P s ↔ P' s) (hc : ∀ t, c t = c' t) : RunsI l P' c' R :=
  ⟨h.good, h.nd, fun q => by
    rw [h.mem q]
    constructor
    · rintro ⟨i, hi, e, hp⟩; exact ⟨i, hi, e, (hP _ (List.getElem_mem hi)).1 hp⟩
    · rintro ⟨i, hi, e, hp⟩; exact ⟨i, hi, e, (hP _ (List.getElem_mem hi)).2 hp⟩, fun t => (h.cnt t).trans (hc t)⟩
/-- one class more -/
theorem RunsI.cut {l : List Sm} {P : Sm → Prop} {c : Int → Nat} {R : List (List Mv)} {t j f : Int} {hs : List Hop} (h : RunsI l P c R) (hP : ∀ s, P s → chJ l t j s = false) (hne : lnsC (chJ l t j) l l.length ≠ []) (T : Tour (lnsY l t j) f hs) :
    RunsI l (fun s => P s ∨ chJ l t j s = true) (fun x => c x + if x = t then fwJ l t j else 0) (R ++ spl [] (rotJ (hs.map (Hop.mv (lnsY l t j))))) := by
  obtain ⟨h1, h2, h3⟩ := cut_ok hne T
  generalize spl [] (rotJ (hs.map (Hop.mv (lnsY l t j)))) = S at *
  have hk := lnsC_keys (ch := chJ l t j) l.length (Nat.le_refl l.length)
  have hmem : ∀ q : Int, q ∈ S.flatten.map Mv.k ↔ ∃ i, ∃ h : i < l.length, q = (i : Int) ∧ chJ l t j l[i] = true := by
    intro q
    rw [h2.mem_iff, List.mem_map]
    constructor
    · rintro ⟨s, hs, rfl⟩
      obtain ⟨i, hi, _, hc, rfl⟩ := (lnsC_mem l.length (Nat.le_refl _)).1 hs
      exact ⟨i, hi, rfl, hc⟩
    · rintro ⟨i, hi, rfl, hc⟩
      exact ⟨_, (lnsC_mem l.length (Nat.le_refl _)).2 ⟨i, hi, hi, hc, rfl⟩, rfl⟩
  refine ⟨fun r hr => ?_, ?_, fun q => ?_, fun x => ?_⟩
  · rcases List.mem_append.1 hr with hr | hr
    · exact h.good r hr
    · exact (h1 r hr).1
  · rw [List.flatten_append, List.map_append]
    refine List.nodup_append.2 ⟨h.nd, h2.nodup_iff.2 hk, fun a ha b hb e => ?_⟩
    subst e
    obtain ⟨i, hi, rfl, hp⟩ := (h.mem a).1 ha
    obtain ⟨i', hi', e, hc⟩ := (hmem _).1 hb
    obtain rfl : i = i' := by omega
    rw [hP _ hp] at hc
    cases hc
  · rw [List.flatten_append, List.map_append, List.mem_append, h.mem q, hmem q]
    constructor
    · rintro (⟨i, hi, e, hp⟩ | ⟨i, hi, e, hp⟩)
      · exact ⟨i, hi, e, .inl hp⟩
      · exact ⟨i, hi, e, .inr hp⟩
    · rintro ⟨i, hi, e, hp | hp⟩
      · exact .inl ⟨i, hi, e, hp⟩
      · exact .inr ⟨i, hi, e, hp⟩
  · rw [List.countP_append, h.cnt x]
    congr 1
    have e1 : fwJ l t j = S.length := by unfold fwJ; rw [if_neg hne, h3]
    split
    · rename_i hx
      rw [e1, List.countP_eq_length]
      intro r hr
      rw [hx]
      exact decide_eq_true (h1 r hr).2
    · rename_i hx
      rw [List.countP_eq_zero]
      intro r hr hd
      have hd' : runT l r = x := of_decide_eq_true hd
      exact hx (hd'.symm.trans (h1 r hr).2)
theorem lnsC_nil {ch : Sm → Bool} {l : List Sm} (h : lnsC ch l l.length = []) : ∀ s ∈ l, ch s = false := by
  intro s hs
  obtain ⟨q, hq, rfl⟩ := List.getElem_of_mem hs
  cases hc : ch l[q]
  · rfl
  · have := (lnsC_mem (ch := ch) l.length (Nat.le_refl _)).2 ⟨q, hq, hq, hc, rfl⟩
    rw [h] at this
    cases this
/-- all of them: a sewing -/
theorem RunsI.sews {l : List Sm} {c : Int → Nat} {R : List (List Mv)} (h : RunsI l (fun _ => True) c R) : Sewing l R := by
  refine ⟨h.good, h.nd, ?_⟩
  have hp : (R.flatten.map Mv.k).Perm ((List.range l.length).map fun i : Nat => (i : Int)) := by
    refine (List.perm_ext_iff_of_nodup h.nd ?_).2 fun q => ?_
    · exact List.Pairwise.map _ (fun a b hab e => hab (by omega)) List.nodup_range
    · rw [h.mem q, List.mem_map]
      constructor
      · rintro ⟨i, hi, rfl, _⟩; exact ⟨i, List.mem_range.2 hi, rfl⟩
      · rintro ⟨i, hi, rfl⟩; exact ⟨i, List.mem_range.1 hi, rfl, trivial⟩
  have := hp.length_eq
  rwa [List.length_map, List.length_map, List.length_range] at this
/-- the number of runs, thread by thread -/
theorem count_split {R : List (List Mv)} {f : List Mv → Int} : ∀ m : Nat, (∀ r ∈ R, 0 ≤ f r ∧ f r < m) → R.length = ((List.range m).map fun t : Nat => R.countP fun r => decide (f r = (t : Int))).sum := by
  intro m
  induction R with
  | nil =>
    intro _
    have e : ((List.range m).map fun t : Nat => ([] : List (List Mv)).countP fun r => decide (f r = (t : Int))) = (List.range m).map fun _ => 0 := List.map_congr_left fun t _ => rfl
    have z : ∀ k : Nat, ((List.range k).map fun _ : Nat => (0 : Nat)).sum = 0 := by
      intro k
      induction k with
      | zero => rfl
      | succ k ih => rw [List.range_succ, List.map_append, List.sum_append_nat, ih]; rfl
    rw [e, z]; rfl
  | cons r R ih =>
    intro h
    have ih := ih (fun x hx => h x (by simp [hx]))
    have hr := h r (by simp)
    have e : ((List.range m).map fun t : Nat => (r :: R).countP fun r => decide (f r = (t : Int))) = (List.range m).map fun t : Nat => (R.countP fun r => decide (f r = (t : Int))) + (if f r = (t : Int) then 1 else 0) := by
      apply List.map_congr_left
      intro t _
      rw [List.countP_cons]
      simp
    rw [e, List.length_cons, ih]
    clear e ih
    have key : ∀ m : Nat, ((List.range m).map fun t : Nat => (R.countP fun r => decide (f r = (t : Int))) + (if f r = (t : Int) then 1 else 0)).sum = ((List.range m).map fun t : Nat => R.countP fun r => decide (f r = (t : Int))).sum + if f r < (m : Int) then 1 else 0 := by
      intro m
      induction m with
      | zero => simp; omega
      | succ m ih =>
        rw [List.range_succ, List.map_append, List.map_append, List.sum_append_nat, List.sum_append_nat, ih]
        simp only [List.map_cons, List.map_nil, List.sum_cons, List.sum_nil]
        push_cast
        split <;> split <;> split <;> omega
    rw [key m, if_pos hr.2]
end Go.Proofs.Ytbhjhajnhpohlaa
