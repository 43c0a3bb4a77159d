/- Plain law of the greatest rectangles: which are listed, in which order, which is the best. No conditions. -/
namespace Go.Proofs.YtmgofdgbenfjmaaDoor

structure Rn where
  x : Nat
  y : Nat
  a : Nat
  b : Nat
deriving DecidableEq, Inhabited
theorem Rn.ext' {r s : Rn} (h1 : r.x = s.x) (h2 : r.y = s.y) (h3 : r.a = s.a) (h4 : r.b = s.b) : r = s := by
  cases r; cases s; simp_all
/-- all cells of a rectangle are usable -/
def fuB (us : Int × Int → Bool) (x y a b : Nat) : Bool := (List.range b).all fun j => (List.range a).all fun i => us (((x + i : Nat) : Int), ((y + j : Nat) : Int))
theorem fuB_iff {us : Int × Int → Bool} {x y a b : Nat} : fuB us x y a b = true ↔ ∀ i j, i < a → j < b → us (((x + i : Nat) : Int), ((y + j : Nat) : Int)) = true := by
  unfold fuB
  rw [List.all_eq_true]
  constructor
  · intro h i j hi hj
    exact List.all_eq_true.1 (h j (List.mem_range.2 hj)) i (List.mem_range.2 hi)
  · intro h j hj
    rw [List.all_eq_true]
    intro i hi
    exact h i j (List.mem_range.1 hi) (List.mem_range.1 hj)
def Fu (us : Int × Int → Bool) (x y a b : Nat) : Prop := ∀ i j, x ≤ i → i < x + a → y ≤ j → j < y + b → us ((i : Int), (j : Int)) = true
theorem fu_iff {us : Int × Int → Bool} {x y a b : Nat} : fuB us x y a b = true ↔ Fu us x y a b := by
  rw [fuB_iff]
  constructor
  · intro h i j h1 h2 h3 h4
    have := h (i - x) (j - y) (by omega) (by omega)
    rwa [show x + (i - x) = i by omega, show y + (j - y) = j by omega] at this
  · intro h i j hi hj
    exact h (x + i) (y + j) (by omega) (by omega) (by omega) (by omega)
theorem fu_no {us : Int × Int → Bool} {x y a b : Nat} : fuB us x y a b = false ↔ ¬ Fu us x y a b := by
  rw [← fu_iff]; simp
theorem Fu.sub {us : Int × Int → Bool} {x y a b x' y' a' b' : Nat} (h : Fu us x y a b) (h1 : x ≤ x') (h2 : x' + a' ≤ x + a) (h3 : y ≤ y') (h4 : y' + b' ≤ y + b) : Fu us x' y' a' b' :=
  fun i j i1 i2 j1 j2 => h i j (by omega) (by omega) (by omega) (by omega)
theorem Fu.addX {us : Int × Int → Bool} {x y a a' b : Nat} (h : Fu us x y a b) (h' : Fu us (x + a) y a' b) : Fu us x y (a + a') b := by
  intro i j i1 i2 j1 j2
  by_cases e : i < x + a
  · exact h i j i1 e j1 j2
  · exact h' i j (by omega) (by omega) j1 j2
theorem Fu.addY {us : Int × Int → Bool} {x y a b b' : Nat} (h : Fu us x y a b) (h' : Fu us x (y + b) a b') : Fu us x y a (b + b') := by
  intro i j i1 i2 j1 j2
  by_cases e : j < y + b
  · exact h i j i1 i2 j1 e
  · exact h' i j i1 i2 (by omega) (by omega)
/-- no cell outside is usable -/
def Inn (us : Int × Int → Bool) (n h : Nat) : Prop := ∀ i j : Nat, us ((i : Int), (j : Int)) = true → i < n ∧ j < h
theorem Fu.inn {us : Int × Int → Bool} {n h x y a b : Nat} (hi : Inn us n h) (ha : 1 ≤ a) (hb : 1 ≤ b) (f : Fu us x y a b) : x + a ≤ n ∧ y + b ≤ h := by
  have := hi _ _ (f (x + a - 1) (y + b - 1) (by omega) (by omega) (by omega) (by omega))
  omega
/-- usable, contained in no other -/
def Mx (us : Int × Int → Bool) (r : Rn) : Prop := 1 ≤ r.a ∧ 1 ≤ r.b ∧ Fu us r.x r.y r.a r.b ∧ ¬ (1 ≤ r.x ∧ Fu us (r.x - 1) r.y 1 r.b) ∧ ¬ Fu us (r.x + r.a) r.y 1 r.b ∧ ¬ (1 ≤ r.y ∧ Fu us r.x (r.y - 1) r.a 1) ∧ ¬ Fu us r.x (r.y + r.b) r.a 1
def MxL (us : Int × Int → Bool) (P : Rn → Prop) (ms : List Rn) : Prop := ms.Nodup ∧ ∀ r, r ∈ ms ↔ Mx us r ∧ P r
theorem MxL.same {us : Int × Int → Bool} {P Q : Rn → Prop} {ms : List Rn} (h : MxL us P ms) (hq : ∀ r, Mx us r → (P r ↔ Q r)) : MxL us Q ms := by
  refine ⟨h.1, fun r => ?_⟩
  rw [h.2]
  exact ⟨fun ⟨a, b⟩ => ⟨a, (hq r a).1 b⟩, fun ⟨a, b⟩ => ⟨a, (hq r a).2 b⟩⟩
/-- where the search stands: row, height, column -/
def posI (y h x : Nat) (r : Rn) : Prop := r.y < y ∨ (r.y = y ∧ (r.b < h ∨ (r.b = h ∧ r.x < x)))
theorem MxL.start (us : Int × Int → Bool) : MxL us (posI 0 1 0) [] := by
  refine ⟨List.nodup_nil, fun r => ⟨fun h => (by cases h), fun ⟨h, p⟩ => ?_⟩⟩
  have := h.2.1
  unfold posI at p
  omega
theorem MxL.skip {us : Int × Int → Bool} {ms : List Rn} {y b x : Nat} (h : MxL us (posI y b x) ms) (hf : ¬ Fu us x y 1 b) : MxL us (posI y b (x + 1)) ms := by
  refine h.same fun r hr => ?_
  unfold posI
  constructor
  · intro p; omega
  · rintro (p | ⟨p1, p | ⟨p2, p3⟩⟩)
    · exact .inl p
    · exact .inr ⟨p1, .inl p⟩
    · refine .inr ⟨p1, .inr ⟨p2, ?_⟩⟩
      rcases Nat.lt_or_ge r.x x with h1 | h1
      · exact h1
      · have e : r.x = x := by omega
        have := hr.2.2.1
        have h2 := hr.1
        rw [e, p1, p2] at this
        exact absurd (this.sub (Nat.le_refl _) (by omega) (Nat.le_refl _) (Nat.le_refl _)) hf
/-- a run of columns: only its whole can be one of the greatest -/
theorem run_only {us : Int × Int → Bool} {y b x a : Nat} (ha : 1 ≤ a) (_hl : ¬ (1 ≤ x ∧ Fu us (x - 1) y 1 b)) (hf : Fu us x y a b) (hn : ¬ Fu us (x + a) y 1 b) {r : Rn} (hr : Mx us r) (hy : r.y = y) (hb : r.b = b) (h1 : x ≤ r.x) (h2 : r.x < x + a + 1) : r = ⟨x, y, a, b⟩ := by
  obtain ⟨m1, m2, m3, m4, m5, _, _⟩ := hr
  rw [hy, hb] at m3 m4 m5
  by_cases e : r.x = x
  · rw [e] at m3 m4 m5
    have : r.a = a := by
      rcases Nat.lt_trichotomy r.a a with h | h | h
      · exact absurd (hf.sub (by omega) (by omega) (Nat.le_refl _) (Nat.le_refl _)) m5
      · exact h
      · exact absurd (m3.sub (by omega) (by omega) (Nat.le_refl _) (Nat.le_refl _)) hn
    exact Rn.ext' e hy this hb
  · by_cases e2 : r.x = x + a
    · rw [e2] at m3
      exact absurd (m3.sub (by omega) (by omega) (Nat.le_refl _) (Nat.le_refl _)) hn
    · exact absurd ⟨by omega, hf.sub (by omega) (by omega) (Nat.le_refl _) (Nat.le_refl _)⟩ m4
theorem MxL.leave {us : Int × Int → Bool} {ms : List Rn} {y b x a : Nat} (h : MxL us (posI y b x) ms) (ha : 1 ≤ a) (hl : ¬ (1 ≤ x ∧ Fu us (x - 1) y 1 b)) (hf : Fu us x y a b) (hn : ¬ Fu us (x + a) y 1 b) (hm : ¬ Mx us ⟨x, y, a, b⟩) : MxL us (posI y b (x + a + 1)) ms := by
  refine h.same fun r hr => ?_
  unfold posI
  constructor
  · intro p; omega
  · rintro (p | ⟨p1, p | ⟨p2, p3⟩⟩)
    · exact .inl p
    · exact .inr ⟨p1, .inl p⟩
    · refine .inr ⟨p1, .inr ⟨p2, ?_⟩⟩
      rcases Nat.lt_or_ge r.x x with h1 | h1
      · exact h1
      · have e := run_only ha hl hf hn hr p1 p2 h1 p3
        rw [e] at hr
        exact absurd hr hm
theorem MxL.take {us : Int × Int → Bool} {ms : List Rn} {y b x a : Nat} (h : MxL us (posI y b x) ms) (hl : ¬ (1 ≤ x ∧ Fu us (x - 1) y 1 b)) (hm : Mx us ⟨x, y, a, b⟩) : MxL us (posI y b (x + a + 1)) (ms ++ [⟨x, y, a, b⟩]) := by
  have hm' := hm
  obtain ⟨m1, m2, m3, m4, m5, _, _⟩ := hm'
  dsimp only at m1 m2 m3 m4 m5
  refine ⟨?_, fun r => ?_⟩
  · refine List.nodup_append.2 ⟨h.1, by simp, ?_⟩
    intro r hr s hs
    have hs : s = ⟨x, y, a, b⟩ := by simpa using hs
    subst hs
    rintro rfl
    have := ((h.2 _).1 hr).2
    unfold posI at this
    dsimp only at this
    omega
  · rw [List.mem_append, List.mem_singleton, h.2]
    unfold posI
    constructor
    · rintro (⟨h1, h2⟩ | rfl)
      · exact ⟨h1, by omega⟩
      · exact ⟨hm, .inr ⟨rfl, .inr ⟨rfl, by dsimp only; omega⟩⟩⟩
    · rintro ⟨hr, p | ⟨p1, p | ⟨p2, p3⟩⟩⟩
      · exact .inl ⟨hr, .inl p⟩
      · exact .inl ⟨hr, .inr ⟨p1, .inl p⟩⟩
      · rcases Nat.lt_or_ge r.x x with h1 | h1
        · exact .inl ⟨hr, .inr ⟨p1, .inr ⟨p2, h1⟩⟩⟩
        · exact .inr (run_only m1 hl m3 m5 hr p1 p2 h1 p3)
theorem MxL.row {us : Int × Int → Bool} {ms : List Rn} {n k y b x : Nat} (hi : Inn us n k) (h : MxL us (posI y b x) ms) (hx : n ≤ x) : MxL us (posI y (b + 1) 0) ms := by
  refine h.same fun r hr => ?_
  have := Fu.inn hi hr.1 hr.2.1 hr.2.2.1
  have := hr.1
  unfold posI
  omega
theorem MxL.col {us : Int × Int → Bool} {ms : List Rn} {n k y b : Nat} (hi : Inn us n k) (h : MxL us (posI y b 0) ms) (hb : k < y + b) : MxL us (posI (y + 1) 1 0) ms := by
  refine h.same fun r hr => ?_
  have := Fu.inn hi hr.1 hr.2.1 hr.2.2.1
  have := hr.2.1
  unfold posI
  omega
theorem MxL.all {us : Int × Int → Bool} {ms : List Rn} {n k y : Nat} (hi : Inn us n k) (h : MxL us (posI y 1 0) ms) (hy : k ≤ y) : MxL us (fun _ => True) ms := by
  refine h.same fun r hr => ?_
  have := Fu.inn hi hr.1 hr.2.1 hr.2.2.1
  have := hr.2.1
  unfold posI
  simp only [iff_true]
  omega

/-- the order of rectangles -/
def rlt (r s : Rn) : Prop := r.y < s.y ∨ (r.y = s.y ∧ (r.x < s.x ∨ (r.x = s.x ∧ (r.a < s.a ∨ (r.a = s.a ∧ r.b < s.b)))))
theorem rlt_irr (r : Rn) : ¬ rlt r r := by unfold rlt; omega
theorem rlt_tr {r s t : Rn} (h : rlt r s) (h' : rlt s t) : rlt r t := by unfold rlt at *; omega
theorem rlt_tot {r s : Rn} (h : ¬ rlt r s) (h' : ¬ rlt s r) : r = s := by
  unfold rlt at *
  exact Rn.ext' (by omega) (by omega) (by omega) (by omega)
theorem sorted_eq : ∀ {l m : List Rn}, l.Pairwise rlt → m.Pairwise rlt → (∀ r, r ∈ l ↔ r ∈ m) → l = m
  | [], [], _, _, _ => rfl
  | [], s :: m, _, _, h => absurd ((h s).2 (by simp)) (by simp)
  | r :: l, [], _, _, h => absurd ((h r).1 (by simp)) (by simp)
  | r :: l, s :: m, hl, hm, h => by
    rw [List.pairwise_cons] at hl hm
    have e : r = s := by
      refine Classical.byContradiction fun hne => ?_
      have h1 : r ∈ m := by
        rcases List.mem_cons.1 ((h r).1 (by simp)) with h1 | h1
        · exact absurd h1 hne
        · exact h1
      have h2 : s ∈ l := by
        rcases List.mem_cons.1 ((h s).2 (by simp)) with h2 | h2
        · exact absurd h2.symm hne
        · exact h2
      exact rlt_irr r (rlt_tr (hl.1 s h2) (hm.1 r h1))
    subst e
    congr 1
    refine sorted_eq hl.2 hm.2 fun t => ?_
    have nl : r ∉ l := fun hin => rlt_irr r (hl.1 r hin)
    have nm : r ∉ m := fun hin => rlt_irr r (hm.1 r hin)
    constructor
    · intro ht
      rcases List.mem_cons.1 ((h t).1 (by simp [ht])) with h1 | h1
      · subst h1; exact absurd ht nl
      · exact h1
    · intro ht
      rcases List.mem_cons.1 ((h t).2 (by simp [ht])) with h1 | h1
      · subst h1; exact absurd ht nm
      · exact h1
def MxS (us : Int × Int → Bool) (p : Rn) (ms : List Rn) : Prop := ms.Pairwise rlt ∧ ∀ r, r ∈ ms ↔ Mx us r ∧ rlt r p
theorem MxS.start (us : Int × Int → Bool) : MxS us ⟨0, 0, 1, 1⟩ [] := by
  refine ⟨.nil, fun r => ⟨fun h => (by cases h), fun ⟨h, p⟩ => ?_⟩⟩
  have := h.1
  have := h.2.1
  unfold rlt at p
  dsimp only at p
  omega
theorem MxS.move {us : Int × Int → Bool} {p q : Rn} {ms : List Rn} (h : MxS us p ms) (hq : ∀ r, Mx us r → (rlt r p ↔ rlt r q)) : MxS us q ms := by
  refine ⟨h.1, fun r => ?_⟩
  rw [h.2]
  exact ⟨fun ⟨a, b⟩ => ⟨a, (hq r a).1 b⟩, fun ⟨a, b⟩ => ⟨a, (hq r a).2 b⟩⟩
theorem rlt_next {r : Rn} {x y a b : Nat} : rlt r ⟨x, y, a, b + 1⟩ ↔ rlt r ⟨x, y, a, b⟩ ∨ r = ⟨x, y, a, b⟩ := by
  constructor
  · intro h
    by_cases h1 : rlt r ⟨x, y, a, b⟩
    · exact .inl h1
    · unfold rlt at h h1
      dsimp only at h h1
      exact .inr (Rn.ext' (by dsimp only; omega) (by dsimp only; omega) (by dsimp only; omega) (by dsimp only; omega))
  · rintro (h | h)
    · unfold rlt at h ⊢
      dsimp only at h ⊢
      omega
    · subst h; unfold rlt; dsimp only; omega
theorem MxS.no {us : Int × Int → Bool} {x y a b : Nat} {ms : List Rn} (h : MxS us ⟨x, y, a, b⟩ ms) (hm : ¬ Mx us ⟨x, y, a, b⟩) : MxS us ⟨x, y, a, b + 1⟩ ms := by
  refine h.move fun r hr => ?_
  rw [rlt_next]
  constructor
  · exact .inl
  · rintro (h1 | h1)
    · exact h1
    · rw [h1] at hr; exact absurd hr hm
theorem MxS.yes {us : Int × Int → Bool} {x y a b : Nat} {ms : List Rn} (h : MxS us ⟨x, y, a, b⟩ ms) (hm : Mx us ⟨x, y, a, b⟩) : MxS us ⟨x, y, a, b + 1⟩ (ms ++ [⟨x, y, a, b⟩]) := by
  refine ⟨?_, fun r => ?_⟩
  · rw [List.pairwise_append]
    refine ⟨h.1, by simp, fun r hr s hs => ?_⟩
    have hs : s = ⟨x, y, a, b⟩ := by simpa using hs
    subst hs
    exact ((h.2 r).1 hr).2
  · rw [List.mem_append, List.mem_singleton, h.2, rlt_next]
    constructor
    · rintro (⟨h1, h2⟩ | rfl)
      · exact ⟨h1, .inl h2⟩
      · exact ⟨hm, .inr rfl⟩
    · rintro ⟨h1, h2 | h2⟩
      · exact .inl ⟨h1, h2⟩
      · exact .inr h2
theorem MxS.nextA {us : Int × Int → Bool} {n k x y a b : Nat} {ms : List Rn} (hi : Inn us n k) (h : MxS us ⟨x, y, a, b⟩ ms) (hb : k < y + b) : MxS us ⟨x, y, a + 1, 1⟩ ms := by
  refine h.move fun r hr => ?_
  have := Fu.inn hi hr.1 hr.2.1 hr.2.2.1
  have := hr.2.1
  unfold rlt
  dsimp only
  omega
theorem MxS.nextX {us : Int × Int → Bool} {n k x y a : Nat} {ms : List Rn} (hi : Inn us n k) (h : MxS us ⟨x, y, a, 1⟩ ms) (hb : n < x + a) : MxS us ⟨x + 1, y, 1, 1⟩ ms := by
  refine h.move fun r hr => ?_
  have := Fu.inn hi hr.1 hr.2.1 hr.2.2.1
  have := hr.2.1
  have := hr.1
  unfold rlt
  dsimp only
  omega
theorem MxS.nextY {us : Int × Int → Bool} {n k x y : Nat} {ms : List Rn} (hi : Inn us n k) (h : MxS us ⟨x, y, 1, 1⟩ ms) (hb : n ≤ x) : MxS us ⟨0, y + 1, 1, 1⟩ ms := by
  refine h.move fun r hr => ?_
  have := Fu.inn hi hr.1 hr.2.1 hr.2.2.1
  have := hr.2.1
  have := hr.1
  unfold rlt
  dsimp only
  omega
theorem MxS.all {us : Int × Int → Bool} {n k y : Nat} {ms : List Rn} (hi : Inn us n k) (h : MxS us ⟨0, y, 1, 1⟩ ms) (hb : k ≤ y) : ms.Pairwise rlt ∧ ∀ r, r ∈ ms ↔ Mx us r := by
  refine ⟨h.1, fun r => ?_⟩
  rw [h.2]
  refine ⟨fun h => h.1, fun hr => ⟨hr, ?_⟩⟩
  have := Fu.inn hi hr.1 hr.2.1 hr.2.2.1
  have := hr.2.1
  unfold rlt
  dsimp only
  omega

/-- better: more cells, then higher, then to the left, then wider -/
def btr (s r : Rn) : Prop := s.a * s.b > r.a * r.b ∨ (s.a * s.b = r.a * r.b ∧ (s.y < r.y ∨ (s.y = r.y ∧ (s.x < r.x ∨ (s.x = r.x ∧ s.a > r.a)))))
theorem btr_tot {r s : Rn} (h : ¬ btr r s) (h' : ¬ btr s r) (ha : 1 ≤ r.a) : r = s := by
  unfold btr at *
  have e1 : r.a * r.b = s.a * s.b := by omega
  have e2 : r.a = s.a := by omega
  refine Rn.ext' (by omega) (by omega) e2 ?_
  rw [e2] at e1
  exact Nat.eq_of_mul_eq_mul_left (by omega) e1
theorem area_lt {a b a' b' : Nat} (ha : a ≤ a') (hb : b ≤ b') (h1 : 1 ≤ a) (h2 : 1 ≤ b) (hne : ¬ (a = a' ∧ b = b')) : a * b < a' * b' := by
  by_cases e : a = a'
  · subst e
    exact Nat.mul_lt_mul_of_pos_left (by omega) (by omega)
  · exact Nat.lt_of_lt_of_le (Nat.mul_lt_mul_of_pos_right (show a < a' by omega) (by omega)) (Nat.mul_le_mul_left _ hb)
/-- each usable rectangle lies in one of the greatest -/
theorem within {us : Int × Int → Bool} {n k : Nat} (hi : Inn us n k) : ∀ (f : Nat) (r : Rn), f + r.a + r.b = n + k → 1 ≤ r.a → 1 ≤ r.b → Fu us r.x r.y r.a r.b → ∃ s, Mx us s ∧ s.x ≤ r.x ∧ s.y ≤ r.y ∧ r.x + r.a ≤ s.x + s.a ∧ r.y + r.b ≤ s.y + s.b ∧ r.a ≤ s.a ∧ r.b ≤ s.b
  | f, r, hf, ha, hb, hr => by
    have hin := Fu.inn hi ha hb hr
    by_cases h1 : 1 ≤ r.x ∧ Fu us (r.x - 1) r.y 1 r.b
    · match f, hf with
      | 0, hf => omega
      | f + 1, hf =>
        have h := Fu.addX h1.2 (a' := r.a) (by rw [show r.x - 1 + 1 = r.x by omega]; exact hr)
        obtain ⟨s, s1, s2, s3, s4, s5, s6, s7⟩ := within hi f ⟨r.x - 1, r.y, 1 + r.a, r.b⟩ (by dsimp only; omega) (by dsimp only; omega) hb h
        dsimp only at s2 s3 s4 s5 s6 s7
        exact ⟨s, s1, by omega, by omega, by omega, by omega, by omega, by omega⟩
    · by_cases h2 : Fu us (r.x + r.a) r.y 1 r.b
      · match f, hf with
        | 0, hf =>
          have := Fu.inn hi (by omega) hb h2
          omega
        | f + 1, hf =>
          have h := Fu.addX hr h2
          obtain ⟨s, s1, s2, s3, s4, s5, s6, s7⟩ := within hi f ⟨r.x, r.y, r.a + 1, r.b⟩ (by dsimp only; omega) (by dsimp only; omega) hb h
          dsimp only at s2 s3 s4 s5 s6 s7
          exact ⟨s, s1, by omega, by omega, by omega, by omega, by omega, by omega⟩
      · by_cases h3 : 1 ≤ r.y ∧ Fu us r.x (r.y - 1) r.a 1
        · match f, hf with
          | 0, hf => omega
          | f + 1, hf =>
            have h := Fu.addY h3.2 (b' := r.b) (by rw [show r.y - 1 + 1 = r.y by omega]; exact hr)
            obtain ⟨s, s1, s2, s3, s4, s5, s6, s7⟩ := within hi f ⟨r.x, r.y - 1, r.a, 1 + r.b⟩ (by dsimp only; omega) ha (by dsimp only; omega) h
            dsimp only at s2 s3 s4 s5 s6 s7
            exact ⟨s, s1, by omega, by omega, by omega, by omega, by omega, by omega⟩
        · by_cases h4 : Fu us r.x (r.y + r.b) r.a 1
          · match f, hf with
            | 0, hf =>
              have := Fu.inn hi ha (by omega) h4
              omega
            | f + 1, hf =>
              have h := Fu.addY hr h4
              obtain ⟨s, s1, s2, s3, s4, s5, s6, s7⟩ := within hi f ⟨r.x, r.y, r.a, r.b + 1⟩ (by dsimp only; omega) ha (by dsimp only; omega) h
              dsimp only at s2 s3 s4 s5 s6 s7
              exact ⟨s, s1, by omega, by omega, by omega, by omega, by omega, by omega⟩
          · exact ⟨r, ⟨ha, hb, hr, h1, h2, h3, h4⟩, Nat.le_refl _, Nat.le_refl _, Nat.le_refl _, Nat.le_refl _, Nat.le_refl _, Nat.le_refl _⟩
theorem within' {us : Int × Int → Bool} {n k : Nat} (hi : Inn us n k) (r : Rn) (ha : 1 ≤ r.a) (hb : 1 ≤ r.b) (hr : Fu us r.x r.y r.a r.b) : ∃ s, Mx us s ∧ s.x ≤ r.x ∧ s.y ≤ r.y ∧ r.x + r.a ≤ s.x + s.a ∧ r.y + r.b ≤ s.y + s.b ∧ r.a ≤ s.a ∧ r.b ≤ s.b :=
  within hi (n + k - r.a - r.b) r (by have := Fu.inn hi ha hb hr; omega) ha hb hr
/-- the best of all usable ones is the best of the greatest -/
theorem best_eq {us : Int × Int → Bool} {n k : Nat} (hi : Inn us n k) {l : List Rn} (hl : ∀ r, r ∈ l ↔ Mx us r) {m b : Rn} (hm : m ∈ l) (hmb : ∀ s ∈ l, ¬ btr s m) (ha : 1 ≤ b.a) (hb : 1 ≤ b.b) (hf : Fu us b.x b.y b.a b.b) (hbb : ∀ s : Rn, 1 ≤ s.a → 1 ≤ s.b → Fu us s.x s.y s.a s.b → ¬ btr s b) : m = b := by
  obtain ⟨s, s1, s2, s3, s4, s5, s6, s7⟩ := within' hi b ha hb hf
  have hs := hbb s s1.1 s1.2.1 s1.2.2.1
  have he : b.a = s.a ∧ b.b = s.b := by
    refine Classical.byContradiction fun hne => hs ?_
    exact .inl (area_lt s6 s7 ha hb hne)
  have e : s = b := Rn.ext' (by omega) (by omega) he.1.symm he.2.symm
  subst e
  have mm := (hl m).1 hm
  exact btr_tot (hbb m mm.1 mm.2.1 mm.2.2.1) (hmb s ((hl s).2 s1)) mm.1
end Go.Proofs.YtmgofdgbenfjmaaDoor
