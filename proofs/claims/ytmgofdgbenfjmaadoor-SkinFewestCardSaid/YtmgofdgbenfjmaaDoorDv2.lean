/- Texts joined: DvV, DvW, KuP, KuQ, KuK, DvX. Conditions: see each. -/
import Derived.Test.YtmgofdgbenfjmaaDoorDv1
namespace Go.Proofs.YtmgofdgbenfjmaaDoor

section
variable {p : Pln} {w h : Nat}
theorem prop_up (hp : p.Ok w h) {x0 x1 j k : Int} (hl : ∀ i, x0 < i → i ≤ x1 → p.l i j = true) (h1 : x0 ≤ k) (h2 : k ≤ x1) (ha : p.a k j = true) : ∀ i, x0 ≤ i → i ≤ x1 → p.a i j = true := by
  have r : ∀ n : Nat, k + n ≤ x1 → p.a (k + n) j = true := fun n => by
    induction n with
    | zero => intro _; simpa using ha
    | succ n ih =>
      intro hn
      have e : k + ((n + 1 : Nat) : Int) - 1 = k + n := by omega
      exact (hp.c3 (k + ((n + 1 : Nat) : Int)) j (hl _ (by omega) (by omega)) (by rw [e]; exact ih (by omega))).2
  have l : ∀ n : Nat, x0 ≤ k - n → p.a (k - n) j = true := fun n => by
    induction n with
    | zero => intro _; simpa using ha
    | succ n ih =>
      intro hn
      have e : k - ((n + 1 : Nat) : Int) = k - n - 1 := by omega
      rw [e]
      exact (hp.c4 (k - n) j (hl _ (by omega) (by omega)) (ih (by omega))).2
  intro i g1 g2
  by_cases hi : k ≤ i
  · have := r (i - k).toNat (by omega)
    rw [show k + ((i - k).toNat : Int) = i by omega] at this; exact this
  · have := l (k - i).toNat (by omega)
    rw [show k - ((k - i).toNat : Int) = i by omega] at this; exact this
theorem prop_dn (hp : p.Ok w h) {x0 x1 j k : Int} (hl : ∀ i, x0 < i → i ≤ x1 → p.l i j = true) (h1 : x0 ≤ k) (h2 : k ≤ x1) (ha : p.a k (j + 1) = true) : ∀ i, x0 ≤ i → i ≤ x1 → p.a i (j + 1) = true := by
  have ej : j + 1 - 1 = j := by omega
  have r : ∀ n : Nat, k + n ≤ x1 → p.a (k + n) (j + 1) = true := fun n => by
    induction n with
    | zero => intro _; simpa using ha
    | succ n ih =>
      intro hn
      have e : k + ((n + 1 : Nat) : Int) - 1 = k + n := by omega
      exact (hp.c1 (k + ((n + 1 : Nat) : Int)) (j + 1) (by rw [ej]; exact hl _ (by omega) (by omega)) (by rw [e]; exact ih (by omega))).2
  have l : ∀ n : Nat, x0 ≤ k - n → p.a (k - n) (j + 1) = true := fun n => by
    induction n with
    | zero => intro _; simpa using ha
    | succ n ih =>
      intro hn
      have e : k - ((n + 1 : Nat) : Int) = k - n - 1 := by omega
      rw [e]
      exact (hp.c2 (k - n) (j + 1) (by rw [ej]; exact hl _ (by omega) (by omega)) (ih (by omega))).2
  intro i g1 g2
  by_cases hi : k ≤ i
  · have := r (i - k).toNat (by omega)
    rw [show k + ((i - k).toNat : Int) = i by omega] at this; exact this
  · have := l (k - i).toNat (by omega)
    rw [show k - ((k - i).toNat : Int) = i by omega] at this; exact this
/-- row j hangs together from x0 to x1 and no further -/
def Row (p : Pln) (x0 x1 j : Int) : Prop := (∀ i, x0 < i → i ≤ x1 → p.l i j = true) ∧ p.l x0 j = false ∧ p.l (x1 + 1) j = false
theorem Row.up (hp : p.Ok w h) {x0 x1 j k : Int} (hr : Row p x0 x1 j) (h1 : x0 ≤ k) (h2 : k ≤ x1) (ha : p.a k j = true) : Row p x0 x1 (j - 1) := by
  obtain ⟨g1, g2, g3⟩ := hr
  have al := prop_up hp g1 h1 h2 ha
  refine ⟨fun i k1 k2 => (hp.c4 i j (g1 i k1 k2) (al i (by omega) k2)).1, ?_, ?_⟩
  · cases hl : p.l x0 (j - 1) with
    | false => rfl
    | true => rw [(hp.c2 x0 j hl (al x0 (by omega) (by omega))).1] at g2; cases g2
  · cases hl : p.l (x1 + 1) (j - 1) with
    | false => rfl
    | true =>
      have e : x1 + 1 - 1 = x1 := by omega
      rw [(hp.c1 (x1 + 1) j hl (by rw [e]; exact al x1 (by omega) (by omega))).1] at g3; cases g3
theorem Row.dn (hp : p.Ok w h) {x0 x1 j k : Int} (hr : Row p x0 x1 j) (h1 : x0 ≤ k) (h2 : k ≤ x1) (ha : p.a k (j + 1) = true) : Row p x0 x1 (j + 1) := by
  obtain ⟨g1, g2, g3⟩ := hr
  have al := prop_dn hp g1 h1 h2 ha
  have ej : j + 1 - 1 = j := by omega
  refine ⟨fun i k1 k2 => (hp.c2 i (j + 1) (by rw [ej]; exact g1 i k1 k2) (al i (by omega) k2)).1, ?_, ?_⟩
  · cases hl : p.l x0 (j + 1) with
    | false => rfl
    | true =>
      have := (hp.c4 x0 (j + 1) hl (al x0 (by omega) (by omega))).1
      rw [ej, g2] at this; cases this
  · cases hl : p.l (x1 + 1) (j + 1) with
    | false => rfl
    | true =>
      have e : x1 + 1 - 1 = x1 := by omega
      have := (hp.c3 (x1 + 1) (j + 1) hl (by rw [e]; exact al x1 (by omega) (by omega))).1
      rw [ej, g3] at this; cases this
theorem ext_lo {f : Int → Bool} (h0 : ∀ i, f i = true → 0 < i) : ∀ (n : Nat) (x : Int), x ≤ n → ∃ x0, x0 ≤ x ∧ (∀ i, x0 < i → i ≤ x → f i = true) ∧ f x0 = false
  | 0, x, hx => ⟨x, Int.le_refl _, fun i h1 h2 => by omega, by
    cases h : f x with
    | false => rfl
    | true => have := h0 x h; omega⟩
  | n + 1, x, hx => by
    cases h : f x with
    | false => exact ⟨x, Int.le_refl _, fun i h1 h2 => by omega, h⟩
    | true =>
      obtain ⟨x0, k1, k2, k3⟩ := ext_lo h0 n (x - 1) (by omega)
      refine ⟨x0, by omega, fun i h1 h2 => ?_, k3⟩
      by_cases e : i = x
      · rw [e]; exact h
      · exact k2 i h1 (by omega)
theorem ext_hi {f : Int → Bool} {m : Int} (h0 : ∀ i, f i = true → i < m) : ∀ (n : Nat) (x : Int), m ≤ x + 1 + n → ∃ x1, x ≤ x1 ∧ (∀ i, x < i → i ≤ x1 → f i = true) ∧ f (x1 + 1) = false
  | 0, x, hx => ⟨x, Int.le_refl _, fun i h1 h2 => by omega, by
    cases h : f (x + 1) with
    | false => rfl
    | true => have := h0 _ h; omega⟩
  | n + 1, x, hx => by
    cases h : f (x + 1) with
    | false => exact ⟨x, Int.le_refl _, fun i h1 h2 => by omega, h⟩
    | true =>
      obtain ⟨x1, k1, k2, k3⟩ := ext_hi h0 n (x + 1) (by omega)
      refine ⟨x1, by omega, fun i h1 h2 => ?_, k3⟩
      by_cases e : i = x + 1
      · rw [e]; exact h
      · exact k2 i (by omega) h2
/-- b is a box that hangs together and from which nothing else hangs -/
structure IsBx (p : Pln) (b : Bx) : Prop where
  ok : b.x0 ≤ b.x1 ∧ b.y0 ≤ b.y1
  a_ : ∀ x y, inB b x y = true → (p.a x y = true ↔ b.y0 < y)
  d_ : ∀ x y, inB b x y = true → (p.a x (y + 1) = true ↔ y < b.y1)
  l_ : ∀ x y, inB b x y = true → (p.l x y = true ↔ b.x0 < x)
  r_ : ∀ x y, inB b x y = true → (p.l (x + 1) y = true ↔ x < b.x1)
theorem box_at (hp : p.Ok w h) {x y : Int} (hu : p.u x y = true) : ∃ b : Bx, inB b x y = true ∧ IsBx p b := by
  have lpos : ∀ j i, p.l i j = true → 0 < i := fun j i hl => by have := hp.sup _ _ (hp.ol _ _ hl).1; omega
  have lmax : ∀ j i, p.l i j = true → i < w := fun j i hl => by have := hp.sup _ _ (hp.ol _ _ hl).2; omega
  have apos : ∀ i j, p.a i j = true → 0 < j := fun i j hl => by have := hp.sup _ _ (hp.oa _ _ hl).1; omega
  have amax : ∀ i j, p.a i j = true → j < h := fun i j hl => by have := hp.sup _ _ (hp.oa _ _ hl).2; omega
  have hin := hp.sup x y hu
  obtain ⟨x0, a1, a2, a3⟩ := ext_lo (lpos y) x.toNat x (by omega)
  obtain ⟨x1, b1, b2', b3⟩ := ext_hi (lmax y) w x (by omega)
  obtain ⟨y0, c1, c2, c3⟩ := ext_lo (apos x) y.toNat y (by omega)
  obtain ⟨y1, d1, d2, d3⟩ := ext_hi (amax x) h y (by omega)
  have r0 : Row p x0 x1 y := ⟨fun i h1 h2 => by
    by_cases hi : i ≤ x
    · exact a2 i h1 hi
    · exact b2' i (by omega) h2, a3, b3⟩
  have ru : ∀ n : Nat, y0 ≤ y - n → Row p x0 x1 (y - n) := fun n => by
    induction n with
    | zero => intro _; simpa using r0
    | succ n ih =>
      intro hn
      have e : y - ((n + 1 : Nat) : Int) = y - n - 1 := by omega
      rw [e]
      exact (ih (by omega)).up hp a1 b1 (c2 _ (by omega) (by omega))
  have rd : ∀ n : Nat, y + n ≤ y1 → Row p x0 x1 (y + n) := fun n => by
    induction n with
    | zero => intro _; simpa using r0
    | succ n ih =>
      intro hn
      have e : y + ((n + 1 : Nat) : Int) = y + n + 1 := by omega
      rw [e]
      exact (ih (by omega)).dn hp a1 b1 (d2 _ (by omega) (by omega))
  have rows : ∀ j, y0 ≤ j → j ≤ y1 → Row p x0 x1 j := fun j h1 h2 => by
    by_cases hj : j ≤ y
    · have := ru (y - j).toNat (by omega)
      rw [show y - ((y - j).toNat : Int) = j by omega] at this; exact this
    · have := rd (j - y).toNat (by omega)
      rw [show y + ((j - y).toNat : Int) = j by omega] at this; exact this
  have ha : ∀ i j, x0 ≤ i → i ≤ x1 → y0 < j → j ≤ y1 → p.a i j = true := fun i j h1 h2 h3 h4 => by
    have hx : p.a x j = true := by
      by_cases hj : j ≤ y
      · exact c2 j h3 hj
      · exact d2 j (by omega) h4
    exact prop_up hp (rows j (by omega) h4).1 a1 b1 hx i h1 h2
  refine ⟨⟨x0, y0, x1, y1⟩, inB_iff.2 ⟨a1, b1, c1, d1⟩, ⟨show x0 ≤ x1 ∧ y0 ≤ y1 by omega, fun i j hij => ?_, fun i j hij => ?_, fun i j hij => ?_, fun i j hij => ?_⟩⟩
  all_goals
    obtain ⟨k1, k2, k3, k4⟩ := inB_iff.1 hij
    have k1 : x0 ≤ i := k1
    have k2 : i ≤ x1 := k2
    have k3 : y0 ≤ j := k3
    have k4 : j ≤ y1 := k4
  · show p.a i j = true ↔ y0 < j
    refine ⟨fun hh => ?_, fun hh => ha i j k1 k2 hh k4⟩
    by_cases e : j = y0
    · subst e
      rw [prop_up hp (rows j k3 k4).1 k1 k2 hh x a1 b1] at c3; cases c3
    · omega
  · show p.a i (j + 1) = true ↔ j < y1
    refine ⟨fun hh => ?_, fun hh => ha i (j + 1) k1 k2 (by omega) (by omega)⟩
    by_cases e : j = y1
    · subst e
      rw [prop_dn hp (rows j k3 k4).1 k1 k2 hh x a1 b1] at d3; cases d3
    · omega
  · show p.l i j = true ↔ x0 < i
    refine ⟨fun hh => ?_, fun hh => (rows j k3 k4).1 i hh k2⟩
    by_cases e : i = x0
    · subst e
      rw [(rows j k3 k4).2.1] at hh; cases hh
    · omega
  · show p.l (i + 1) j = true ↔ i < x1
    refine ⟨fun hh => ?_, fun hh => (rows j k3 k4).1 (i + 1) (by omega) (by omega)⟩
    by_cases e : i = x1
    · subst e
      rw [(rows j k3 k4).2.2] at hh; cases hh
    · omega
/-- boxes that hang together: with a cell in common they are one -/
theorem IsBx.uniq {b c : Bx} (hb : IsBx p b) (hc : IsBx p c) {x y : Int} (h1 : inB b x y = true) (h2 : inB c x y = true) : b = c := by
  have kb := inB_iff.1 h1
  have kc := inB_iff.1 h2
  have ex0 : b.x0 = c.x0 := by
    rcases Int.lt_trichotomy b.x0 c.x0 with h | h | h
    · have i1 : inB b c.x0 y = true := inB_iff.2 (by omega)
      have i2 : inB c c.x0 y = true := inB_iff.2 (by omega)
      have := (hc.l_ _ _ i2).1 ((hb.l_ _ _ i1).2 h); omega
    · exact h
    · have i1 : inB b b.x0 y = true := inB_iff.2 (by omega)
      have i2 : inB c b.x0 y = true := inB_iff.2 (by omega)
      have := (hb.l_ _ _ i1).1 ((hc.l_ _ _ i2).2 h); omega
  have ey0 : b.y0 = c.y0 := by
    rcases Int.lt_trichotomy b.y0 c.y0 with h | h | h
    · have i1 : inB b x c.y0 = true := inB_iff.2 (by omega)
      have i2 : inB c x c.y0 = true := inB_iff.2 (by omega)
      have := (hc.a_ _ _ i2).1 ((hb.a_ _ _ i1).2 h); omega
    · exact h
    · have i1 : inB b x b.y0 = true := inB_iff.2 (by omega)
      have i2 : inB c x b.y0 = true := inB_iff.2 (by omega)
      have := (hb.a_ _ _ i1).1 ((hc.a_ _ _ i2).2 h); omega
  have ex1 : b.x1 = c.x1 := by
    rcases Int.lt_trichotomy b.x1 c.x1 with h | h | h
    · have i1 : inB b b.x1 y = true := inB_iff.2 (by omega)
      have i2 : inB c b.x1 y = true := inB_iff.2 (by omega)
      have := (hb.r_ _ _ i1).1 ((hc.r_ _ _ i2).2 h); omega
    · exact h
    · have i1 : inB b c.x1 y = true := inB_iff.2 (by omega)
      have i2 : inB c c.x1 y = true := inB_iff.2 (by omega)
      have := (hc.r_ _ _ i2).1 ((hb.r_ _ _ i1).2 h); omega
  have ey1 : b.y1 = c.y1 := by
    rcases Int.lt_trichotomy b.y1 c.y1 with h | h | h
    · have i1 : inB b x b.y1 = true := inB_iff.2 (by omega)
      have i2 : inB c x b.y1 = true := inB_iff.2 (by omega)
      have := (hb.d_ _ _ i1).1 ((hc.d_ _ _ i2).2 h); omega
    · exact h
    · have i1 : inB b x c.y1 = true := inB_iff.2 (by omega)
      have i2 : inB c x c.y1 = true := inB_iff.2 (by omega)
      have := (hc.d_ _ _ i2).1 ((hb.d_ _ _ i1).2 h); omega
  cases b; cases c; simp_all
end

section
variable {p : Pln} {w h : Nat} {l : List Bx}
theorem IsBx.cells (hp : p.Ok w h) {b : Bx} (hb : IsBx p b) {x y : Int} (h1 : inB b x y = true) (hu : p.u x y = true) : ∀ i j, inB b i j = true → p.u i j = true := by
  intro i j hij
  have k := inB_iff.1 hij
  have k' := inB_iff.1 h1
  by_cases c1 : b.x0 < i
  · exact (hp.ol _ _ ((hb.l_ _ _ hij).2 c1)).2
  · by_cases c2 : i < b.x1
    · have := (hp.ol _ _ ((hb.r_ _ _ hij).2 c2)).1
      rw [show i + 1 - 1 = i by omega] at this; exact this
    · by_cases c3 : b.y0 < j
      · exact (hp.oa _ _ ((hb.a_ _ _ hij).2 c3)).2
      · by_cases c4 : j < b.y1
        · have := (hp.oa _ _ ((hb.d_ _ _ hij).2 c4)).1
          rw [show j + 1 - 1 = j by omega] at this; exact this
        · have e1 : i = x := by omega
          have e2 : j = y := by omega
          rw [e1, e2]; exact hu
theorem dv_of (hp : p.Ok w h) (hn : l.Nodup) (hb : ∀ b ∈ l, IsBx p b ∧ ∃ x y, inB b x y = true ∧ p.u x y = true) (hcov : ∀ x y, p.u x y = true → ∃ b ∈ l, inB b x y = true) : Dv p.u l ∧ plnOf p.u l = p := by
  have hd : Dv p.u l := by
    refine ⟨fun b k => (hb b k).1.ok, fun x y => ⟨hcov x y, fun ⟨b, k, hin⟩ => ?_⟩, List.pairwise_iff_forall_sublist.2 fun {b c} hs x y h1 h2 => ?_⟩
    · obtain ⟨k1, x', y', k2, k3⟩ := hb b k
      exact k1.cells hp k2 k3 x y hin
    · exact List.pairwise_iff_forall_sublist.1 hn hs ((hb b (hs.subset (by simp))).1.uniq (hb c (hs.subset (by simp))).1 h1 h2)
  refine ⟨hd, ?_⟩
  have ea : (plnOf p.u l).a = p.a := by
    funext x y
    have e : (plnOf p.u l).a x y = true ↔ p.a x y = true := by
      constructor
      · intro ha
        obtain ⟨b, k, h1, h2⟩ := oa_iff.1 ha
        have := inB_iff.1 h1
        exact ((hb b k).1.a_ _ _ h2).2 (by omega)
      · intro ha
        obtain ⟨b, k, h1⟩ := hcov x y (hp.oa _ _ ha).2
        have h2 := ((hb b k).1.a_ _ _ h1).1 ha
        have := inB_iff.1 h1
        exact oa_iff.2 ⟨b, k, inB_iff.2 (by omega), h1⟩
    cases h1 : (plnOf p.u l).a x y <;> cases h2 : p.a x y <;> simp [h1, h2] at e ⊢
  have el : (plnOf p.u l).l = p.l := by
    funext x y
    have e : (plnOf p.u l).l x y = true ↔ p.l x y = true := by
      constructor
      · intro ha
        obtain ⟨b, k, h1, h2⟩ := ol_iff.1 ha
        have := inB_iff.1 h1
        exact ((hb b k).1.l_ _ _ h2).2 (by omega)
      · intro ha
        obtain ⟨b, k, h1⟩ := hcov x y (hp.ol _ _ ha).2
        have h2 := ((hb b k).1.l_ _ _ h1).1 ha
        have := inB_iff.1 h1
        exact ol_iff.2 ⟨b, k, inB_iff.2 (by omega), h1⟩
    cases h1 : (plnOf p.u l).l x y <;> cases h2 : p.l x y <;> simp [h1, h2] at e ⊢
  have eu : (plnOf p.u l).u = p.u := rfl
  revert ea el eu
  generalize plnOf p.u l = q
  cases q; cases p
  intro e1 e2 e3
  simp_all
end
section
variable {u : Int → Int → Bool} {H : List Seg} {V : List Chd} {w h : Nat}
theorem upC (hc : Cuts u H V) (hs : ∀ x y, u x y = true → 0 ≤ x ∧ x < w ∧ 0 ≤ y ∧ y < h) :
    sm2 (w + 1) (h + 1) (fun x y => b2 ((plnC u H V).eh x y)) + sm2 (w + 1) (h + 1) (fun x y => b2 ((plnC u H V).ev x y)) + 2 * sm2 (w + 1) (h + 1) (fun x y => b2 ((plnC u H V).cr x y)) ≤ 2 * ((H.length : Int) + V.length) := by
  have k1 : ∀ s ∈ H, 0 ≤ s.lo ∧ s.lo < (w + 1 : Nat) ∧ 0 ≤ s.y ∧ s.y < (h + 1 : Nat) ∧ 0 ≤ s.hi ∧ s.hi < (w + 1 : Nat) := fun s k => by
    obtain ⟨h1, h2⟩ := hc.flat s k
    have f1 := h2 s.lo (Int.le_refl _) h1
    have f2 := h2 (s.hi - 1) (by omega) (by omega)
    unfold fl at f1 f2
    simp only [Bool.and_eq_true] at f1 f2
    have := hs _ _ f1.2
    have := hs _ _ f2.2
    omega
  rw [show (2 : Int) * ((H.length : Int) + V.length) = H.length + H.length + V.length + V.length by omega]
  rw [← cn_sum (f := fun s : Seg => (s.lo, s.y)) (m := w + 1) (n := h + 1) H fun s k => by have := k1 s k; exact ⟨this.1, this.2.1, this.2.2.1, this.2.2.2.1⟩]
  have e2 := cn_sum (f := fun s : Seg => (s.hi, s.y)) (m := w + 1) (n := h + 1) H fun s k => by have := k1 s k; exact ⟨this.2.2.2.2.1, this.2.2.2.2.2, this.2.2.1, this.2.2.2.1⟩
  have e1 := cn_sum (f := fun s : Seg => (s.lo, s.y)) (m := w + 1) (n := h + 1) H fun s k => by have := k1 s k; exact ⟨this.1, this.2.1, this.2.2.1, this.2.2.2.1⟩
  have e3 := cn_sum (f := fun b : Chd => b.1) (m := w + 1) (n := h + 1) V fun b k => q3_in hs (hc.steep b k).2.2.1
  have e4 := cn_sum (f := fun b : Chd => b.2) (m := w + 1) (n := h + 1) V fun b k => q3_in hs (hc.steep b k).2.2.2.1
  have all := sm2_le (m := w + 1) (n := h + 1) (f := fun x y => b2 ((plnC u H V).eh x y) + b2 ((plnC u H V).ev x y) + 2 * b2 ((plnC u H V).cr x y)) (g := fun x y => cn (fun s : Seg => (s.lo, s.y)) H x y + cn (fun s : Seg => (s.hi, s.y)) H x y + cn (fun b : Chd => b.1) V x y + cn (fun b : Chd => b.2) V x y) fun x y _ _ _ _ => ends_at hc x y
  rw [sm2_add, sm2_add, sm2_mul, sm2_add, sm2_add, sm2_add] at all
  have e1' : sm2 (w + 1) (h + 1) (fun x y => cn (fun s : Seg => (s.lo, s.y)) H x y) = H.length := e1
  have e2' : sm2 (w + 1) (h + 1) (fun x y => cn (fun s : Seg => (s.hi, s.y)) H x y) = H.length := e2
  have e3' : sm2 (w + 1) (h + 1) (fun x y => cn (fun b : Chd => b.1) V x y) = V.length := e3
  have e4' : sm2 (w + 1) (h + 1) (fun x y => cn (fun b : Chd => b.2) V x y) = V.length := e4
  rw [e1', e2', e3', e4'] at all
  rw [e1]
  exact all
/-- no division has fewer -/
theorem least_cut (hc : Cuts u H V) (hs : ∀ x y, u x y = true → 0 ≤ x ∧ x < w ∧ 0 ≤ y ∧ y < h) {l : List Bx} (hl : Dv u l) (hpl : plnOf u l = plnC u H V) {F S : List Chd} (hn : F.Nodup) (hF : ∀ c, c ∈ F ↔ isF u c) (hn' : S.Nodup) (hS : ∀ c, c ∈ S ↔ isS u c) {K : Nat}
    (hK : ∀ f g : Chd → Bool, (∀ a ∈ F, ∀ b ∈ S, f a = true → g b = true → meetC a b = false) → (F.filter f).length + (S.filter g).length ≤ K) (hlen : (H.length : Int) + V.length ≤ sm2 (w + 1) (h + 1) (fun x y => b2 (q3 u x y)) - K) :
    (∀ l', Dv u l' → l.length ≤ l'.length) ∧ 4 * (l.length : Int) = sm2 (w + 1) (h + 1) (chiU u) + 4 * (sm2 (w + 1) (h + 1) (fun x y => b2 (q3 u x y)) - K) := by
  have h1 := hl.four hs
  have h2 := upC hc hs
  rw [hpl] at h1
  have h3 := low (p := plnC u H V) (okC hc hs) hn hF hn' hS hK
  have eu : (plnC u H V).u = u := rfl
  rw [eu] at h3
  refine ⟨fun l' hl' => ?_, by omega⟩
  have k1 := hl'.four hs
  have k2 := low (p := plnOf u l') (hl'.pln hs) hn hF hn' hS hK
  have eu' : (plnOf u l').u = u := rfl
  rw [eu'] at k2
  omega
end

def upB (f : Nat → Bool) (j : Nat) : Nat → Bool := fun k => if k = j then true else f k
def upI (f : Nat → Int) (j : Nat) (v : Int) : Nat → Int := fun k => if k = j then v else f k
theorem upB_at (f : Nat → Bool) (j : Nat) : upB f j j = true := if_pos rfl
theorem upB_ne (f : Nat → Bool) {j k : Nat} (h : k ≠ j) : upB f j k = f k := if_neg h
theorem upB_mono (f : Nat → Bool) (j k : Nat) (h : f k = true) : upB f j k = true := by unfold upB; split <;> simp [h]
theorem upI_at (f : Nat → Int) (j : Nat) (v : Int) : upI f j v j = v := if_pos rfl
theorem upI_ne (f : Nat → Int) {j k : Nat} (v : Int) (h : k ≠ j) : upI f j v k = f k := if_neg h
/-- how many below n hold v -/
def cntI (f : Nat → Int) (v : Int) : Nat → Nat
  | 0 => 0
  | n + 1 => cntI f v n + if f n = v then 1 else 0
/-- how many below n are not marked -/
def unm (f : Nat → Bool) : Nat → Nat
  | 0 => 0
  | n + 1 => unm f n + if f n then 0 else 1
theorem unm_le {f g : Nat → Bool} (h : ∀ k, f k = true → g k = true) : ∀ n, unm g n ≤ unm f n
  | 0 => Nat.le_refl _
  | n + 1 => by
    have := unm_le h n
    have hn := h n
    simp only [unm]
    cases hf : f n <;> cases hg : g n <;> simp <;> first | omega | (rw [hf, hg] at hn; simp at hn)
theorem unm_up {f : Nat → Bool} {j : Nat} (hf : f j = false) : ∀ n, j < n → unm (upB f j) n + 1 = unm f n
  | 0, h => by omega
  | n + 1, h => by
    simp only [unm]
    by_cases hj : j = n
    · subst hj
      have e : ∀ m, m ≤ j → unm (upB f j) m = unm f m := fun m => by
        induction m with
        | zero => intro _; rfl
        | succ m ih => intro hm; simp only [unm]; rw [ih (by omega), upB_ne f (show m ≠ j by omega)]
      rw [e j (Nat.le_refl _), hf]; simp [upB]
    · have := unm_up hf n (by omega)
      rw [upB_ne f (show n ≠ j by omega)]; omega
theorem cntI_out {f : Nat → Int} {j : Nat} {v x : Int} : ∀ n, n ≤ j → cntI (upI f j x) v n = cntI f v n
  | 0, _ => rfl
  | n + 1, h => by simp only [cntI]; rw [cntI_out n (by omega), upI_ne f x (show n ≠ j by omega)]
theorem cntI_up {f : Nat → Int} {j : Nat} {v x : Int} : ∀ n, j < n → cntI (upI f j x) v n + (if f j = v then 1 else 0) = cntI f v n + (if x = v then 1 else 0)
  | 0, h => by omega
  | n + 1, h => by
    simp only [cntI]
    by_cases hj : j = n
    · subst hj
      rw [cntI_out j (Nat.le_refl _)]
      have e : upI f j x j = x := if_pos rfl
      rw [e]; omega
    · have := cntI_up (f := f) (j := j) (v := v) (x := x) n (by omega)
      have e : upI f j x n = f n := upI_ne f x (show n ≠ j by omega)
      rw [e]; omega
abbrev KuS := (Nat → Bool) × (Nat → Int)
/-- the loop over what stands opposite; fd finds another partner for one -/
def kuGo (adj : Nat → Nat → Bool) (fd : Nat → KuS → Bool × KuS) (i : Nat) : List Nat → KuS → Bool × KuS
  | [], st => (false, st)
  | j :: js, st =>
    if st.1 j || !adj i j then kuGo adj fd i js st
    else if st.2 j < 0 then (true, (upB st.1 j, upI st.2 j i))
    else match fd (st.2 j).toNat (upB st.1 j, st.2) with
      | (true, s2) => (true, (s2.1, upI s2.2 j i))
      | (false, s2) => kuGo adj fd i js s2
/-- a partner for i -/
def ku (adj : Nat → Nat → Bool) (n : Nat) : Nat → Nat → KuS → Bool × KuS
  | 0, _, st => (false, st)
  | f + 1, i, st => kuGo adj (ku adj n f) i (List.range n) st
section
variable {adj : Nat → Nat → Bool} {n : Nat}
/-- a set of those opposite in which all have partners that have no others opposite -/
def Clo (adj : Nat → Nat → Bool) (R : Nat → Prop) (m : Nat → Int) : Prop := ∀ j, R j → 0 ≤ m j ∧ ∀ k, adj (m j).toNat k = true → R k
/-- what one search does -/
structure KuR (adj : Nat → Nat → Bool) (n i : Nat) (st : KuS) (r : Bool × KuS) : Prop where
  mono : ∀ j, st.1 j = true → r.2.1 j = true
  keep : ∀ j, st.1 j = true → r.2.2 j = st.2 j
  no : r.1 = false → r.2.2 = st.2
  cnt : r.1 = true → (∀ v, 0 ≤ v → cntI r.2.2 v n = cntI st.2 v n + if v = (i : Int) then 1 else 0)
  adj_ : (∀ j, j < n → 0 ≤ st.2 j → adj (st.2 j).toNat j = true) → ∀ j, j < n → 0 ≤ r.2.2 j → adj (r.2.2 j).toNat j = true
  clo : r.1 = false → (∀ j, j < n → adj i j = true → r.2.1 j = true) ∧ ∀ j, r.2.1 j = true → st.1 j = true ∨ (j < n ∧ 0 ≤ st.2 j ∧ ∀ k, k < n → adj (st.2 j).toNat k = true → r.2.1 k = true)
  far : ∀ R : Nat → Prop, Clo adj R st.2 → (∀ j, R j → r.2.2 j = st.2 j) ∧ ((∀ k, adj i k = true → R k) → r.1 = false)
/-- the loop from some place on -/
structure KuL (adj : Nat → Nat → Bool) (n i : Nat) (js : List Nat) (st : KuS) (r : Bool × KuS) : Prop where
  mono : ∀ j, st.1 j = true → r.2.1 j = true
  keep : ∀ j, st.1 j = true → r.2.2 j = st.2 j
  no : r.1 = false → r.2.2 = st.2
  cnt : r.1 = true → (∀ v, 0 ≤ v → cntI r.2.2 v n = cntI st.2 v n + if v = (i : Int) then 1 else 0)
  adj_ : (∀ j, j < n → 0 ≤ st.2 j → adj (st.2 j).toNat j = true) → ∀ j, j < n → 0 ≤ r.2.2 j → adj (r.2.2 j).toNat j = true
  clo : r.1 = false → (∀ j, j ∈ js → adj i j = true → r.2.1 j = true) ∧ ∀ j, r.2.1 j = true → st.1 j = true ∨ (j < n ∧ 0 ≤ st.2 j ∧ ∀ k, k < n → adj (st.2 j).toNat k = true → r.2.1 k = true)
  far : ∀ R : Nat → Prop, Clo adj R st.2 → (∀ j, R j → r.2.2 j = st.2 j) ∧ ((∀ k, adj i k = true → R k) → r.1 = false)
theorem upB_inv {f : Nat → Bool} {j k : Nat} (h : upB f j k = true) : f k = true ∨ k = j := by
  unfold upB at h
  split at h
  · exact .inr (by assumption)
  · exact .inl h
theorem kuGo_ok {fd : Nat → KuS → Bool × KuS} {b : Nat} (hfd : ∀ m st, unm st.1 n < b → KuR adj n m st (fd m st)) (i : Nat) : ∀ (js : List Nat) (st : KuS), (∀ j ∈ js, j < n) → unm st.1 n ≤ b → KuL adj n i js st (kuGo adj fd i js st)
  | [], st, _, _ => ⟨fun _ h => h, fun _ _ => rfl, fun _ => rfl, (fun h => nomatch h), fun h => h, fun _ => ⟨(fun j h => nomatch h), fun j h => .inl h⟩, fun R _ => ⟨fun _ _ => rfl, fun _ => rfl⟩⟩
  | j :: js, st, hj, hb => by
    have hjn := hj j (by simp)
    have hjs := fun k hk => hj k (List.mem_cons_of_mem _ hk)
    rw [kuGo]
    by_cases hc : (st.1 j || !adj i j) = true
    · rw [if_pos hc]
      have ih := kuGo_ok hfd i js st hjs hb
      refine ⟨ih.mono, ih.keep, ih.no, ih.cnt, ih.adj_, fun hf => ⟨fun k hk ha => ?_, (ih.clo hf).2⟩, ih.far⟩
      rcases List.mem_cons.1 hk with rfl | hk
      · rw [ha] at hc
        exact ih.mono _ (by simpa using hc)
      · exact (ih.clo hf).1 k hk ha
    · rw [if_neg hc]
      have hc' : st.1 j = false ∧ adj i j = true := by
        cases h1 : st.1 j <;> cases h2 : adj i j <;> simp [h1, h2] at hc ⊢
      obtain ⟨hs, ha⟩ := hc'
      by_cases hm : st.2 j < 0
      · rw [if_pos hm]
        refine ⟨fun k hk => upB_mono _ _ _ hk, fun k hk => upI_ne _ _ (fun e => by subst e; rw [hs] at hk; cases hk), fun h => (by cases h), fun _ v hv => ?_, fun hA k hk h0 => ?_, fun h => (by cases h), fun R hR => ⟨fun k hk => upI_ne _ _ (fun e => by subst e; have := (hR k hk).1; omega), fun hN => ?_⟩⟩
        · have := cntI_up (f := st.2) (v := v) (x := (i : Int)) n hjn
          rw [if_neg (by omega)] at this
          show cntI (upI st.2 j i) v n = _
          by_cases e : v = (i : Int)
          · rw [if_pos e.symm] at this; rw [if_pos e]; omega
          · rw [if_neg (fun h => e h.symm)] at this; rw [if_neg e]; omega
        · show adj (upI st.2 j i k).toNat k = true
          have h0 : 0 ≤ upI st.2 j i k := h0
          by_cases e : k = j
          · subst e; rw [upI_at, Int.toNat_natCast]; exact ha
          · rw [upI_ne _ _ e] at h0 ⊢; exact hA k hk h0
        · have := (hR j (hN j ha)).1; omega
      · rw [if_neg hm]
        have hu := unm_up hs n hjn
        have r := hfd (st.2 j).toNat (upB st.1 j, st.2) (by show unm (upB st.1 j) n < b; omega)
        have rk := r.keep j (upB_at _ _)
        revert r rk
        generalize fd (st.2 j).toNat (upB st.1 j, st.2) = q
        obtain ⟨ok, s2⟩ := q
        intro r rk
        have rk : s2.2 j = st.2 j := rk
        cases ok with
        | true =>
          refine ⟨fun k hk => r.mono k (upB_mono _ _ _ hk), fun k hk => ?_, fun h => (by cases h), fun _ v hv => ?_, fun hA k hk h0 => ?_, fun h => (by cases h), fun R hR => ?_⟩
          · have e : k ≠ j := fun e => by subst e; rw [hs] at hk; cases hk
            exact (upI_ne _ _ e).trans (r.keep k (upB_mono _ _ _ hk))
          · have h1 := r.cnt rfl v hv
            have h2 := cntI_up (f := s2.2) (v := v) (x := (i : Int)) n hjn
            have h1 : cntI s2.2 v n = cntI st.2 v n + if v = ((st.2 j).toNat : Int) then 1 else 0 := h1
            rw [rk] at h2
            rw [show ((st.2 j).toNat : Int) = st.2 j by omega] at h1
            show cntI (upI s2.2 j i) v n = _
            have c1 : (if st.2 j = v then 1 else 0 : Nat) = if v = st.2 j then 1 else 0 := by
              by_cases e : v = st.2 j
              · rw [if_pos e, if_pos e.symm]
              · rw [if_neg e, if_neg fun h => e h.symm]
            have c2 : (if (i : Int) = v then 1 else 0 : Nat) = if v = (i : Int) then 1 else 0 := by
              by_cases e : v = (i : Int)
              · rw [if_pos e, if_pos e.symm]
              · rw [if_neg e, if_neg fun h => e h.symm]
            rw [c1, c2] at h2
            omega
          · show adj (upI s2.2 j i k).toNat k = true
            have h0 : 0 ≤ upI s2.2 j i k := h0
            by_cases e : k = j
            · subst e; rw [upI_at, Int.toNat_natCast]; exact ha
            · rw [upI_ne _ _ e] at h0 ⊢; exact r.adj_ hA k hk h0
          · obtain ⟨f1, f2⟩ := r.far R hR
            have hjR : ¬ R j := fun hj => by have := f2 (hR j hj).2; cases this
            exact ⟨fun k hk => (upI_ne _ _ (fun e => hjR (by rw [← e]; exact hk))).trans (f1 k hk), fun hN => (hjR (hN j ha)).elim⟩
        | false =>
          have r2 : s2.2 = st.2 := r.no rfl
          have hb2 : unm s2.1 n ≤ b := by
            have := unm_le (f := upB st.1 j) (g := s2.1) (fun k hk => r.mono k hk) n
            omega
          have ih := kuGo_ok hfd i js s2 hjs hb2
          obtain ⟨g1, g2⟩ := r.clo rfl
          refine ⟨fun k hk => ih.mono k (r.mono k (upB_mono _ _ _ hk)), fun k hk => ?_, fun hf => (ih.no hf).trans r2, fun ht v hv => ?_, fun hA => ih.adj_ (by rw [r2]; exact hA), fun hf => ?_, fun R hR => ?_⟩
          · rw [ih.keep k (r.mono k (upB_mono _ _ _ hk)), r2]
          · rw [ih.cnt ht v hv, r2]
          · obtain ⟨k1, k2⟩ := ih.clo hf
            refine ⟨fun k hk hak => ?_, fun k hk => ?_⟩
            · rcases List.mem_cons.1 hk with rfl | hk
              · exact ih.mono _ (r.mono _ (upB_at _ _))
              · exact k1 k hk hak
            · rcases k2 k hk with h | ⟨h1, h2, h3⟩
              · rcases g2 k h with h | ⟨h1, h2, h3⟩
                · rcases upB_inv h with h | rfl
                  · exact .inl h
                  · exact .inr ⟨hjn, by omega, fun k' hk' hak => ih.mono k' (g1 k' hk' hak)⟩
                · exact .inr ⟨h1, h2, fun k' hk' hak => ih.mono k' (h3 k' hk' hak)⟩
              · rw [r2] at h2 h3
                exact .inr ⟨h1, h2, h3⟩
          · have := ih.far R (by rw [r2]; exact hR)
            rw [r2] at this
            exact this
theorem ku_ok : ∀ (f i : Nat) (st : KuS), unm st.1 n < f → KuR adj n i st (ku adj n f i st)
  | 0, _, _, h => by omega
  | f + 1, i, st, h => by
    have r := kuGo_ok (adj := adj) (n := n) (fd := ku adj n f) (b := f) (fun m st hst => ku_ok f m st hst) i (List.range n) st (fun j hj => List.mem_range.1 hj) (by omega)
    exact ⟨r.mono, r.keep, r.no, r.cnt, r.adj_, fun hf => ⟨fun j hj => (r.clo hf).1 j (List.mem_range.2 hj), (r.clo hf).2⟩, r.far⟩
end

theorem unm_all : ∀ n, unm (fun _ => false) n = n
  | 0 => rfl
  | n + 1 => by simp only [unm]; rw [unm_all n]; rfl
theorem cntI_mem {f : Nat → Int} {v : Int} : ∀ n, cntI f v n ≠ 0 → ∃ j, j < n ∧ f j = v
  | 0, h => absurd rfl h
  | n + 1, h => by
    simp only [cntI] at h
    by_cases e : f n = v
    · exact ⟨n, by omega, e⟩
    · rw [if_neg e] at h
      obtain ⟨j, h1, h2⟩ := cntI_mem n (by omega)
      exact ⟨j, by omega, h2⟩
theorem cntI_pos {f : Nat → Int} {v : Int} {j : Nat} : ∀ n, j < n → f j = v → 1 ≤ cntI f v n
  | 0, h, _ => by omega
  | n + 1, h, e => by
    simp only [cntI]
    by_cases hj : j = n
    · subst hj; rw [if_pos e]; omega
    · have := cntI_pos n (show j < n by omega) e; omega
theorem cntI_inj {f : Nat → Int} {v : Int} : ∀ n, cntI f v n ≤ 1 → ∀ j k, j < n → k < n → f j = v → f k = v → j = k
  | 0, _, _, _, h, _, _, _ => by omega
  | n + 1, h, j, k, hj, hk, ej, ek => by
    simp only [cntI] at h
    by_cases e1 : j = n <;> by_cases e2 : k = n
    · omega
    · subst e1
      rw [if_pos ej] at h
      have := cntI_pos j (show k < j by omega) ek; omega
    · subst e2
      rw [if_pos ek] at h
      have := cntI_pos k (show j < k by omega) ej; omega
    · exact cntI_inj n (by omega) j k (by omega) (by omega) ej ek
section
variable {adj : Nat → Nat → Bool} {n : Nat}
/-- the partners after the first k searches -/
def kuAll (adj : Nat → Nat → Bool) (n : Nat) : Nat → Nat → Int
  | 0 => fun _ => -1
  | k + 1 => (ku adj n (n + 1) k (fun _ => false, kuAll adj n k)).2.2
structure KuA (adj : Nat → Nat → Bool) (n k : Nat) (m : Nat → Int) : Prop where
  adj_ : ∀ j, j < n → 0 ≤ m j → adj (m j).toNat j = true
  one : ∀ v, 0 ≤ v → cntI m v n ≤ 1
  out : ∀ v : Int, (k : Int) ≤ v → cntI m v n = 0
  clo : ∀ i : Nat, i < k → cntI m (i : Int) n = 0 → ∃ R, Clo adj R m ∧ ∀ j, adj i j = true → R j
theorem cntI_neg : ∀ n {v : Int}, 0 ≤ v → cntI (fun _ => -1) v n = 0
  | 0, _, _ => rfl
  | n + 1, v, h => by simp only [cntI]; rw [cntI_neg n h, if_neg (by omega)]
theorem kuA_all (ha : ∀ i j, adj i j = true → j < n) : ∀ k, KuA adj n k (kuAll adj n k)
  | 0 => ⟨fun j _ h => absurd (show (0 : Int) ≤ -1 from h) (by omega), fun v h => by rw [show kuAll adj n 0 = fun _ => -1 from rfl, cntI_neg n h]; omega, fun v h => cntI_neg n (by omega), fun i h => by omega⟩
  | k + 1 => by
    have ih := kuA_all ha k
    have r := ku_ok (adj := adj) (n := n) (n + 1) k (fun _ => false, kuAll adj n k) (by show unm (fun _ => false) n < n + 1; rw [unm_all]; omega)
    show KuA adj n (k + 1) (ku adj n (n + 1) k (fun _ => false, kuAll adj n k)).2.2
    revert r
    generalize ku adj n (n + 1) k (fun _ => false, kuAll adj n k) = q
    generalize kuAll adj n k = m at ih
    obtain ⟨ok, sn, m'⟩ := q
    intro r
    show KuA adj n (k + 1) m'
    cases ok with
    | true =>
      have hc : ∀ v, 0 ≤ v → cntI m' v n = cntI m v n + if v = (k : Int) then 1 else 0 := r.cnt rfl
      refine ⟨r.adj_ ih.adj_, fun v hv => ?_, fun v hv => ?_, fun i hi h0 => ?_⟩
      · rw [hc v hv]
        by_cases e : v = (k : Int)
        · rw [if_pos e, ih.out v (by omega)]; omega
        · rw [if_neg e]; exact ih.one v hv
      · rw [hc v (by omega), if_neg (by omega), ih.out v (by omega)]
      · rw [hc i (by omega)] at h0
        by_cases e : (i : Int) = k
        · rw [if_pos e] at h0; omega
        · rw [if_neg e] at h0
          obtain ⟨R, h1, h2⟩ := ih.clo i (by omega) h0
          have hk : ∀ j, R j → m' j = m j := (r.far R h1).1
          exact ⟨R, fun j hj => by rw [hk j hj]; exact h1 j hj, h2⟩
    | false =>
      have hm : m' = m := r.no rfl
      subst hm
      refine ⟨ih.adj_, ih.one, fun v hv => ih.out v (by omega), fun i hi h0 => ?_⟩
      by_cases e : i = k
      · subst e
        obtain ⟨c1, c2⟩ := r.clo rfl
        refine ⟨fun j => sn j = true, fun j hj => ?_, fun j hj => c1 j (ha _ _ hj) hj⟩
        rcases c2 j hj with h | ⟨h1, h2, h3⟩
        · cases h
        · exact ⟨h2, fun k' hk' => h3 k' (ha _ _ hk') hk'⟩
      · exact ih.clo i (by omega) h0
abbrev RcS := (Nat → Bool) × (Nat → Bool)
/-- the loop of reach: what is in, what is seen -/
def rcGo (adj : Nat → Nat → Bool) (m : Nat → Int) (rc : Nat → RcS → RcS) (i : Nat) : List Nat → RcS → RcS
  | [], s => s
  | j :: js, s => if !s.2 j && adj i j then (if 0 ≤ m j then rcGo adj m rc i js (rc (m j).toNat (s.1, upB s.2 j)) else rcGo adj m rc i js (s.1, upB s.2 j)) else rcGo adj m rc i js s
def rc (adj : Nat → Nat → Bool) (n : Nat) (m : Nat → Int) : Nat → Nat → RcS → RcS
  | 0, _, s => s
  | f + 1, i, s => if s.1 i then s else rcGo adj m (rc adj n m f) i (List.range n) (upB s.1 i, s.2)
structure RcR (adj : Nat → Nat → Bool) (n : Nat) (m : Nat → Int) (i : Nat) (P : Nat → Prop) (s r : RcS) : Prop where
  mi : ∀ x, s.1 x = true → r.1 x = true
  ms : ∀ x, s.2 x = true → r.2 x = true
  opp : ∀ j, P j → adj i j = true → r.2 j = true
  c1 : ∀ x, r.1 x = true → s.1 x = true ∨ ∀ k, k < n → adj x k = true → r.2 k = true
  c2 : ∀ j, r.2 j = true → s.2 j = true ∨ (0 ≤ m j → r.1 (m j).toNat = true)
  far : ∀ R, Clo adj R m → (∀ k, adj i k = true → R k) → ∀ j, r.2 j = true → s.2 j = true ∨ R j
variable {m : Nat → Int}
theorem rcGo_ok {rcf : Nat → RcS → RcS} {b : Nat} (hf : ∀ x s, unm s.2 n < b → RcR adj n m x (fun _ => False) s (rcf x s) ∧ (rcf x s).1 x = true) (i : Nat) : ∀ (js : List Nat) (s : RcS), (∀ j ∈ js, j < n) → unm s.2 n ≤ b → RcR adj n m i (· ∈ js) s (rcGo adj m rcf i js s)
  | [], s, _, _ => ⟨fun _ h => h, fun _ h => h, (fun j h => nomatch h), fun _ h => .inl h, fun _ h => .inl h, fun _ _ _ _ h => .inl h⟩
  | j :: js, s, hj, hb => by
    have hjn := hj j (by simp)
    have hjs := fun k hk => hj k (List.mem_cons_of_mem _ hk)
    rw [rcGo]
    by_cases hc : (!s.2 j && adj i j) = true
    · rw [if_pos hc]
      have hs : s.2 j = false := by cases h : s.2 j <;> simp [h] at hc ⊢
      have ha : adj i j = true := by cases h : adj i j <;> simp [h] at hc ⊢
      have hu := unm_up hs n hjn
      by_cases hm : 0 ≤ m j
      · rw [if_pos hm]
        obtain ⟨r, rx⟩ := hf (m j).toNat (s.1, upB s.2 j) (by show unm (upB s.2 j) n < b; omega)
        revert r rx
        generalize rcf (m j).toNat (s.1, upB s.2 j) = q
        intro r rx
        have hq : unm q.2 n ≤ unm (upB s.2 j) n := unm_le (fun k hk => r.ms k hk) n
        have ih := rcGo_ok hf i js q hjs (by omega)
        refine ⟨fun x hx => ih.mi x (r.mi x hx), fun x hx => ih.ms x (r.ms x (upB_mono _ _ _ hx)), fun k hk hak => ?_, fun x hx => ?_, fun k hk => ?_, fun R hR hN k hk => ?_⟩
        · rcases List.mem_cons.1 hk with rfl | hk
          · exact ih.ms _ (r.ms _ (upB_at _ _))
          · exact ih.opp k hk hak
        · rcases ih.c1 x hx with h | h
          · rcases r.c1 x h with h | h
            · exact .inl h
            · exact .inr fun k hk hak => ih.ms k (h k hk hak)
          · exact .inr h
        · rcases ih.c2 k hk with h | h
          · rcases r.c2 k h with h | h
            · rcases upB_inv h with h | rfl
              · exact .inl h
              · exact .inr fun _ => ih.mi _ rx
            · exact .inr fun h0 => ih.mi _ (h h0)
          · exact .inr h
        · rcases ih.far R hR hN k hk with h | h
          · rcases r.far R hR (hR j (hN j ha)).2 k h with h | h
            · rcases upB_inv h with h | rfl
              · exact .inl h
              · exact .inr (hN _ ha)
            · exact .inr h
          · exact .inr h
      · rw [if_neg hm]
        have ih := rcGo_ok hf i js (s.1, upB s.2 j) hjs (by show unm (upB s.2 j) n ≤ b; omega)
        refine ⟨fun x hx => ih.mi x hx, fun x hx => ih.ms x (upB_mono _ _ _ hx), fun k hk hak => ?_, ih.c1, fun k hk => ?_, fun R hR hN k hk => ?_⟩
        · rcases List.mem_cons.1 hk with rfl | hk
          · exact ih.ms _ (upB_at _ _)
          · exact ih.opp k hk hak
        · rcases ih.c2 k hk with h | h
          · rcases upB_inv h with h | rfl
            · exact .inl h
            · exact .inr fun h0 => absurd h0 hm
          · exact .inr h
        · rcases ih.far R hR hN k hk with h | h
          · rcases upB_inv h with h | rfl
            · exact .inl h
            · exact .inr (hN _ ha)
          · exact .inr h
    · rw [if_neg hc]
      have ih := rcGo_ok hf i js s hjs hb
      refine ⟨ih.mi, ih.ms, fun k hk hak => ?_, ih.c1, ih.c2, ih.far⟩
      rcases List.mem_cons.1 hk with rfl | hk
      · rw [hak] at hc
        exact ih.ms _ (by simpa using hc)
      · exact ih.opp k hk hak
theorem rc_ok : ∀ (f i : Nat) (s : RcS), unm s.2 n < f → RcR adj n m i (fun _ => False) s (rc adj n m f i s) ∧ (rc adj n m f i s).1 i = true
  | 0, _, _, h => by omega
  | f + 1, i, s, h => by
    rw [rc]
    by_cases hi : s.1 i = true
    · rw [if_pos hi]
      exact ⟨⟨fun _ h => h, fun _ h => h, fun j h => h.elim, fun _ h => .inl h, fun _ h => .inl h, fun _ _ _ _ h => .inl h⟩, hi⟩
    · rw [if_neg hi]
      have r := rcGo_ok (adj := adj) (n := n) (m := m) (rcf := rc adj n m f) (b := f) (fun x s hs => rc_ok f x s hs) i (List.range n) (upB s.1 i, s.2) (fun j hj => List.mem_range.1 hj) (by show unm s.2 n ≤ f; omega)
      refine ⟨⟨fun x hx => r.mi x (upB_mono _ _ _ hx), r.ms, fun j h => h.elim, fun x hx => ?_, r.c2, r.far⟩, r.mi i (upB_at _ _)⟩
      rcases r.c1 x hx with h | h
      · rcases upB_inv h with h | rfl
        · exact .inl h
        · exact .inr fun k hk hak => r.opp k (List.mem_range.2 hk) hak
      · exact .inr h
/-- reach from each of a list -/
def rcAll (adj : Nat → Nat → Bool) (n : Nat) (m : Nat → Int) (l : List Nat) : RcS := l.foldl (fun s i => rc adj n m (n + 1) i s) (fun _ => false, fun _ => false)
structure RcA (adj : Nat → Nat → Bool) (n : Nat) (m : Nat → Int) (s : RcS) : Prop where
  c1 : ∀ x, s.1 x = true → ∀ k, k < n → adj x k = true → s.2 k = true
  c2 : ∀ j, s.2 j = true → 0 ≤ m j ∧ s.1 (m j).toNat = true
theorem unm_n (f : Nat → Bool) : ∀ n, unm f n ≤ n
  | 0 => Nat.le_refl _
  | n + 1 => by have := unm_n f n; simp only [unm]; split <;> omega
theorem rcAll_ok : ∀ (l : List Nat) (s : RcS), (∀ i ∈ l, ∃ R, Clo adj R m ∧ ∀ j, adj i j = true → R j) → RcA adj n m s → RcA adj n m (l.foldl (fun s i => rc adj n m (n + 1) i s) s) ∧ (∀ x, s.1 x = true → (l.foldl (fun s i => rc adj n m (n + 1) i s) s).1 x = true) ∧ ∀ i ∈ l, (l.foldl (fun s i => rc adj n m (n + 1) i s) s).1 i = true
  | [], s, _, h => ⟨h, fun _ h => h, (fun i h => nomatch h)⟩
  | i :: l, s, hl, h => by
    obtain ⟨r, ri⟩ := rc_ok (adj := adj) (n := n) (m := m) (n + 1) i s (by have := unm_n s.2 n; omega)
    obtain ⟨R, hR, hN⟩ := hl i (by simp)
    rw [List.foldl_cons]
    have h' : RcA adj n m (rc adj n m (n + 1) i s) := by
      refine ⟨fun x hx k hk hak => ?_, fun j hj => ?_⟩
      · rcases r.c1 x hx with h1 | h1
        · exact r.ms k (h.c1 x h1 k hk hak)
        · exact h1 k hk hak
      · have h0 : 0 ≤ m j := by
          rcases r.far R hR hN j hj with h1 | h1
          · exact (h.c2 j h1).1
          · exact (hR j h1).1
        rcases r.c2 j hj with h1 | h1
        · exact ⟨h0, r.mi _ (h.c2 j h1).2⟩
        · exact ⟨h0, h1 h0⟩
    obtain ⟨g1, g2, g3⟩ := rcAll_ok l _ (fun k hk => hl k (by simp [hk])) h'
    refine ⟨g1, fun x hx => g2 x (r.mi x hx), fun k hk => ?_⟩
    rcases List.mem_cons.1 hk with rfl | hk
    · exact g2 _ ri
    · exact g3 k hk
end

def ctb (f : Nat → Bool) (n : Nat) : Nat := ((List.range n).filter f).length
theorem nodup_map_on {α β : Type} {h : α → β} : ∀ {l : List α}, l.Nodup → (∀ a ∈ l, ∀ b ∈ l, h a = h b → a = b) → (l.map h).Nodup
  | [], _, _ => List.nodup_nil
  | a :: l, hn, hi => by
    obtain ⟨h1, h2⟩ := List.nodup_cons.1 hn
    rw [List.map_cons, List.nodup_cons]
    refine ⟨fun hm => ?_, nodup_map_on h2 fun b hb c hc => hi b (by simp [hb]) c (by simp [hc])⟩
    obtain ⟨b, hb, e⟩ := List.mem_map.1 hm
    exact h1 (by rw [hi a (by simp) b (by simp [hb]) e.symm]; exact hb)
section
variable {adj : Nat → Nat → Bool} {nF n : Nat}
def kuM (adj : Nat → Nat → Bool) (nF n : Nat) : Nat → Int := kuAll adj n nF
/-- those without a partner -/
def kuR (adj : Nat → Nat → Bool) (nF n : Nat) : List Nat := (List.range nF).filter fun i : Nat => decide (cntI (kuM adj nF n) (i : Int) n = 0)
def kuZ (adj : Nat → Nat → Bool) (nF n : Nat) : RcS := rcAll adj n (kuM adj nF n) (kuR adj nF n)
theorem kuZ_ok (ha : ∀ i j, adj i j = true → i < nF ∧ j < n) : RcA adj n (kuM adj nF n) (kuZ adj nF n) ∧ ∀ i, i < nF → cntI (kuM adj nF n) (i : Int) n = 0 → (kuZ adj nF n).1 i = true := by
  have h0 := kuA_all (adj := adj) (n := n) (fun i j h => (ha i j h).2) nF
  obtain ⟨h1, _, h3⟩ := rcAll_ok (adj := adj) (n := n) (m := kuM adj nF n) (kuR adj nF n) (fun _ => false, fun _ => false) (fun i hi => by
    obtain ⟨k1, k2⟩ := List.mem_filter.1 hi
    exact h0.clo i (List.mem_range.1 k1) (of_decide_eq_true k2)) ⟨(fun x h => nomatch h), (fun j h => nomatch h)⟩
  exact ⟨h1, fun i hi hc => h3 i (List.mem_filter.2 ⟨List.mem_range.2 hi, decide_eq_true hc⟩)⟩
theorem koenig (ha : ∀ i j, adj i j = true → i < nF ∧ j < n) {f g : Nat → Bool} (hfg : ∀ i j, f i = true → g j = true → adj i j = false) :
    ctb f nF + ctb g n ≤ ctb (kuZ adj nF n).1 nF + ctb (fun j => !(kuZ adj nF n).2 j) n := by
  have h0 : KuA adj n nF (kuM adj nF n) := kuA_all (adj := adj) (n := n) (fun i j h => (ha i j h).2) nF
  obtain ⟨hz, hr⟩ := kuZ_ok ha
  revert h0 hz hr
  generalize kuM adj nF n = m
  generalize kuZ adj nF n = s
  intro h0 hz hr
  have l1 : ((List.range nF).filter fun i => f i && !s.1 i).length ≤ ((List.range n).filter fun j => !s.2 j && !g j).length := by
    refine Nat.le_trans (nodup_len _ (List.map (fun j => (m j).toNat) ((List.range n).filter fun j => !s.2 j && !g j)) (List.nodup_range.filter _) fun i hi => ?_) (Nat.le_of_eq (List.length_map _))
    obtain ⟨k1, k2⟩ := List.mem_filter.1 hi
    rw [List.mem_range] at k1
    simp only [Bool.and_eq_true, Bool.not_eq_true'] at k2
    have hne : cntI m (i : Int) n ≠ 0 := fun e => by rw [hr i k1 e] at k2; cases k2.2
    obtain ⟨j, hj, e⟩ := cntI_mem n hne
    have haj : adj i j = true := by
      have := h0.adj_ j hj (by omega)
      rw [e, Int.toNat_natCast] at this; exact this
    refine List.mem_map.2 ⟨j, List.mem_filter.2 ⟨List.mem_range.2 hj, ?_⟩, by rw [e, Int.toNat_natCast]⟩
    simp only [Bool.and_eq_true, Bool.not_eq_true']
    refine ⟨?_, ?_⟩
    · cases hs : s.2 j with
      | false => rfl
      | true =>
        have := (hz.c2 j hs).2
        rw [e, Int.toNat_natCast, k2.2] at this; cases this
    · cases hg : g j with
      | false => rfl
      | true => rw [hfg i j k2.1 hg] at haj; cases haj
  have l2 : ((List.range n).filter fun j => g j && s.2 j).length ≤ ((List.range nF).filter fun i => s.1 i && !f i).length := by
    refine Nat.le_trans (Nat.le_of_eq (List.length_map fun j => (m j).toNat).symm) (nodup_len _ _ (nodup_map_on (List.nodup_range.filter _) fun a hka b hkb e => ?_) fun i hi => ?_)
    · obtain ⟨a1, a2⟩ := List.mem_filter.1 hka
      obtain ⟨b1, b2'⟩ := List.mem_filter.1 hkb
      rw [List.mem_range] at a1 b1
      simp only [Bool.and_eq_true] at a2 b2'
      have ea := (hz.c2 a a2.2).1
      have eb := (hz.c2 b b2'.2).1
      exact cntI_inj n (h0.one (m a) ea) a b a1 b1 rfl (by have e : (m a).toNat = (m b).toNat := e; omega)
    · obtain ⟨j, hj, e⟩ := List.mem_map.1 hi
      obtain ⟨j1, j2⟩ := List.mem_filter.1 hj
      rw [List.mem_range] at j1
      simp only [Bool.and_eq_true] at j2
      obtain ⟨c1, c2⟩ := hz.c2 j j2.2
      have haj := h0.adj_ j j1 c1
      have e : (m j).toNat = i := e
      rw [e] at haj c2
      refine List.mem_filter.2 ⟨List.mem_range.2 (ha i j haj).1, ?_⟩
      simp only [Bool.and_eq_true, Bool.not_eq_true']
      refine ⟨c2, ?_⟩
      cases hf : f i with
      | false => rfl
      | true => rw [hfg i j hf j2.1] at haj; cases haj
  have s1 := filter_two f s.1 (List.range nF)
  have s2 := filter_two s.1 f (List.range nF)
  have s3 := filter_two g s.2 (List.range n)
  have s4 := filter_two (fun j => !s.2 j) g (List.range n)
  have c1 : ((List.range nF).filter fun i => f i && s.1 i) = ((List.range nF).filter fun i => s.1 i && f i) := List.filter_congr fun i _ => Bool.and_comm _ _
  have c2 : ((List.range n).filter fun i => g i && !s.2 i) = ((List.range n).filter fun i => !s.2 i && g i) := List.filter_congr fun i _ => Bool.and_comm _ _
  rw [c1] at s1
  rw [c2] at s3
  unfold ctb
  omega
end
def atB (l : List Chd) (f : Chd → Bool) (i : Nat) : Bool := match l[i]? with | some a => f a | none => false
theorem filter_ctb (f : Chd → Bool) : ∀ l : List Chd, (l.filter f).length = ctb (atB l f) l.length
  | [] => rfl
  | a :: l => by
    have ih := filter_ctb f l
    unfold ctb at ih ⊢
    rw [List.length_cons, List.range_succ_eq_map, List.filter_cons, List.filter_cons, List.filter_map, atB]
    have e : (atB (a :: l) f ∘ Nat.succ) = atB l f := by funext i; rfl
    rw [e]
    show _ = (if f a = true then 0 :: _ else _).length
    cases f a <;> simp [ih]
def adjC (F S : List Chd) (i j : Nat) : Bool := match F[i]?, S[j]? with | some a, some b => meetC a b | _, _ => false
theorem adjC_in {F S : List Chd} (i j : Nat) (h : adjC F S i j = true) : i < F.length ∧ j < S.length := by
  unfold adjC at h
  cases hf : F[i]? with
  | none => rw [hf] at h; simp at h
  | some a =>
    cases hs : S[j]? with
    | none => rw [hf, hs] at h; simp at h
    | some b => exact ⟨(List.getElem?_eq_some_iff.1 hf).1, (List.getElem?_eq_some_iff.1 hs).1⟩
/-- what is taken: flat ones that are in, steep ones not seen -/
def kuK (F S : List Chd) : Nat := ctb (kuZ (adjC F S) F.length S.length).1 F.length + ctb (fun j => !(kuZ (adjC F S) F.length S.length).2 j) S.length
theorem kuK_most (F S : List Chd) (f g : Chd → Bool) (h : ∀ a ∈ F, ∀ b ∈ S, f a = true → g b = true → meetC a b = false) : (F.filter f).length + (S.filter g).length ≤ kuK F S := by
  rw [filter_ctb, filter_ctb]
  refine koenig adjC_in fun i j hi hj => ?_
  unfold atB at hi hj
  unfold adjC
  cases hf : F[i]? with
  | none => rfl
  | some a =>
    cases hs : S[j]? with
    | none => rfl
    | some b =>
      rw [hf] at hi
      rw [hs] at hj
      exact h a (List.mem_of_getElem? hf) b (List.mem_of_getElem? hs) hi hj

/-- those whose number is marked -/
def pk {α : Type} (f : Nat → Bool) : List α → Nat → List α
  | [], _ => []
  | a :: l, k => if f k then a :: pk f l (k + 1) else pk f l (k + 1)
theorem mem_pk {α : Type} {f : Nat → Bool} : ∀ {l : List α} {k : Nat} {a : α}, a ∈ pk f l k → ∃ i, l[i]? = some a ∧ f (k + i) = true
  | [], _, _, h => nomatch h
  | b :: l, k, a, h => by
    have tl : a ∈ pk f l (k + 1) → ∃ i, (b :: l)[i]? = some a ∧ f (k + i) = true := fun h => by
      obtain ⟨i, h1, h2⟩ := mem_pk h
      exact ⟨i + 1, by simpa using h1, by rw [show k + (i + 1) = k + 1 + i by omega]; exact h2⟩
    unfold pk at h
    split at h
    · rename_i hk
      rcases List.mem_cons.1 h with rfl | h
      · exact ⟨0, rfl, hk⟩
      · exact tl h
    · exact tl h
theorem sub_pk {α : Type} (f : Nat → Bool) : ∀ (l : List α) (k : Nat), (pk f l k).Sublist l
  | [], _ => List.Sublist.refl _
  | b :: l, k => by
    unfold pk
    split
    · exact (sub_pk f l (k + 1)).cons_cons b
    · exact (sub_pk f l (k + 1)).cons b
theorem ctb_succ (f : Nat → Bool) (n : Nat) : ctb f (n + 1) = (if f 0 then 1 else 0) + ctb (fun i => f (i + 1)) n := by
  unfold ctb
  rw [List.range_succ_eq_map, List.filter_cons, List.filter_map]
  have e : (f ∘ Nat.succ) = fun i => f (i + 1) := rfl
  rw [e]
  cases f 0 <;> simp <;> omega
theorem len_pk {α : Type} (f : Nat → Bool) : ∀ (l : List α) (k : Nat), (pk f l k).length = ctb (fun i => f (k + i)) l.length
  | [], _ => rfl
  | b :: l, k => by
    have ih := len_pk f l (k + 1)
    rw [List.length_cons, ctb_succ, pk]
    have e : (fun i => f (k + (i + 1))) = fun i => f (k + 1 + i) := by funext i; rw [show k + (i + 1) = k + 1 + i by omega]
    rw [e, ← ih]
    by_cases h : f k = true
    · rw [if_pos h, if_pos (by simpa using h), List.length_cons]; omega
    · rw [if_neg h, if_neg (by simpa using h)]; omega
def takF (F S : List Chd) : List Chd := pk (kuZ (adjC F S) F.length S.length).1 F 0
def takS (F S : List Chd) : List Chd := pk (fun j => !(kuZ (adjC F S) F.length S.length).2 j) S 0
theorem tak_len (F S : List Chd) : (takF F S).length + (takS F S).length = kuK F S := by
  unfold takF takS kuK
  rw [len_pk, len_pk]
  simp only [Nat.zero_add]
theorem tak_free {F S : List Chd} {a b : Chd} (ha : a ∈ takF F S) (hb : b ∈ takS F S) : meetC a b = false := by
  obtain ⟨i, h1, h2⟩ := mem_pk ha
  obtain ⟨j, h3, h4⟩ := mem_pk hb
  rw [Nat.zero_add] at h2 h4
  obtain ⟨hz, _⟩ := kuZ_ok (adj := adjC F S) (nF := F.length) (n := S.length) adjC_in
  cases hm : meetC a b with
  | false => rfl
  | true =>
    have hadj : adjC F S i j = true := by unfold adjC; rw [h1, h3]; exact hm
    have := hz.c1 i h2 j (List.getElem?_eq_some_iff.1 h3).1 hadj
    rw [this] at h4; cases h4
def endsL (L : List Chd) : List Cel := L.map (·.1) ++ L.map (·.2)
def segF (a : Chd) : Seg := ⟨a.1.1, a.2.1, a.1.2⟩
/-- the flat way from a corner, as far as it goes: its end -/
def Way (u : Int → Int → Bool) (c : Cel) (t : Int) : Prop := (fl u c.1 c.2 = true ∧ c.1 < t ∧ (∀ x, c.1 ≤ x → x < t → fl u x c.2 = true) ∧ fl u t c.2 = false) ∨ (fl u c.1 c.2 = false ∧ t < c.1 ∧ (∀ x, t ≤ x → x < c.1 → fl u x c.2 = true) ∧ fl u (t - 1) c.2 = false)
/-- where it stops: at the first steep wall -/
def Stp (V : List Chd) (c : Cel) (t r : Int) : Prop := (r = t ∨ tchV V r c.2) ∧ ((c.1 < t ∧ c.1 < r ∧ r ≤ t ∧ ∀ x, c.1 < x → x < r → ¬ tchV V x c.2) ∨ (t < c.1 ∧ t ≤ r ∧ r < c.1 ∧ ∀ x, r < x → x < c.1 → ¬ tchV V x c.2))
def rayS (c : Cel) (r : Int) : Seg := if c.1 < r then ⟨c.1, r, c.2⟩ else ⟨r, c.1, c.2⟩
def dnC (F S : List Chd) (c : Cel) : Bool := decide (c ∈ endsL (takF F S) ∨ c ∈ endsL (takS F S))
def cutH (F S : List Chd) (C : List Cel) (r : Cel → Int) : List Seg := (takF F S).map segF ++ (C.filter fun c => !dnC F S c).map fun c => rayS c (r c)
section
variable {u : Int → Int → Bool} {F S : List Chd} {C : List Cel} {t r : Cel → Int} {w h : Nat}
theorem cuts_ok (hF : ∀ c, c ∈ F → isF u c) (hS : ∀ c, c ∈ S → isS u c) (hC : ∀ c, c ∈ C ↔ q3 u c.1 c.2 = true) (ht : ∀ c ∈ C, Way u c (t c)) (hr : ∀ c ∈ C, Stp (takS F S) c (t c) (r c)) : Cuts u (cutH F S C r) (takS F S) := by
  have tF : ∀ a ∈ takF F S, isF u a := fun a ha => hF a ((sub_pk _ F 0).subset ha)
  have tS : ∀ a ∈ takS F S, isS u a := fun a ha => hS a ((sub_pk _ S 0).subset ha)
  have noF : ∀ a ∈ takF F S, ∀ x, a.1.1 ≤ x → x ≤ a.2.1 → ¬ tchV (takS F S) x a.1.2 := fun a ha x h1 h2 ⟨b, hb, h3, h4, h5⟩ => by
    have hm : meetC a b = true := decide_eq_true ⟨by omega, by omega, h4, h5⟩
    rw [tak_free ha hb] at hm; cases hm
  have cs : ∀ s ∈ cutH F S C r, (∃ a ∈ takF F S, s = segF a) ∨ ∃ c ∈ C, s = rayS c (r c) := fun s hs => by
    rcases List.mem_append.1 hs with hs | hs
    · obtain ⟨a, ha, e⟩ := List.mem_map.1 hs
      exact .inl ⟨a, ha, e.symm⟩
    · obtain ⟨c, hc, e⟩ := List.mem_map.1 hs
      exact .inr ⟨c, (List.mem_filter.1 hc).1, e.symm⟩
  have ray : ∀ c ∈ C, ∀ P : Seg → Prop, (c.1 < t c → c.1 < r c → r c ≤ t c → fl u c.1 c.2 = true → (∀ x, c.1 ≤ x → x < t c → fl u x c.2 = true) → fl u (t c) c.2 = false → (∀ x, c.1 < x → x < r c → ¬ tchV (takS F S) x c.2) → P ⟨c.1, r c, c.2⟩) →
      (t c < c.1 → t c ≤ r c → r c < c.1 → fl u c.1 c.2 = false → (∀ x, t c ≤ x → x < c.1 → fl u x c.2 = true) → fl u (t c - 1) c.2 = false → (∀ x, r c < x → x < c.1 → ¬ tchV (takS F S) x c.2) → P ⟨r c, c.1, c.2⟩) → P (rayS c (r c)) := by
    intro c hc P h1 h2
    obtain ⟨_, hs⟩ := hr c hc
    unfold rayS
    rcases ht c hc with ⟨k1, k2, k3, k4⟩ | ⟨k1, k2, k3, k4⟩ <;> rcases hs with ⟨j1, j2, j3, j4⟩ | ⟨j1, j2, j3, j4⟩
    · rw [if_pos j2]; exact h1 j1 j2 j3 k1 k3 k4 j4
    · omega
    · omega
    · rw [if_neg (by omega)]; exact h2 j1 j2 j3 k1 k3 k4 j4
  refine ⟨fun s hs => ?_, tS, fun s hs => ?_, fun s hs => ?_, fun s hs => ?_, fun x y hq => ?_⟩
  · rcases cs s hs with ⟨a, ha, rfl⟩ | ⟨c, hc, rfl⟩
    · obtain ⟨a1, a2, a3, a4, a5⟩ := tF a ha
      exact ⟨a2, a5⟩
    · exact ray c hc (fun s => s.lo < s.hi ∧ ∀ x, s.lo ≤ x → x < s.hi → fl u x s.y = true) (fun _ h2 h3 _ h5 _ _ => ⟨h2, fun x k1 k2 => h5 x k1 (Int.lt_of_lt_of_le k2 h3)⟩) (fun _ h2 h3 _ h5 _ _ => ⟨h3, fun x k1 k2 => h5 x (Int.le_trans h2 k1) k2⟩)
  · rcases cs s hs with ⟨a, ha, rfl⟩ | ⟨c, hc, rfl⟩
    · intro x h1 h2
      exact noF a ha x (Int.le_of_lt h1) (Int.le_of_lt h2)
    · exact ray c hc (fun s => ∀ x, s.lo < x → x < s.hi → ¬ tchV (takS F S) x s.y) (fun _ _ _ _ _ _ h7 => h7) (fun _ _ _ _ _ _ h7 => h7)
  · rcases cs s hs with ⟨a, ha, rfl⟩ | ⟨c, hc, rfl⟩
    · obtain ⟨a1, a2, a3, a4, a5⟩ := tF a ha
      refine .inl ?_
      show fl u (a.1.1 - 1) a.1.2 = false
      rw [q3_fl a3, a5 _ (Int.le_refl _) a2]; rfl
    · refine ray c hc (fun s => fl u (s.lo - 1) s.y = false ∨ tchV (takS F S) s.lo s.y) (fun _ _ _ h4 _ _ _ => .inl ?_) (fun _ _ _ _ _ h6 _ => ?_)
      · show fl u (c.1 - 1) c.2 = false
        rw [q3_fl ((hC c).1 hc), h4]; rfl
      · rcases (hr c hc).1 with e | e
        · exact .inl (by show fl u (r c - 1) c.2 = false; rw [e]; exact h6)
        · exact .inr e
  · rcases cs s hs with ⟨a, ha, rfl⟩ | ⟨c, hc, rfl⟩
    · obtain ⟨a1, a2, a3, a4, a5⟩ := tF a ha
      refine .inl ?_
      show fl u a.2.1 a.1.2 = false
      have := q3_fl a4
      rw [← a1, a5 _ (by omega) (by omega)] at this
      cases hh : fl u a.2.1 a.1.2 with
      | false => rfl
      | true => rw [hh] at this; cases this
    · refine ray c hc (fun s => fl u s.hi s.y = false ∨ tchV (takS F S) s.hi s.y) (fun _ _ _ _ _ h6 _ => ?_) (fun _ _ _ h4 _ _ _ => .inl h4)
      rcases (hr c hc).1 with e | e
      · exact .inl (by show fl u (r c) c.2 = false; rw [e]; exact h6)
      · exact .inr e
  · have hc : (x, y) ∈ C := (hC (x, y)).2 hq
    by_cases hd : dnC F S (x, y) = true
    · rcases of_decide_eq_true hd with he | he <;> rcases List.mem_append.1 he with he | he <;> obtain ⟨a, ha, e⟩ := List.mem_map.1 he
      · obtain ⟨a1, a2, a3, a4, a5⟩ := tF a ha
        have ex : a.1.1 = x := congrArg Prod.fst e
        have ey : a.1.2 = y := congrArg Prod.snd e
        exact .inr (.inl (covH_iff.2 ⟨segF a, List.mem_append.2 (.inl (List.mem_map.2 ⟨a, ha, rfl⟩)), by show a.1.1 ≤ x; omega, by show x < a.2.1; omega, ey⟩))
      · obtain ⟨a1, a2, a3, a4, a5⟩ := tF a ha
        have ex : a.2.1 = x := congrArg Prod.fst e
        have ey : a.2.2 = y := congrArg Prod.snd e
        exact .inl (covH_iff.2 ⟨segF a, List.mem_append.2 (.inl (List.mem_map.2 ⟨a, ha, rfl⟩)), by show a.1.1 ≤ x - 1; omega, by show x - 1 < a.2.1; omega, by show a.1.2 = y; omega⟩)
      · obtain ⟨a1, a2, a3, a4, a5⟩ := tS a ha
        have ex : a.1.1 = x := congrArg Prod.fst e
        have ey : a.1.2 = y := congrArg Prod.snd e
        exact .inr (.inr (.inr (covV_iff.2 ⟨a, ha, ex, by omega, by omega⟩)))
      · obtain ⟨a1, a2, a3, a4, a5⟩ := tS a ha
        have ex : a.2.1 = x := congrArg Prod.fst e
        have ey : a.2.2 = y := congrArg Prod.snd e
        exact .inr (.inr (.inl (covV_iff.2 ⟨a, ha, by omega, by omega, by omega⟩)))
    · have hm : rayS (x, y) (r (x, y)) ∈ cutH F S C r := List.mem_append.2 (.inr (List.mem_map.2 ⟨(x, y), List.mem_filter.2 ⟨hc, by simpa using hd⟩, rfl⟩))
      revert hm
      refine ray (x, y) hc (fun s => s ∈ cutH F S C r → _) (fun _ h2 _ _ _ _ _ hm => .inr (.inl (covH_iff.2 ⟨_, hm, Int.le_refl _, h2, rfl⟩))) (fun _ _ h3 _ _ _ _ hm => .inl (covH_iff.2 ⟨_, hm, ?_, ?_, rfl⟩))
      · have h3 : r (x, y) < x := h3
        show r (x, y) ≤ x - 1; omega
      · show x - 1 < x; omega
/-- how many cuts -/
theorem cuts_len (hs : ∀ x y, u x y = true → 0 ≤ x ∧ x < w ∧ 0 ≤ y ∧ y < h) (hnF : F.Nodup) (hF : ∀ c, c ∈ F → isF u c) (hnS : S.Nodup) (hS : ∀ c, c ∈ S → isS u c) (hnC : C.Nodup) (hC : ∀ c, c ∈ C ↔ q3 u c.1 c.2 = true) :
    ((cutH F S C r).length : Int) + (takS F S).length ≤ sm2 (w + 1) (h + 1) (fun x y => b2 (q3 u x y)) - kuK F S := by
  have tF : ∀ a ∈ takF F S, isF u a := fun a ha => hF a ((sub_pk _ F 0).subset ha)
  have tS : ∀ a ∈ takS F S, isS u a := fun a ha => hS a ((sub_pk _ S 0).subset ha)
  have nF : (takF F S).Nodup := (sub_pk _ F 0).nodup hnF
  have nS : (takS F S).Nodup := (sub_pk _ S 0).nodup hnS
  have e3 : sm2 (w + 1) (h + 1) (fun x y => b2 (q3 u x y)) = C.length := by
    rw [← cn_sum (f := fun c : Cel => c) (m := w + 1) (n := h + 1) C fun c hc => q3_in hs ((hC c).1 hc)]
    exact sm2_congr fun x y _ _ _ _ => cn_at C hnC ⟨fun hq => ⟨(x, y), (hC (x, y)).2 hq, rfl⟩, fun ⟨c, hc, e⟩ => by
      have := (hC c).1 hc
      rw [e] at this; exact this⟩
  have k1 := tak_len F S
  have k2 : C.length = (C.filter fun c => !dnC F S c).length + (C.filter (dnC F S)).length := by
    have e : (C.filter fun _ => true) = C := List.filter_eq_self.2 fun _ _ => rfl
    have := filter_two (fun _ => true) (dnC F S) C
    rw [e] at this
    exact this
  have flr : ∀ a, isF u a → fl u a.1.1 a.1.2 = true ∧ fl u (a.1.1 - 1) a.1.2 = false := fun a ⟨a1, a2, a3, a4, a5⟩ => ⟨a5 _ (Int.le_refl _) a2, by rw [q3_fl a3, a5 _ (Int.le_refl _) a2]; rfl⟩
  have fll : ∀ a, isF u a → fl u (a.2.1 - 1) a.2.2 = true := fun a ⟨a1, a2, a3, a4, a5⟩ => by rw [← a1]; exact a5 _ (by omega) (by omega)
  have slr : ∀ a, isS u a → stp u a.1.1 a.1.2 = true ∧ stp u a.1.1 (a.1.2 - 1) = false := fun a ⟨a1, a2, a3, a4, a5⟩ => ⟨a5 _ (Int.le_refl _) a2, by rw [q3_stp a3, a5 _ (Int.le_refl _) a2]; rfl⟩
  have sll : ∀ a, isS u a → stp u a.2.1 (a.2.2 - 1) = true := fun a ⟨a1, a2, a3, a4, a5⟩ => by rw [← a1]; exact a5 _ (by omega) (by omega)
  have nE : (endsL (takF F S)).Nodup := by
    unfold endsL
    refine List.nodup_append.2 ⟨nodup_map_on nF fun a ha b hb e => ?_, nodup_map_on nF fun a ha b hb e => ?_, fun x hx y hy e => ?_⟩
    · have ka := tF a ha
      have kb := tF b hb
      have e : a.1 = b.1 := e
      have l1 := ka.2.1
      have l2 := kb.2.1
      exact flat_uniq ka kb (by rw [e]) (x := a.1.1) (by omega) (by omega) (by rw [e]; omega) (by rw [e]; omega)
    · have ka := tF a ha
      have kb := tF b hb
      have e : a.2 = b.2 := e
      have l1 := ka.2.1
      have l2 := kb.2.1
      exact flat_uniq ka kb (by rw [ka.1, kb.1, e]) (x := a.2.1) (by omega) (by omega) (by rw [e]; omega) (by rw [e]; omega)
    · obtain ⟨a, ha, rfl⟩ := List.mem_map.1 hx
      obtain ⟨b, hb, rfl⟩ := List.mem_map.1 hy
      have e : a.1 = b.2 := e
      have := fll b (tF b hb)
      rw [← e, (flr a (tF a ha)).2] at this; cases this
  have nE' : (endsL (takS F S)).Nodup := by
    unfold endsL
    refine List.nodup_append.2 ⟨nodup_map_on nS fun a ha b hb e => ?_, nodup_map_on nS fun a ha b hb e => ?_, fun x hx y hy e => ?_⟩
    · have ka := tS a ha
      have kb := tS b hb
      have e : a.1 = b.1 := e
      have l1 := ka.2.1
      have l2 := kb.2.1
      exact steep_uniq ka kb (by rw [e]) (y := a.1.2) (by omega) (by omega) (by rw [e]; omega) (by rw [e]; omega)
    · have ka := tS a ha
      have kb := tS b hb
      have e : a.2 = b.2 := e
      have l1 := ka.2.1
      have l2 := kb.2.1
      exact steep_uniq ka kb (by rw [ka.1, kb.1, e]) (y := a.2.2) (by omega) (by omega) (by rw [e]; omega) (by rw [e]; omega)
    · obtain ⟨a, ha, rfl⟩ := List.mem_map.1 hx
      obtain ⟨b, hb, rfl⟩ := List.mem_map.1 hy
      have e : a.1 = b.2 := e
      have := sll b (tS b hb)
      rw [← e, (slr a (tS a ha)).2] at this; cases this
  have onF : ∀ c ∈ endsL (takF F S), ∃ a ∈ takF F S, a.1.1 ≤ c.1 ∧ c.1 ≤ a.2.1 ∧ a.1.2 = c.2 ∧ q3 u c.1 c.2 = true := fun c hc => by
    rcases List.mem_append.1 hc with hc | hc <;> obtain ⟨a, ha, rfl⟩ := List.mem_map.1 hc <;> obtain ⟨a1, a2, a3, a4, a5⟩ := tF a ha
    · exact ⟨a, ha, by omega, by omega, rfl, a3⟩
    · exact ⟨a, ha, by omega, by omega, a1, a4⟩
  have onS : ∀ c ∈ endsL (takS F S), ∃ a ∈ takS F S, a.1.2 ≤ c.2 ∧ c.2 ≤ a.2.2 ∧ a.1.1 = c.1 ∧ q3 u c.1 c.2 = true := fun c hc => by
    rcases List.mem_append.1 hc with hc | hc <;> obtain ⟨a, ha, rfl⟩ := List.mem_map.1 hc <;> obtain ⟨a1, a2, a3, a4, a5⟩ := tS a ha
    · exact ⟨a, ha, by omega, by omega, rfl, a3⟩
    · exact ⟨a, ha, by omega, by omega, a1, a4⟩
  have nA : (endsL (takF F S) ++ endsL (takS F S)).Nodup := List.nodup_append.2 ⟨nE, nE', fun x hx y hy e => by
    subst e
    obtain ⟨a, ha, h1, h2, h3, _⟩ := onF x hx
    obtain ⟨b, hb, h4, h5, h6, _⟩ := onS x hy
    have hm : meetC a b = true := decide_eq_true ⟨by omega, by omega, by omega, by omega⟩
    rw [tak_free ha hb] at hm; cases hm⟩
  have hle := nodup_len _ (C.filter (dnC F S)) nA fun c hc => by
    rcases List.mem_append.1 hc with hc | hc
    · obtain ⟨_, _, _, _, _, hq⟩ := onF c hc
      exact List.mem_filter.2 ⟨(hC c).2 hq, decide_eq_true (.inl hc)⟩
    · obtain ⟨_, _, _, _, _, hq⟩ := onS c hc
      exact List.mem_filter.2 ⟨(hC c).2 hq, decide_eq_true (.inr hc)⟩
  unfold endsL at hle
  simp only [List.length_append, List.length_map] at hle
  have hh : (cutH F S C r).length = (takF F S).length + (C.filter fun c => !dnC F S c).length := by
    unfold cutH
    rw [List.length_append, List.length_map, List.length_map]
  rw [e3, hh]
  omega
end
end Go.Proofs.YtmgofdgbenfjmaaDoor
