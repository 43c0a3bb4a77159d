/- Texts joined: GrP, GrQ, GrR, GrS, GrT, GrU. Conditions: see each. -/
import Derived.Test.YtmgofdgbenfjmaaDoorFl1
import Derived.Test.YtmgofdgbenfjmaaDoorDv1
import Derived.Test.YtmgofdgbenfjmaaDoorPt1
namespace Go.Proofs.YtmgofdgbenfjmaaDoor

noncomputable def ind (p : Prop) : Nat := open Classical in if p then 1 else 0
theorem ind_yes {p : Prop} (h : p) : ind p = 1 := if_pos h
theorem ind_no {p : Prop} (h : ¬ p) : ind p = 0 := if_neg h
/-- how many classes of r a list meets -/
noncomputable def cls {α : Type} (r : α → α → Prop) : List α → Nat
  | [] => 0
  | a :: l => ind (¬ ∃ b ∈ l, r a b) + cls r l
structure Eqv {α : Type} (r : α → α → Prop) : Prop where
  refl : ∀ a, r a a
  symm : ∀ {a b}, r a b → r b a
  trans : ∀ {a b c}, r a b → r b c → r a c
theorem cls_congr {α : Type} {r r' : α → α → Prop} : ∀ (l : List α), (∀ a ∈ l, ∀ b ∈ l, r a b ↔ r' a b) → cls r l = cls r' l
  | [], _ => rfl
  | a :: l, h => by
    simp only [cls]
    rw [cls_congr l fun x hx y hy => h x (by simp [hx]) y (by simp [hy])]
    have : (∃ b ∈ l, r a b) = ∃ b ∈ l, r' a b := propext ⟨fun ⟨b, hb, h1⟩ => ⟨b, hb, (h a (by simp) b (by simp [hb])).1 h1⟩, fun ⟨b, hb, h1⟩ => ⟨b, hb, (h a (by simp) b (by simp [hb])).2 h1⟩⟩
    rw [this]
/-- r with the classes of a and b made one -/
def Mrg {α : Type} (r : α → α → Prop) (a b : α) (x y : α) : Prop := r x y ∨ (r x a ∧ r y b) ∨ (r x b ∧ r y a)
theorem cls_mrg {α : Type} {r : α → α → Prop} (he : Eqv r) {a b : α} (hn : ¬ r a b) : ∀ l : List α, cls r l = cls (Mrg r a b) l + ind ((∃ x ∈ l, r x a) ∧ (∃ y ∈ l, r y b))
  | [] => by rw [ind_no (by simp)]; rfl
  | x :: l => by
    have ih := cls_mrg he hn l
    simp only [cls]
    rw [ih]
    have e1 : (∃ y ∈ x :: l, r y a) = (r x a ∨ ∃ y ∈ l, r y a) := by simp
    have e2 : (∃ y ∈ x :: l, r y b) = (r x b ∨ ∃ y ∈ l, r y b) := by simp
    have e3 : r x a → ((∃ y ∈ l, r x y) ↔ ∃ y ∈ l, r y a) := fun h => ⟨fun ⟨y, hy, k⟩ => ⟨y, hy, he.trans (he.symm k) h⟩, fun ⟨y, hy, k⟩ => ⟨y, hy, he.trans h (he.symm k)⟩⟩
    have e4 : r x b → ((∃ y ∈ l, r x y) ↔ ∃ y ∈ l, r y b) := fun h => ⟨fun ⟨y, hy, k⟩ => ⟨y, hy, he.trans (he.symm k) h⟩, fun ⟨y, hy, k⟩ => ⟨y, hy, he.trans h (he.symm k)⟩⟩
    have e5 : (∃ y ∈ l, Mrg r a b x y) = ((∃ y ∈ l, r x y) ∨ (r x a ∧ ∃ y ∈ l, r y b) ∨ (r x b ∧ ∃ y ∈ l, r y a)) := by
      refine propext ⟨?_, ?_⟩
      · rintro ⟨y, hy, h | ⟨h1, h2⟩ | ⟨h1, h2⟩⟩
        · exact .inl ⟨y, hy, h⟩
        · exact .inr (.inl ⟨h1, y, hy, h2⟩)
        · exact .inr (.inr ⟨h1, y, hy, h2⟩)
      · rintro (⟨y, hy, h⟩ | ⟨h1, y, hy, h2⟩ | ⟨h1, y, hy, h2⟩)
        · exact ⟨y, hy, .inl h⟩
        · exact ⟨y, hy, .inr (.inl ⟨h1, h2⟩)⟩
        · exact ⟨y, hy, .inr (.inr ⟨h1, h2⟩)⟩
    rw [e1, e2, e5]
    have hx : r x a → r x b → False := fun h1 h2 => hn (he.trans (he.symm h1) h2)
    revert e3 e4 hx
    generalize (∃ y ∈ l, r x y) = q
    generalize (∃ y ∈ l, r y a) = pa
    generalize (∃ y ∈ l, r y b) = pb
    generalize r x a = xa
    generalize r x b = xb
    generalize cls (Mrg r a b) l = n
    intro e3 e4 hx
    unfold ind
    by_cases hpa : pa <;> by_cases hpb : pb <;> by_cases hxa : xa <;> by_cases hxb : xb <;> by_cases hq : q <;> simp_all <;> omega
/-- hangs together by steps -/
inductive Cl {α : Type} (s : α → α → Prop) : α → α → Prop
  | step {a b : α} : s a b → Cl s a b
  | refl (a : α) : Cl s a a
  | symm {a b : α} : Cl s a b → Cl s b a
  | trans {a b c : α} : Cl s a b → Cl s b c → Cl s a c
theorem Cl.eqv {α : Type} (s : α → α → Prop) : Eqv (Cl s) := ⟨Cl.refl, Cl.symm, Cl.trans⟩
theorem Cl.mono {α : Type} {s s' : α → α → Prop} (h : ∀ a b, s a b → s' a b) {a b : α} (k : Cl s a b) : Cl s' a b := by
  induction k with
  | step k => exact .step (h _ _ k)
  | refl a => exact .refl a
  | symm _ ih => exact .symm ih
  | trans _ _ ih1 ih2 => exact .trans ih1 ih2
theorem Cl.lift {α β : Type} {s : α → α → Prop} {r : β → β → Prop} (he : Eqv r) (f : α → β) (h : ∀ a b, s a b → r (f a) (f b)) {a b : α} (k : Cl s a b) : r (f a) (f b) := by
  induction k with
  | step k => exact h _ _ k
  | refl a => exact he.refl _
  | symm _ ih => exact he.symm ih
  | trans _ _ ih1 ih2 => exact he.trans ih1 ih2
theorem Cl.add {α : Type} {s s' : α → α → Prop} {a b : α} (h : ∀ x y, s' x y ↔ s x y ∨ (x = a ∧ y = b)) (x y : α) : Cl s' x y ↔ Mrg (Cl s) a b x y := by
  constructor
  · intro k
    induction k with
    | step k =>
      rcases (h _ _).1 k with k | ⟨rfl, rfl⟩
      · exact .inl (.step k)
      · exact .inr (.inl ⟨.refl _, .refl _⟩)
    | refl a => exact .inl (.refl a)
    | symm _ ih =>
      rcases ih with h | ⟨h1, h2⟩ | ⟨h1, h2⟩
      · exact .inl h.symm
      · exact .inr (.inr ⟨h2, h1⟩)
      · exact .inr (.inl ⟨h2, h1⟩)
    | trans _ _ ih1 ih2 =>
      rcases ih1 with h | ⟨h1, h2⟩ | ⟨h1, h2⟩ <;> rcases ih2 with k | ⟨k1, k2⟩ | ⟨k1, k2⟩
      · exact .inl (h.trans k)
      · exact .inr (.inl ⟨h.trans k1, k2⟩)
      · exact .inr (.inr ⟨h.trans k1, k2⟩)
      · exact .inr (.inl ⟨h1, k.symm.trans h2⟩)
      · exact .inr (.inl ⟨h1, k2⟩)
      · exact .inl (h1.trans k2.symm)
      · exact .inr (.inr ⟨h1, k.symm.trans h2⟩)
      · exact .inl (h1.trans k2.symm)
      · exact .inr (.inr ⟨h1, k2⟩)
  · have hm : ∀ {x y}, Cl s x y → Cl s' x y := fun k => k.mono fun _ _ e => (h _ _).2 (.inl e)
    have hab : Cl s' a b := .step ((h _ _).2 (.inr ⟨rfl, rfl⟩))
    rintro (k | ⟨k1, k2⟩ | ⟨k1, k2⟩)
    · exact hm k
    · exact ((hm k1).trans hab).trans (hm k2).symm
    · exact ((hm k1).trans hab.symm).trans (hm k2).symm
/-- a step more: one class less, or the same -/
theorem cls_add {α : Type} {s s' : α → α → Prop} {a b : α} (h : ∀ x y, s' x y ↔ s x y ∨ (x = a ∧ y = b)) {l : List α} (ha : ∃ x ∈ l, Cl s x a) (hb : ∃ x ∈ l, Cl s x b) :
    (Cl s a b → cls (Cl s) l = cls (Cl s') l) ∧ (¬ Cl s a b → cls (Cl s) l = cls (Cl s') l + 1) := by
  have e : cls (Cl s') l = cls (Mrg (Cl s) a b) l := cls_congr l fun x _ y _ => Cl.add h x y
  refine ⟨fun hab => ?_, fun hn => ?_⟩
  · rw [e]
    refine cls_congr l fun x _ y _ => ⟨.inl, fun k => ?_⟩
    rcases k with k | ⟨k1, k2⟩ | ⟨k1, k2⟩
    · exact k
    · exact (k1.trans hab).trans k2.symm
    · exact (k1.trans hab.symm).trans k2.symm
  · rw [e, cls_mrg (Cl.eqv s) hn l, ind_yes ⟨ha, hb⟩]

/-- a side between two cells: (false, x, y) that of (x-1, y) and (x, y), (true, x, y) that of (x, y-1) and (x, y) -/
abbrev Edg := Bool × Int × Int
def pe : Edg → Cel × Cel
  | (false, x, y) => ((x - 1, y), (x, y))
  | (true, x, y) => ((x, y - 1), (x, y))
def de : Edg → Cel × Cel
  | (false, x, y) => ((x, y), (x, y + 1))
  | (true, x, y) => ((x, y), (x + 1, y))
def Prm (A : List Edg) (a b : Cel) : Prop := ∃ e ∈ A, pe e = (a, b)
def Dul (A : List Edg) (p q : Cel) : Prop := ∃ e, e ∉ A ∧ de e = (p, q)
def par (f : Edg → Bool) : List Edg → Bool
  | [] => false
  | e :: l => f e ^^ par f l
theorem par_congr {f g : Edg → Bool} : ∀ l : List Edg, (∀ e ∈ l, f e = g e) → par f l = par g l
  | [], _ => rfl
  | e :: l, h => by simp only [par]; rw [h e (by simp), par_congr l fun x hx => h x (by simp [hx])]
theorem par_app (f : Edg → Bool) : ∀ l m : List Edg, par f (l ++ m) = (par f l ^^ par f m)
  | [], m => by simp [par]
  | e :: l, m => by simp only [List.cons_append, par]; rw [par_app f l m, Bool.xor_assoc]
theorem par_xor (f g : Edg → Bool) : ∀ l : List Edg, par (fun e => f e ^^ g e) l = (par f l ^^ par g l)
  | [] => rfl
  | e :: l => by
    simp only [par]
    rw [par_xor f g l]
    generalize f e = a; generalize g e = b; generalize par f l = c; generalize par g l = d
    revert a b c d; decide
theorem par_no {f : Edg → Bool} : ∀ l : List Edg, (∀ e ∈ l, f e = false) → par f l = false
  | [], _ => rfl
  | e :: l, h => by simp only [par]; rw [h e (by simp), par_no l fun x hx => h x (by simp [hx])]; rfl
def bnd (φ : Cel → Bool) (e : Edg) : Bool := φ (pe e).1 ^^ φ (pe e).2
theorem path_of {A : List Edg} {x y : Cel} (h : Cl (Prm A) x y) : ∃ L : List Edg, (∀ e ∈ L, e ∈ A) ∧ ∀ φ, par (bnd φ) L = (φ x ^^ φ y) := by
  induction h with
  | step h =>
    obtain ⟨e, he, h⟩ := h
    refine ⟨[e], fun x hx => by simp at hx; subst hx; exact he, fun φ => ?_⟩
    simp only [par, bnd, h]
    exact Bool.xor_false _
  | refl a => exact ⟨[], (fun e h => nomatch h), fun φ => by simp [par]⟩
  | symm _ ih =>
    obtain ⟨L, h1, h2⟩ := ih
    exact ⟨L, h1, fun φ => by rw [h2, Bool.xor_comm]⟩
  | @trans a b c _ _ ih1 ih2 =>
    obtain ⟨L, h1, h2⟩ := ih1
    obtain ⟨M, k1, k2⟩ := ih2
    refine ⟨L ++ M, fun e he => ?_, fun φ => ?_⟩
    · rcases List.mem_append.1 he with he | he
      · exact h1 e he
      · exact k1 e he
    · rw [par_app, h2, k2]
      generalize φ a = a; generalize φ b = b; generalize φ c = c
      revert a b c; decide
def upE (X Y : Int) : Edg → Bool
  | (false, x, y) => decide (x = X) && decide (y < Y)
  | (true, _, _) => false
theorem cyc_de {C : List Edg} (hC : ∀ φ, par (bnd φ) C = false) (e : Edg) : (par (upE (de e).1.1 (de e).1.2) C ^^ par (upE (de e).2.1 (de e).2.2) C) = par (fun e' => decide (e' = e)) C := by
  obtain ⟨k, x, y⟩ := e
  cases k with
  | false =>
    rw [← par_xor]
    refine par_congr C fun e' _ => ?_
    obtain ⟨k', x', y'⟩ := e'
    cases k' with
    | false =>
      simp only [upE, de, Prod.mk.injEq, true_and]
      by_cases h1 : x' = x <;> by_cases h2 : y' < y <;> by_cases h3 : y' < y + 1 <;> by_cases h4 : y' = y <;> simp [h1, h2, h3, h4] <;> omega
    | true => simp [upE]
  | true =>
    have h := hC fun c => decide (c.1 = x) && decide (c.2 < y)
    have e1 : par (fun e' => (upE x y e' ^^ upE (x + 1) y e') ^^ decide (e' = (true, x, y))) C = false := by
      rw [← h]
      refine par_congr C fun e' _ => ?_
      obtain ⟨k', x', y'⟩ := e'
      cases k' with
      | false =>
        simp only [upE, bnd, pe]
        by_cases h1 : x' = x <;> by_cases h2 : y' < y <;> by_cases h3 : x' = x + 1 <;> by_cases h4 : x' - 1 = x <;> simp [h1, h2, h3, h4] <;> omega
      | true =>
        simp only [upE, bnd, pe, Prod.mk.injEq, true_and]
        by_cases h1 : x' = x <;> by_cases h2 : y' < y <;> by_cases h3 : y' - 1 < y <;> by_cases h4 : y' = y <;> simp [h1, h2, h3, h4] <;> omega
    rw [par_xor, par_xor] at e1
    simp only [de]
    revert e1
    generalize par (upE x y) C = a; generalize par (upE (x + 1) y) C = b; generalize par (fun e' => decide (e' = (true, x, y))) C = c
    revert a b c; decide
/-- a side that closes a ring parts its two ends -/
theorem sep {A : List Edg} {e : Edg} (he : e ∉ A) (h : Cl (Prm A) (pe e).1 (pe e).2) : ¬ Cl (Dul (e :: A)) (de e).1 (de e).2 := by
  obtain ⟨L, h1, h2⟩ := path_of h
  have hC : ∀ φ, par (bnd φ) (e :: L) = false := fun φ => by
    simp only [par]
    rw [h2]
    unfold bnd
    exact Bool.xor_self _
  have hk : ∀ p q, Cl (Dul (e :: A)) p q → par (upE p.1 p.2) (e :: L) = par (upE q.1 q.2) (e :: L) := fun p q k => by
    refine Cl.lift (r := fun a b : Bool => a = b) ⟨fun _ => rfl, fun h => h.symm, fun h k => h.trans k⟩ (fun p : Cel => par (upE p.1 p.2) (e :: L)) (fun a b hab => ?_) k
    obtain ⟨e', h3, h4⟩ := hab
    have h5 := cyc_de hC e'
    have h8 : par (fun x => decide (x = e')) (e :: L) = false := par_no _ fun x hx => decide_eq_false fun e0 => h3 (by
      subst e0
      rcases List.mem_cons.1 hx with rfl | hx
      · simp
      · exact List.mem_cons_of_mem _ (h1 _ hx))
    rw [h4, h8] at h5
    show par (upE a.1 a.2) (e :: L) = par (upE b.1 b.2) (e :: L)
    have h5 : (par (upE a.1 a.2) (e :: L) ^^ par (upE b.1 b.2) (e :: L)) = false := h5
    revert h5
    generalize par (upE a.1 a.2) (e :: L) = x
    generalize par (upE b.1 b.2) (e :: L) = y
    revert x y; decide
  intro k
  have h6 := hk _ _ k
  have h7 := cyc_de hC e
  rw [h6, Bool.xor_self] at h7
  simp only [par] at h7
  rw [par_no L fun x hx => decide_eq_false fun e0 => he (by subst e0; exact h1 _ hx)] at h7
  simp at h7
/-- one side more -/
theorem add_le {A : List Edg} {e : Edg} {P D : List Cel} (he : e ∉ A) (hp1 : ∃ x ∈ P, Cl (Prm A) x (pe e).1) (hp2 : ∃ x ∈ P, Cl (Prm A) x (pe e).2) (hd1 : ∃ x ∈ D, Cl (Dul (e :: A)) x (de e).1) (hd2 : ∃ x ∈ D, Cl (Dul (e :: A)) x (de e).2) :
    cls (Cl (Prm (e :: A))) P + 1 + cls (Cl (Dul A)) D ≤ cls (Cl (Prm A)) P + cls (Cl (Dul (e :: A))) D := by
  have a1 := cls_add (s := Prm A) (s' := Prm (e :: A)) (a := (pe e).1) (b := (pe e).2) (fun x y => ⟨fun ⟨e', h1, h2⟩ => by
    rcases List.mem_cons.1 h1 with rfl | h1
    · exact .inr ⟨by rw [h2], by rw [h2]⟩
    · exact .inl ⟨e', h1, h2⟩, fun h => by
    rcases h with ⟨e', h1, h2⟩ | ⟨rfl, rfl⟩
    · exact ⟨e', List.mem_cons_of_mem _ h1, h2⟩
    · exact ⟨e, by simp, rfl⟩⟩) (l := P) hp1 hp2
  have a2 := cls_add (s := Dul (e :: A)) (s' := Dul A) (a := (de e).1) (b := (de e).2) (fun x y => ⟨fun ⟨e', h1, h2⟩ => by
    by_cases e0 : e' = e
    · subst e0; exact .inr ⟨by rw [h2], by rw [h2]⟩
    · exact .inl ⟨e', fun h => by
        rcases List.mem_cons.1 h with h | h
        · exact e0 h
        · exact h1 h, h2⟩, fun h => by
    rcases h with ⟨e', h1, h2⟩ | ⟨rfl, rfl⟩
    · exact ⟨e', fun h => h1 (List.mem_cons_of_mem _ h), h2⟩
    · exact ⟨e, he, rfl⟩⟩) (l := D) hd1 hd2
  by_cases hc : Cl (Prm A) (pe e).1 (pe e).2
  · have := a1.1 hc
    have := a2.2 (sep he hc)
    omega
  · have := a1.2 hc
    by_cases hd : Cl (Dul (e :: A)) (de e).1 (de e).2
    · have := a2.1 hd; omega
    · have := a2.2 hd; omega
theorem adds {A : List Edg} {P D : List Cel} (R : Edg → Prop) (hp : ∀ e, R e → (pe e).1 ∈ P ∧ (pe e).2 ∈ P) (hd : ∀ B : List Edg, (∀ e ∈ B, R e) → ∀ e, R e → (∃ x ∈ D, Cl (Dul B) x (de e).1) ∧ (∃ x ∈ D, Cl (Dul B) x (de e).2)) (hA : ∀ e ∈ A, R e) :
    ∀ B : List Edg, B.Nodup → (∀ e ∈ B, e ∉ A) → (∀ e ∈ B, R e) → cls (Cl (Prm (B ++ A))) P + B.length + cls (Cl (Dul A)) D ≤ cls (Cl (Prm A)) P + cls (Cl (Dul (B ++ A))) D
  | [], _, _, _ => by simp
  | e :: B, hn, hb, hr => by
    obtain ⟨n1, n2⟩ := List.nodup_cons.1 hn
    have ih := adds R hp hd hA B n2 (fun x hx => hb x (by simp [hx])) (fun x hx => hr x (by simp [hx]))
    have hBA : ∀ x ∈ B ++ A, R x := fun x hx => by
      rcases List.mem_append.1 hx with hx | hx
      · exact hr x (by simp [hx])
      · exact hA x hx
    have he := hr e (by simp)
    have h1 := add_le (A := B ++ A) (e := e) (P := P) (D := D) (fun h => by
      rcases List.mem_append.1 h with h | h
      · exact n1 h
      · exact hb e (by simp) h) ⟨_, (hp e he).1, .refl _⟩ ⟨_, (hp e he).2, .refl _⟩ (hd _ (fun x hx => by
        rcases List.mem_cons.1 hx with rfl | hx
        · exact he
        · exact hBA x hx) e he).1 (hd _ (fun x hx => by
        rcases List.mem_cons.1 hx with rfl | hx
        · exact he
        · exact hBA x hx) e he).2
    rw [List.cons_append, List.length_cons]
    omega
theorem cls_le {α : Type} (r : α → α → Prop) : ∀ l : List α, cls r l ≤ l.length
  | [] => Nat.le_refl _
  | a :: l => by
    have := cls_le r l
    simp only [cls, List.length_cons]
    by_cases h : ¬ ∃ b ∈ l, r a b
    · rw [ind_yes h]; omega
    · rw [ind_no h]; omega
theorem cls_pos {α : Type} {r : α → α → Prop} : ∀ l : List α, l ≠ [] → 1 ≤ cls r l
  | [], h => absurd rfl h
  | [a], _ => by simp only [cls]; rw [ind_yes (by simp)]; omega
  | a :: b :: l, _ => by
    have := cls_pos (r := r) (b :: l) (by simp)
    rw [cls]
    omega
/-- Euler: the pieces and the rings -/
theorem euler {U A : List Edg} {P D : List Cel} (hU : U.Nodup) (hn : A.Nodup) (hA : ∀ e ∈ A, e ∈ U) (hp : ∀ e ∈ U, (pe e).1 ∈ P ∧ (pe e).2 ∈ P) (hd : ∀ B : List Edg, (∀ e ∈ B, e ∈ U) → ∀ e ∈ U, (∃ x ∈ D, Cl (Dul B) x (de e).1) ∧ (∃ x ∈ D, Cl (Dul B) x (de e).2)) (hP : P ≠ []) (hD : D ≠ []) (hl : P.length + D.length = U.length + 2) :
    cls (Cl (Prm A)) P + A.length + 1 = P.length + cls (Cl (Dul A)) D := by
  have h1 := adds (A := []) (P := P) (D := D) (· ∈ U) hp hd (fun e h => nomatch h) A hn (fun e _ h => nomatch h) hA
  have h2 := adds (A := A) (P := P) (D := D) (· ∈ U) hp hd hA (U.filter fun e => decide (e ∉ A)) (hU.filter _) (fun e he => of_decide_eq_true (List.mem_filter.1 he).2) (fun e he => (List.mem_filter.1 he).1)
  have h3 : (U.filter fun e => decide (e ∉ A)).length + A.length = U.length := by
    have e1 : A.Perm (U.filter fun e => decide (e ∈ A)) := by
      refine (List.perm_ext_iff_of_nodup hn (hU.filter _)).2 fun e => ?_
      simp only [List.mem_filter, decide_eq_true_eq]
      exact ⟨fun h => ⟨hA e h, h⟩, fun h => h.2⟩
    rw [e1.length_eq]
    have : ∀ l : List Edg, (l.filter fun e => decide (e ∉ A)).length + (l.filter fun e => decide (e ∈ A)).length = l.length := fun l => by
      induction l with
      | nil => rfl
      | cons e l ih => by_cases h : e ∈ A <;> simp [h] at ih ⊢ <;> omega
    exact this U
  rw [List.append_nil] at h1
  have k1 := cls_le (Cl (Prm [])) P
  have k2 := cls_pos (r := Cl (Dul [])) D hD
  have k3 := cls_pos (r := Cl (Prm (U.filter (fun e => decide (e ∉ A)) ++ A))) P hP
  have k4 := cls_le (Cl (Dul (U.filter (fun e => decide (e ∉ A)) ++ A))) D
  omega

theorem cls_reps {α : Type} {r : α → α → Prop} (he : Eqv r) : ∀ l : List α, ∃ R : List α, R.length = cls r l ∧ (∀ x ∈ R, x ∈ l) ∧ R.Pairwise (fun x y => ¬ r x y) ∧ ∀ x ∈ l, ∃ y ∈ R, r x y
  | [] => ⟨[], rfl, (fun _ h => nomatch h), List.Pairwise.nil, (fun _ h => nomatch h)⟩
  | a :: l => by
    obtain ⟨R, h1, h2, h3, h4⟩ := cls_reps he l
    by_cases h : ∃ b ∈ l, r a b
    · refine ⟨R, by simp only [cls]; rw [ind_no (fun k => k h), h1]; omega, fun x hx => by simp [h2 x hx], h3, fun x hx => ?_⟩
      rcases List.mem_cons.1 hx with rfl | hx
      · obtain ⟨b, hb, hab⟩ := h
        obtain ⟨y, hy, k⟩ := h4 b hb
        exact ⟨y, hy, he.trans hab k⟩
      · exact h4 x hx
    · refine ⟨a :: R, by simp only [cls, List.length_cons]; rw [ind_yes h, h1]; omega, fun x hx => ?_, List.pairwise_cons.2 ⟨fun y hy k => h ⟨y, h2 y hy, k⟩, h3⟩, fun x hx => ?_⟩
      · rcases List.mem_cons.1 hx with rfl | hx
        · simp
        · simp [h2 x hx]
      · rcases List.mem_cons.1 hx with rfl | hx
        · exact ⟨x, by simp, he.refl x⟩
        · obtain ⟨y, hy, k⟩ := h4 x hx
          exact ⟨y, by simp [hy], k⟩
theorem inj_len {α β : Type} {f : α → β → Prop} : ∀ (R : List α) (S : List β), (∀ x ∈ R, ∃ y ∈ S, f x y) → R.Pairwise (fun x x' => ∀ y, f x y → f x' y → False) → R.length ≤ S.length
  | [], _, _, _ => Nat.zero_le _
  | a :: R, S, h, hp => by
    obtain ⟨y, hy, k⟩ := h a (by simp)
    obtain ⟨p1, p2⟩ := List.pairwise_cons.1 hp
    obtain ⟨S1, S2, rfl⟩ := List.append_of_mem hy
    have := inj_len R (S1 ++ S2) (fun x hx => by
      obtain ⟨z, hz, kz⟩ := h x (by simp [hx])
      refine ⟨z, ?_, kz⟩
      simp only [List.mem_append, List.mem_cons] at hz ⊢
      rcases hz with hz | rfl | hz
      · exact .inl hz
      · exact absurd kz fun kz => p1 x hx _ k kz
      · exact .inr hz) p2
    simp only [List.length_append, List.length_cons] at this ⊢
    omega
theorem cls_map_le {α β : Type} {r : α → α → Prop} {r' : β → β → Prop} (he : Eqv r) (he' : Eqv r') {l : List α} {l' : List β} (f : α → β → Prop) (h1 : ∀ x ∈ l, ∃ y ∈ l', f x y) (h2 : ∀ x ∈ l, ∀ x' ∈ l, ∀ y ∈ l', ∀ y' ∈ l', f x y → f x' y' → r' y y' → r x x') : cls r l ≤ cls r' l' := by
  obtain ⟨R, a1, a2, a3, a4⟩ := cls_reps he l
  obtain ⟨S, b1, b2, b3, b4⟩ := cls_reps he' l'
  rw [← a1, ← b1]
  refine inj_len (f := fun x z => ∃ y ∈ l', f x y ∧ r' y z) R S (fun x hx => ?_) ?_
  · obtain ⟨y, hy, k⟩ := h1 x (a2 x hx)
    obtain ⟨z, hz, kz⟩ := b4 y hy
    exact ⟨z, hz, y, hy, k, kz⟩
  · refine a3.imp_of_mem fun {x x'} hx hx' hn => ?_
    rintro z ⟨y, hy, k, kz⟩ ⟨y', hy', k', kz'⟩
    exact hn (h2 x (a2 x hx) x' (a2 x' hx') y hy y' hy' k k' (he'.trans kz (he'.symm kz')))
theorem cls_map {α β : Type} {r : α → α → Prop} {r' : β → β → Prop} (he : Eqv r) (he' : Eqv r') {l : List α} {l' : List β} (g : α → β) (h1 : ∀ x ∈ l, ∃ y ∈ l', r' (g x) y) (h2 : ∀ x ∈ l, ∀ x' ∈ l, r' (g x) (g x') ↔ r x x') (h3 : ∀ y ∈ l', ∃ x ∈ l, r' (g x) y) : cls r l = cls r' l' := by
  refine Nat.le_antisymm (cls_map_le he he' (fun x y => r' (g x) y) h1 fun x hx x' hx' y _ y' _ k k' ky => (h2 x hx x' hx').1 (he'.trans (he'.trans k ky) (he'.symm k'))) ?_
  exact cls_map_le he' he (fun y x => r' (g x) y) h3 fun y _ y' _ x hx x' hx' k k' kx => he'.trans (he'.trans (he'.symm k) ((h2 x hx x' hx').2 kx)) k'
theorem cls_split {α : Type} {r : α → α → Prop} (he : Eqv r) (p : α → Bool) : ∀ l : List α, (∀ x ∈ l, ∀ y ∈ l, p x = true → p y = false → ¬ r x y) → cls r l = cls r (l.filter p) + cls r (l.filter fun x => !p x)
  | [], _ => rfl
  | a :: l, h => by
    have ih := cls_split he p l fun x hx y hy => h x (by simp [hx]) y (by simp [hy])
    cases hp : p a with
    | true =>
      rw [List.filter_cons_of_pos hp, List.filter_cons_of_neg (by simp [hp])]
      simp only [cls]
      rw [ih]
      have : (∃ b ∈ l, r a b) = ∃ b ∈ l.filter p, r a b := propext ⟨fun ⟨b, hb, k⟩ => ⟨b, List.mem_filter.2 ⟨hb, by
        cases hpb : p b with
        | true => rfl
        | false => exact absurd k (h a (by simp) b (by simp [hb]) hp hpb)⟩, k⟩, fun ⟨b, hb, k⟩ => ⟨b, (List.mem_filter.1 hb).1, k⟩⟩
      rw [this]; omega
    | false =>
      rw [List.filter_cons_of_neg (by simp [hp]), List.filter_cons_of_pos (by simp [hp])]
      simp only [cls]
      rw [ih]
      have : (∃ b ∈ l, r a b) = ∃ b ∈ l.filter (fun x => !p x), r a b := propext ⟨fun ⟨b, hb, k⟩ => ⟨b, List.mem_filter.2 ⟨hb, by
        cases hpb : p b with
        | false => rfl
        | true => exact absurd (he.symm k) (h b (by simp [hb]) a (by simp) hpb hp)⟩, k⟩, fun ⟨b, hb, k⟩ => ⟨b, (List.mem_filter.1 hb).1, k⟩⟩
      rw [this]; omega
theorem cls_one {α : Type} {r : α → α → Prop} : ∀ l : List α, l ≠ [] → (∀ x ∈ l, ∀ y ∈ l, r x y) → cls r l = 1
  | [], h, _ => absurd rfl h
  | [a], _, _ => by simp only [cls]; rw [ind_yes (by simp)]
  | a :: b :: l, _, h => by
    have := cls_one (b :: l) (by simp) fun x hx y hy => h x (by simp [hx]) y (by simp [hy])
    rw [cls, this, ind_no (fun k => k ⟨b, by simp, h a (by simp) b (by simp)⟩)]
theorem cls_len {α : Type} {r : α → α → Prop} : ∀ l : List α, l.Nodup → (∀ x ∈ l, ∀ y ∈ l, r x y → x = y) → cls r l = l.length
  | [], _, _ => rfl
  | a :: l, hn, h => by
    obtain ⟨n1, n2⟩ := List.nodup_cons.1 hn
    have := cls_len l n2 fun x hx y hy => h x (by simp [hx]) y (by simp [hy])
    rw [cls, this, ind_yes (fun ⟨b, hb, k⟩ => n1 (by rw [h a (by simp) b (by simp [hb]) k]; exact hb)), List.length_cons]; omega
theorem cls_snoc {α : Type} {r : α → α → Prop} (he : Eqv r) (a : α) : ∀ l : List α, cls r (l ++ [a]) = cls r l + ind (¬ ∃ b ∈ l, r b a)
  | [] => by simp [cls, ind]
  | x :: l => by
    have ih := cls_snoc he a l
    simp only [List.cons_append, cls]
    rw [ih]
    have e1 : (∃ b ∈ l ++ [a], r x b) = ((∃ b ∈ l, r x b) ∨ r x a) := by
      refine propext ⟨fun ⟨b, hb, k⟩ => ?_, fun h => ?_⟩
      · rcases List.mem_append.1 hb with hb | hb
        · exact .inl ⟨b, hb, k⟩
        · simp at hb; subst hb; exact .inr k
      · rcases h with ⟨b, hb, k⟩ | k
        · exact ⟨b, by simp [hb], k⟩
        · exact ⟨a, by simp, k⟩
    have e2 : (∃ b ∈ x :: l, r b a) = (r x a ∨ ∃ b ∈ l, r b a) := by simp
    have e3 : r x a → ((∃ b ∈ l, r x b) ↔ ∃ b ∈ l, r b a) := fun h => ⟨fun ⟨b, hb, k⟩ => ⟨b, hb, he.trans (he.symm k) h⟩, fun ⟨b, hb, k⟩ => ⟨b, hb, he.trans h (he.symm k)⟩⟩
    rw [e1, e2]
    revert e3
    generalize (∃ b ∈ l, r x b) = q
    generalize (∃ b ∈ l, r b a) = s
    generalize r x a = t
    intro e3
    unfold ind
    by_cases h1 : q <;> by_cases h2 : s <;> by_cases h3 : t <;> simp_all <;> omega
theorem fc_cls {R : Cel → Cel → Prop} {is : Cel → Bool} {r : Cel → Cel → Prop} (he : Eqv r) (hr : ∀ a b, is a = true → is b = true → (R a b ↔ r a b)) {M ds : List Cel} {k : Nat} (h : Fc R is M ds k) : (∀ m ∈ M, is m = true) → ∀ N : List Cel, (∀ c ∈ N, is c = true ∧ ∃ m ∈ M, r m c) → (∀ m ∈ M, m ∈ N) → cls r (N ++ ds.filter is) = cls r N + k := by
  induction h with
  | nil M => intro _ N _ _; simp
  | @skip M ds c k h1 _ ih =>
    intro hM N hN hMN
    by_cases hc : is c = true
    · rw [List.filter_cons_of_pos hc, show N ++ c :: ds.filter is = (N ++ [c]) ++ ds.filter is by simp]
      have hm : ∃ m ∈ M, R m c := by
        rcases h1 with h1 | h1
        · rw [hc] at h1; cases h1
        · exact h1
      obtain ⟨m, hm, k1⟩ := hm
      have k2 := (hr m c (hM m hm) hc).1 k1
      rw [ih hM (N ++ [c]) (fun x hx => by
        rcases List.mem_append.1 hx with hx | hx
        · exact hN x hx
        · simp at hx; subst hx; exact ⟨hc, m, hm, k2⟩) (fun x hx => by simp [hMN x hx]), cls_snoc he, ind_no (fun k => k ⟨m, hMN m hm, k2⟩)]; omega
    · rw [List.filter_cons_of_neg hc]; exact ih hM N hN hMN
  | @new M ds c k h1 h2 _ ih =>
    intro hM N hN hMN
    rw [List.filter_cons_of_pos h1, show N ++ c :: ds.filter is = (N ++ [c]) ++ ds.filter is by simp]
    rw [ih (fun m hm => by
      rcases List.mem_cons.1 hm with rfl | hm
      · exact h1
      · exact hM m hm) (N ++ [c]) (fun x hx => by
        rcases List.mem_append.1 hx with hx | hx
        · obtain ⟨k1, m, hm, k2⟩ := hN x hx
          exact ⟨k1, m, by simp [hm], k2⟩
        · simp at hx; subst hx; exact ⟨h1, x, by simp, he.refl x⟩) (fun x hx => by
        rcases List.mem_cons.1 hx with rfl | hx
        · simp
        · simp [hMN x hx]), cls_snoc he, ind_yes (fun ⟨b, hb, k⟩ => by
        obtain ⟨k1, m, hm, k2⟩ := hN b hb
        exact h2 ⟨m, hm, (hr m c (hM m hm) h1).2 (he.trans k2 k)⟩)]; omega

theorem sum_list {L : List Cel} (hn : L.Nodup) {m n : Nat} (hr : ∀ c ∈ L, 0 ≤ c.1 ∧ c.1 < m ∧ 0 ≤ c.2 ∧ c.2 < n) {t : Int → Int → Bool} (ht : ∀ x y, t x y = true ↔ (x, y) ∈ L) : sm2 m n (fun x y => b2 (t x y)) = L.length := by
  rw [← cn_sum (f := fun c : Cel => c) (m := m) (n := n) L hr]
  exact sm2_congr fun x y _ _ _ _ => cn_at L hn ⟨fun hq => ⟨(x, y), (ht x y).1 hq, rfl⟩, fun ⟨c, hc, e⟩ => (ht x y).2 (by rw [← e]; exact hc)⟩
theorem chi_eq : ∀ P Q R S : Bool, chi P Q R S = (b2 P + b2 Q + b2 R + b2 S) + -2 * (b2 (P && Q) + b2 (R && S) + b2 (P && R) + b2 (Q && S)) + 4 * b2 (P && Q && R && S) := by
  intro P Q R S
  cases P <;> cases Q <;> cases R <;> cases S <;> rfl
def quad (v : Int → Int → Bool) (x y : Int) : Bool := v (x - 1) (y - 1) && v x (y - 1) && v (x - 1) y && v x y
theorem chi_sum {v : Int → Int → Bool} {w h : Nat} (hs : ∀ x y, v x y = true → 0 ≤ x ∧ x < w ∧ 0 ≤ y ∧ y < h) : sm2 (w + 1) (h + 1) (chiU v) = 4 * sm2 (w + 1) (h + 1) (fun x y => b2 (v x y)) - 4 * sm2 (w + 1) (h + 1) (fun x y => b2 (v (x - 1) y && v x y)) - 4 * sm2 (w + 1) (h + 1) (fun x y => b2 (v x (y - 1) && v x y)) + 4 * sm2 (w + 1) (h + 1) (fun x y => b2 (quad v x y)) := by
  have o : ∀ x y : Int, (x < 0 ∨ (w : Int) ≤ x ∨ y < 0 ∨ (h : Int) ≤ y) → v x y = false := fun x y hxy => by
    cases hu : v x y with
    | false => rfl
    | true => have := hs x y hu; omega
  have z : ∀ x y : Int, (x < 0 ∨ (w : Int) ≤ x ∨ y < 0 ∨ (h : Int) ≤ y) → b2 (v x y) = 0 := fun x y hxy => by rw [o x y hxy]; rfl
  have z1 : ∀ x y : Int, (x < 0 ∨ (w : Int) ≤ x ∨ y < 0 ∨ (h : Int) ≤ y) → b2 (v (x - 1) y && v x y) = 0 := fun x y hxy => by rw [o x y hxy, Bool.and_false]; rfl
  have z2 : ∀ x y : Int, (x < 0 ∨ (w : Int) ≤ x ∨ y < 0 ∨ (h : Int) ≤ y) → b2 (v x (y - 1) && v x y) = 0 := fun x y hxy => by rw [o x y hxy, Bool.and_false]; rfl
  have e1 := sm2_shx (m := w) (n := h + 1) (f := fun x y => b2 (v x (y - 1))) (fun y => z _ _ (by omega)) (fun y => z _ _ (by omega))
  have e2 := sm2_shy (m := w + 1) (n := h) (f := fun x y => b2 (v x y)) (fun x => z _ _ (by omega)) (fun x => z _ _ (by omega))
  have e3 := sm2_shx (m := w) (n := h + 1) (f := fun x y => b2 (v x y)) (fun y => z _ _ (by omega)) (fun y => z _ _ (by omega))
  have e4 := sm2_shy (m := w + 1) (n := h) (f := fun x y => b2 (v (x - 1) y && v x y)) (fun x => z1 _ _ (by omega)) (fun x => z1 _ _ (by omega))
  have e5 := sm2_shx (m := w) (n := h + 1) (f := fun x y => b2 (v x (y - 1) && v x y)) (fun y => z2 _ _ (by omega)) (fun y => z2 _ _ (by omega))
  have e0 : sm2 (w + 1) (h + 1) (chiU v) = sm2 (w + 1) (h + 1) (fun x y => (((b2 (v (x - 1) (y - 1)) + b2 (v x (y - 1))) + b2 (v (x - 1) y)) + b2 (v x y)) + -2 * (((b2 (v (x - 1) (y - 1) && v x (y - 1)) + b2 (v (x - 1) y && v x y)) + b2 (v (x - 1) (y - 1) && v (x - 1) y)) + b2 (v x (y - 1) && v x y)) + 4 * b2 (quad v x y)) :=
    sm2_congr fun x y _ _ _ _ => chi_eq _ _ _ _
  rw [e0]
  simp only [sm2_add, sm2_mul]
  rw [e1, e2, e3, e4, e5]
  omega
section
variable {b : Bx} {B : List Edg}
/-- the sides within a box -/
def boxE (b : Bx) : List Edg := ((boxCells b).filter fun c => decide (c.1 ≠ b.x0)).map (fun c => (false, c.1, c.2)) ++ ((boxCells b).filter fun c => decide (c.2 ≠ b.y0)).map (fun c => (true, c.1, c.2))
/-- the corners within, and one for all those around -/
def boxD (b : Bx) : List Cel := (b.x0, b.y0) :: (boxCells b).filter fun c => decide (c.1 ≠ b.x0 ∧ c.2 ≠ b.y0)
theorem mem_edg {L M : List Cel} {k : Bool} {x y : Int} : ((k, x, y) : Edg) ∈ L.map (fun c => (false, c.1, c.2)) ++ M.map (fun c => (true, c.1, c.2)) ↔ (k = false ∧ (x, y) ∈ L) ∨ (k = true ∧ (x, y) ∈ M) := by
  cases k <;> simp
theorem edg_nodup {L M : List Cel} (hL : L.Nodup) (hM : M.Nodup) : (L.map (fun c => ((false, c.1, c.2) : Edg)) ++ M.map (fun c => ((true, c.1, c.2) : Edg))).Nodup := by
  refine List.nodup_append.2 ⟨?_, ?_, fun a ha c hc e => ?_⟩
  · rw [List.nodup_iff_pairwise_ne, List.pairwise_map]
    exact (List.nodup_iff_pairwise_ne.1 hL).imp fun h e => h (Prod.ext (congrArg (fun q : Edg => q.2.1) e) (congrArg (fun q : Edg => q.2.2) e))
  · rw [List.nodup_iff_pairwise_ne, List.pairwise_map]
    exact (List.nodup_iff_pairwise_ne.1 hM).imp fun h e => h (Prod.ext (congrArg (fun q : Edg => q.2.1) e) (congrArg (fun q : Edg => q.2.2) e))
  · obtain ⟨_, _, rfl⟩ := List.mem_map.1 ha
    obtain ⟨_, _, rfl⟩ := List.mem_map.1 hc
    injection e with e _
    cases e
theorem mem_boxE {k : Bool} {x y : Int} : ((k, x, y) : Edg) ∈ boxE b ↔ (k = false ∧ b.x0 < x ∧ x ≤ b.x1 ∧ b.y0 ≤ y ∧ y ≤ b.y1) ∨ (k = true ∧ b.x0 ≤ x ∧ x ≤ b.x1 ∧ b.y0 < y ∧ y ≤ b.y1) := by
  unfold boxE
  rw [mem_edg]
  simp only [List.mem_filter, mem_box, decide_eq_true_eq]
  cases k
  · constructor <;> intro h <;> left <;> simp at h ⊢ <;> omega
  · constructor <;> intro h <;> right <;> simp at h ⊢ <;> omega
theorem go_h (hB : ∀ e ∈ B, e ∈ boxE b) {y : Int} (hy : y ≤ b.y0 ∨ b.y1 < y) (x : Int) : ∀ n : Nat, Cl (Dul B) (x, y) (x + n, y)
  | 0 => by rw [Int.natCast_zero, Int.add_zero]; exact .refl _
  | n + 1 => (go_h hB hy x n).trans (.step ⟨(true, x + n, y), fun h => by have := mem_boxE.1 (hB _ h); simp at this; omega, by simp only [de]; rw [show x + ((n : Nat) : Int) + 1 = x + ((n + 1 : Nat) : Int) by omega]⟩)
theorem go_v (hB : ∀ e ∈ B, e ∈ boxE b) {x : Int} (hx : x ≤ b.x0 ∨ b.x1 < x) (y : Int) : ∀ n : Nat, Cl (Dul B) (x, y) (x, y + n)
  | 0 => by rw [Int.natCast_zero, Int.add_zero]; exact .refl _
  | n + 1 => (go_v hB hx y n).trans (.step ⟨(false, x, y + n), fun h => by have := mem_boxE.1 (hB _ h); simp at this; omega, by simp only [de]; rw [show y + ((n : Nat) : Int) + 1 = y + ((n + 1 : Nat) : Int) by omega]⟩)
/-- each corner hangs together with one of the list -/
theorem rep (hB : ∀ e ∈ B, e ∈ boxE b) {x y : Int} (h1 : b.x0 ≤ x) (h3 : b.y0 ≤ y) : ∃ q ∈ boxD b, Cl (Dul B) q (x, y) ∧ (q = (x, y) ∨ q = (b.x0, b.y0)) := by
  have hh : ∀ {y' : Int}, (y' ≤ b.y0 ∨ b.y1 < y') → Cl (Dul B) (b.x0, y') (x, y') := fun {y'} hy => by
    have := go_h hB hy b.x0 (x - b.x0).toNat
    rw [show b.x0 + ((x - b.x0).toNat : Int) = x by omega] at this; exact this
  have hv : ∀ {x' : Int}, (x' ≤ b.x0 ∨ b.x1 < x') → Cl (Dul B) (x', b.y0) (x', y) := fun {x'} hx => by
    have := go_v hB hx b.y0 (y - b.y0).toNat
    rw [show b.y0 + ((y - b.y0).toNat : Int) = y by omega] at this; exact this
  have h0 : (b.x0, b.y0) ∈ boxD b := by simp [boxD]
  by_cases hx : x ≤ b.x0 ∨ b.x1 < x
  · exact ⟨_, h0, (hh (.inl (Int.le_refl _))).trans (hv hx), .inr rfl⟩
  · by_cases hy : y ≤ b.y0 ∨ b.y1 < y
    · exact ⟨_, h0, (hv (.inl (Int.le_refl _))).trans (hh hy), .inr rfl⟩
    · refine ⟨(x, y), List.mem_cons_of_mem _ (List.mem_filter.2 ⟨mem_box.2 ⟨h1, by omega, h3, by omega⟩, decide_eq_true ⟨by show x ≠ b.x0; omega, by show y ≠ b.y0; omega⟩⟩), .refl _, .inl rfl⟩
theorem cnt_two (p q : Cel → Bool) : ∀ l : List Cel, l.length + (l.filter fun c => p c && q c).length = (l.filter p).length + (l.filter q).length + (l.filter fun c => !p c && !q c).length
  | [] => rfl
  | c :: l => by
    have ih := cnt_two p q l
    simp only [List.filter_cons]
    cases p c <;> cases q c <;> simp <;> omega
theorem box_euler (hx : b.x0 ≤ b.x1) (hy : b.y0 ≤ b.y1) {A : List Edg} (hn : A.Nodup) (hA : ∀ e ∈ A, e ∈ boxE b) : cls (Cl (Prm A)) (boxCells b) + A.length + 1 = (boxCells b).length + cls (Cl (Dul A)) (boxD b) := by
  have hN := boxCells_nodup b
  refine euler (U := boxE b) (edg_nodup (hN.filter _) (hN.filter _)) hn hA (fun e he => ?_) (fun B hB e he => ?_) (fun h => ?_) (by simp [boxD]) ?_
  · obtain ⟨k, x, y⟩ := e
    have := mem_boxE.1 he
    cases k <;> simp only [pe, mem_box] <;> simp at this <;> omega
  · obtain ⟨k, x, y⟩ := e
    have := mem_boxE.1 he
    cases k
    · simp at this
      obtain ⟨q, q1, q2, _⟩ := rep hB (x := x) (y := y) (by omega) (by omega)
      obtain ⟨r, r1, r2, _⟩ := rep hB (x := x) (y := y + 1) (by omega) (by omega)
      exact ⟨⟨q, q1, q2⟩, ⟨r, r1, r2⟩⟩
    · simp at this
      obtain ⟨q, q1, q2, _⟩ := rep hB (x := x) (y := y) (by omega) (by omega)
      obtain ⟨r, r1, r2, _⟩ := rep hB (x := x + 1) (y := y) (by omega) (by omega)
      exact ⟨⟨q, q1, q2⟩, ⟨r, r1, r2⟩⟩
  · have : (b.x0, b.y0) ∈ boxCells b := mem_box.2 ⟨Int.le_refl _, hx, Int.le_refl _, hy⟩
    rw [h] at this; cases this
  · have h1 := cnt_two (fun c => decide (c.1 ≠ b.x0)) (fun c => decide (c.2 ≠ b.y0)) (boxCells b)
    have h2 : ((boxCells b).filter fun c => !decide (c.1 ≠ b.x0) && !decide (c.2 ≠ b.y0)).length = [((b.x0, b.y0) : Cel)].length := by
      refine nodup_eq (hN.filter _) (by simp) fun c => ?_
      simp only [List.mem_filter, mem_box, List.mem_singleton]
      constructor
      · rintro ⟨_, h⟩
        simp at h
        exact Prod.ext h.1 h.2
      · rintro rfl
        exact ⟨⟨Int.le_refl _, hx, Int.le_refl _, hy⟩, by simp⟩
    have h3 : (boxCells b).filter (fun c => decide (c.1 ≠ b.x0) && decide (c.2 ≠ b.y0)) = (boxCells b).filter fun c => decide (c.1 ≠ b.x0 ∧ c.2 ≠ b.y0) := List.filter_congr fun c _ => by simp
    rw [h2, h3] at h1
    unfold boxD boxE
    simp only [List.length_cons, List.length_append, List.length_map, List.length_nil] at h1 ⊢
    omega
end

theorem mem_near {a c : Cel} : c ∈ nearL a ↔ c ≠ a ∧ c.1 ≤ a.1 + 1 ∧ a.1 ≤ c.1 + 1 ∧ c.2 ≤ a.2 + 1 ∧ a.2 ≤ c.2 + 1 := by
  obtain ⟨x, y⟩ := a
  obtain ⟨u, v⟩ := c
  unfold nearL
  simp only [List.mem_cons, Prod.mk.injEq, List.not_mem_nil, or_false, ne_eq]
  omega
theorem mem_sides {a c : Cel} : c ∈ sidesL a ↔ (c.1 = a.1 ∧ (c.2 = a.2 - 1 ∨ c.2 = a.2 + 1)) ∨ (c.2 = a.2 ∧ (c.1 = a.1 - 1 ∨ c.1 = a.1 + 1)) := by
  obtain ⟨x, y⟩ := a
  obtain ⟨u, v⟩ := c
  unfold sidesL
  simp only [List.mem_cons, Prod.mk.injEq, List.not_mem_nil, or_false]
  omega
theorem inBx_iff {b : Bx} {c : Cel} : b.inB c = true ↔ b.x0 ≤ c.1 ∧ c.1 ≤ b.x1 ∧ b.y0 ≤ c.2 ∧ c.2 ≤ b.y1 := by
  unfold Bx.inB
  simp only [Bool.and_eq_true, decide_eq_true_eq]
  omega
section
variable {l : List Cel} {b : Bx}
def vL (l : List Cel) (x y : Int) : Bool := decide ((x, y) ∈ l)
/-- the sides between cells of a list -/
def edgA (l : List Cel) (b : Bx) : List Edg := ((boxCells b).filter fun c => vL l (c.1 - 1) c.2 && vL l c.1 c.2).map (fun c => (false, c.1, c.2)) ++ ((boxCells b).filter fun c => vL l c.1 (c.2 - 1) && vL l c.1 c.2).map (fun c => (true, c.1, c.2))
theorem mem_edgA (hb : ∀ c ∈ l, b.inB c = true) (e : Edg) : e ∈ edgA l b ↔ (pe e).1 ∈ l ∧ (pe e).2 ∈ l := by
  obtain ⟨k, x, y⟩ := e
  unfold edgA
  rw [mem_edg]
  have hin : (x, y) ∈ l → (x, y) ∈ boxCells b := fun h => by
    have := hb _ h
    unfold Bx.inB at this
    simp only [Bool.and_eq_true, decide_eq_true_eq] at this
    rw [mem_box]; omega
  cases k <;> simp only [List.mem_filter, vL, pe, Bool.and_eq_true, decide_eq_true_eq, reduceCtorEq, false_and, or_false, false_or, true_and] <;> exact ⟨fun h => h.2, fun h => ⟨hin h.2, h⟩⟩
theorem edgA_box (hb : ∀ c ∈ l, b.inB c = true) : ∀ e ∈ edgA l b, e ∈ boxE b := fun e he => by
  obtain ⟨h1, h2⟩ := (mem_edgA hb e).1 he
  have h1 := inBx_iff.1 (hb _ h1)
  have h2 := inBx_iff.1 (hb _ h2)
  obtain ⟨k, x, y⟩ := e
  rw [mem_boxE]
  cases k
  · have h1 : b.x0 ≤ x - 1 ∧ x - 1 ≤ b.x1 ∧ b.y0 ≤ y ∧ y ≤ b.y1 := h1
    have h2 : b.x0 ≤ x ∧ x ≤ b.x1 ∧ b.y0 ≤ y ∧ y ≤ b.y1 := h2
    exact .inl ⟨rfl, by omega⟩
  · have h1 : b.x0 ≤ x ∧ x ≤ b.x1 ∧ b.y0 ≤ y - 1 ∧ y - 1 ≤ b.y1 := h1
    have h2 : b.x0 ≤ x ∧ x ≤ b.x1 ∧ b.y0 ≤ y ∧ y ≤ b.y1 := h2
    exact .inr ⟨rfl, by omega⟩
/-- not in the list, and beside each other -/
def Fre (l : List Cel) (a c : Cel) : Prop := c ∈ nearL a ∧ a ∉ l ∧ c ∉ l
/-- a cell around a corner that is not in the list -/
def gC (l : List Cel) (p : Cel) : Cel := if (p.1 - 1, p.2 - 1) ∉ l then (p.1 - 1, p.2 - 1) else if (p.1, p.2 - 1) ∉ l then (p.1, p.2 - 1) else if (p.1 - 1, p.2) ∉ l then (p.1 - 1, p.2) else p
/-- around a corner -/
def Abt (p c : Cel) : Prop := (c.1 = p.1 - 1 ∨ c.1 = p.1) ∧ (c.2 = p.2 - 1 ∨ c.2 = p.2)
theorem gC_abt (p : Cel) : Abt p (gC l p) := by
  unfold gC Abt
  split
  · simp
  · split
    · simp
    · split <;> simp
theorem gC_free {p c : Cel} (ha : Abt p c) (hc : c ∉ l) : gC l p ∉ l := by
  unfold gC
  split
  · assumption
  · split
    · assumption
    · split
      · assumption
      · rename_i h1 h2 h3
        obtain ⟨x, y⟩ := p
        obtain ⟨u, v⟩ := c
        obtain ⟨k1 | k1, k2 | k2⟩ := ha <;> dsimp only at k1 k2 h1 h2 h3 ⊢ <;> subst k1 <;> subst k2 <;> first | exact hc | exact absurd hc h1 | exact absurd hc h2 | exact absurd hc h3
theorem abt_near {p a c : Cel} (h1 : Abt p a) (h2 : Abt p c) (ha : a ∉ l) (hc : c ∉ l) : Cl (Fre l) a c := by
  by_cases e : c = a
  · subst e; exact .refl _
  · refine .step ⟨mem_near.2 ⟨e, ?_, ?_, ?_, ?_⟩, ha, hc⟩ <;> (obtain ⟨k1, k2⟩ := h1; obtain ⟨k3, k4⟩ := h2; omega)
theorem quad_no {x y : Int} (h : quad (vL l) x y = false) : ∃ c, Abt (x, y) c ∧ c ∉ l := by
  unfold quad vL at h
  by_cases h1 : (x - 1, y - 1) ∈ l
  · by_cases h2 : (x, y - 1) ∈ l
    · by_cases h3 : (x - 1, y) ∈ l
      · exact ⟨(x, y), ⟨.inr rfl, .inr rfl⟩, by simpa [h1, h2, h3] using h⟩
      · exact ⟨(x - 1, y), ⟨.inl rfl, .inr rfl⟩, h3⟩
    · exact ⟨(x, y - 1), ⟨.inr rfl, .inl rfl⟩, h2⟩
  · exact ⟨(x - 1, y - 1), ⟨.inl rfl, .inl rfl⟩, h1⟩
theorem quad_all {x y : Int} (h : quad (vL l) x y = true) {c : Cel} (hc : Abt (x, y) c) : c ∈ l := by
  unfold quad vL at h
  simp only [Bool.and_eq_true, decide_eq_true_eq] at h
  obtain ⟨u, v⟩ := c
  obtain ⟨k1 | k1, k2 | k2⟩ := hc <;> dsimp only at k1 k2 <;> subst k1 <;> subst k2
  · exact h.1.1.1
  · exact h.1.2
  · exact h.1.1.2
  · exact h.2
/-- the ends of a dual step have the side's cells around them -/
theorem pe_abt (e : Edg) : Abt (de e).1 (pe e).1 ∧ Abt (de e).1 (pe e).2 ∧ Abt (de e).2 (pe e).1 ∧ Abt (de e).2 (pe e).2 := by
  obtain ⟨k, x, y⟩ := e
  cases k <;> simp [Abt, pe, de] <;> omega
theorem dul_fre (hb : ∀ c ∈ l, b.inB c = true) {p q : Cel} (h : Cl (Dul (edgA l b)) p q) : Cl (Fre l) (gC l p) (gC l q) := by
  refine Cl.lift (Cl.eqv _) (gC l) (fun a c hac => ?_) h
  obtain ⟨e, he, hde⟩ := hac
  obtain ⟨a1, a2, a3, a4⟩ := pe_abt e
  rw [hde] at a1 a2 a3 a4
  have hz : (pe e).1 ∉ l ∨ (pe e).2 ∉ l := by
    by_cases h1 : (pe e).1 ∈ l
    · exact .inr fun h2 => he ((mem_edgA hb e).2 ⟨h1, h2⟩)
    · exact .inl h1
  rcases hz with hz | hz
  · exact (abt_near (gC_abt a) a1 (gC_free a1 hz) hz).trans (abt_near a3 (gC_abt c) hz (gC_free a3 hz))
  · exact (abt_near (gC_abt a) a2 (gC_free a2 hz) hz).trans (abt_near a4 (gC_abt c) hz (gC_free a4 hz))
/-- the corners of a free cell hang together -/
theorem free_dul (hb : ∀ c ∈ l, b.inB c = true) {c p : Cel} (hc : c ∉ l) (hp : Abt p c) : Cl (Dul (edgA l b)) c p := by
  have st : ∀ e : Edg, (pe e).1 = c ∨ (pe e).2 = c → Cl (Dul (edgA l b)) (de e).1 (de e).2 := fun e h => .step ⟨e, fun he => by
    obtain ⟨h1, h2⟩ := (mem_edgA hb e).1 he
    rcases h with h | h
    · rw [h] at h1; exact hc h1
    · rw [h] at h2; exact hc h2, rfl⟩
  obtain ⟨x, y⟩ := c
  obtain ⟨u, v⟩ := p
  have s1 : Cl (Dul (edgA l b)) (x, y) (x, y + 1) := st (false, x, y) (.inr rfl)
  have s2 : Cl (Dul (edgA l b)) (x, y) (x + 1, y) := st (true, x, y) (.inr rfl)
  have s3 : Cl (Dul (edgA l b)) (x + 1, y) (x + 1, y + 1) := st (false, x + 1, y) (.inl (by simp [pe]))
  obtain ⟨k1 | k1, k2 | k2⟩ := hp <;> dsimp only at k1 k2
  · obtain rfl : u = x + 1 := by omega
    obtain rfl : v = y + 1 := by omega
    exact s2.trans s3
  · obtain rfl : u = x + 1 := by omega
    subst k2; exact s2
  · obtain rfl : v = y + 1 := by omega
    subst k1; exact s1
  · subst k1; subst k2; exact .refl _
theorem fre_dul (hb : ∀ c ∈ l, b.inB c = true) {a c : Cel} (h : Cl (Fre l) a c) : Cl (Dul (edgA l b)) a c := by
  refine Cl.lift (Cl.eqv _) (fun c => c) (fun a c hac => ?_) h
  obtain ⟨h1, h2, h3⟩ := hac
  have h1 := mem_near.1 h1
  have k1 : Abt (max a.1 c.1, max a.2 c.2) a := ⟨by dsimp only; omega, by dsimp only; omega⟩
  have k2 : Abt (max a.1 c.1, max a.2 c.2) c := ⟨by dsimp only; omega, by dsimp only; omega⟩
  exact (free_dul hb h2 k1).trans (free_dul hb h3 k2).symm
/-- into the frame -/
def clp (b : Bx) (c : Cel) : Cel := (max (b.x0 - 1) (min c.1 (b.x1 + 1)), max (b.y0 - 1) (min c.2 (b.y1 + 1)))
theorem free_iff {c : Cel} : freeL l b c = true ↔ c ∉ l ∧ b.x0 - 1 ≤ c.1 ∧ c.1 ≤ b.x1 + 1 ∧ b.y0 - 1 ≤ c.2 ∧ c.2 ≤ b.y1 + 1 := by
  unfold freeL
  simp only [Bool.and_eq_true, decide_eq_true_eq]
  constructor
  · rintro ⟨⟨⟨⟨h1, h2⟩, h3⟩, h4⟩, h5⟩; exact ⟨h1, h2, h3, h4, h5⟩
  · rintro ⟨h1, h2, h3, h4, h5⟩; exact ⟨⟨⟨⟨h1, h2⟩, h3⟩, h4⟩, h5⟩
theorem clp_free (hx : b.x0 ≤ b.x1) (hy : b.y0 ≤ b.y1) (hb : ∀ c ∈ l, b.inB c = true) {c : Cel} (hc : c ∉ l) : freeL l b (clp b c) = true := by
  rw [free_iff]
  refine ⟨fun h => ?_, by unfold clp; dsimp only; omega, by unfold clp; dsimp only; omega, by unfold clp; dsimp only; omega, by unfold clp; dsimp only; omega⟩
  have h1 := hb _ h
  unfold Bx.inB clp at h1
  simp only [Bool.and_eq_true, decide_eq_true_eq] at h1
  have e : clp b c = c := Prod.ext (by unfold clp; dsimp only; omega) (by unfold clp; dsimp only; omega)
  rw [e] at h; exact hc h
theorem fre_rch (hx : b.x0 ≤ b.x1) (hy : b.y0 ≤ b.y1) (hb : ∀ c ∈ l, b.inB c = true) {a c : Cel} (ha : freeL l b a = true) (hc : freeL l b c = true) : Rch nearL (freeL l b) a c ↔ Cl (Fre l) a c := by
  constructor
  · intro h
    clear hc
    induction h with
    | refl => exact .refl _
    | step h1 h2 h3 ih => exact ih.trans (.step ⟨h2, ((free_iff).1 (h1.good ha)).1, ((free_iff).1 h3).1⟩)
  · intro h
    have e : ∀ {d : Cel}, freeL l b d = true → clp b d = d := fun {d} hd => by
      obtain ⟨_, h1, h2, h3, h4⟩ := (free_iff).1 hd
      exact Prod.ext (by unfold clp; dsimp only; omega) (by unfold clp; dsimp only; omega)
    have hl : Cl (fun a c => c ∈ nearL a ∧ freeL l b a = true ∧ freeL l b c = true) (clp b a) (clp b c) := by
      refine Cl.lift (Cl.eqv _) (clp b) (fun a c hac => ?_) h
      obtain ⟨h1, h2, h3⟩ := hac
      have h1 := mem_near.1 h1
      by_cases hq : clp b c = clp b a
      · rw [hq]; exact .refl _
      · exact .step ⟨mem_near.2 ⟨hq, by unfold clp; dsimp only; omega, by unfold clp; dsimp only; omega, by unfold clp; dsimp only; omega, by unfold clp; dsimp only; omega⟩, clp_free hx hy hb h2, clp_free hx hy hb h3⟩
    rw [e ha, e hc] at hl
    clear h hc
    have hs : ∀ {p q : Cel}, Cl (fun a c => c ∈ nearL a ∧ freeL l b a = true ∧ freeL l b c = true) p q → (freeL l b p = true → Rch nearL (freeL l b) p q) ∧ (freeL l b q = true → Rch nearL (freeL l b) q p) := fun {p q} h => by
      induction h with
      | step h => exact ⟨fun _ => .step .refl h.1 h.2.2, fun _ => .step .refl (near_symm _ _ h.1) h.2.1⟩
      | refl a => exact ⟨fun _ => .refl, fun _ => .refl⟩
      | symm _ ih => exact ⟨ih.2, ih.1⟩
      | trans _ _ ih1 ih2 => exact ⟨fun h => (ih1.1 h).trans (ih2.1 ((ih1.1 h).good h)), fun h => (ih2.2 h).trans (ih1.2 ((ih2.2 h).good h))⟩
    exact (hs hl).1 ha
theorem fc_ex (R : Cel → Cel → Prop) (is : Cel → Bool) : ∀ (ds M : List Cel), ∃ k, Fc R is M ds k
  | [], M => ⟨0, .nil M⟩
  | c :: ds, M => by
    by_cases h : is c = false ∨ ∃ m ∈ M, R m c
    · obtain ⟨k, hk⟩ := fc_ex R is ds M
      exact ⟨k, .skip h hk⟩
    · obtain ⟨k, hk⟩ := fc_ex R is ds (c :: M)
      exact ⟨k + 1, .new (by cases h1 : is c with | true => rfl | false => exact absurd (.inl h1) h) (fun h2 => h (.inr h2)) hk⟩
/-- the free classes of the frame are the holes and one more -/
theorem holes_cls (hx : b.x0 ≤ b.x1) (hy : b.y0 ≤ b.y1) (hb : ∀ c ∈ l, b.inB c = true) {U : List Cel} {n : Nat} (hU : ∀ c, freeL l b c = true → c ∈ U) (hn : U.length ≤ n) : cls (Cl (Fre l)) ((boxCells b.fr).filter (freeL l b)) = holesL l b n + 1 := by
  obtain ⟨k, hk⟩ := fc_ex (Rch nearL (freeL l b)) (freeL l b) (boxCells b.fr) []
  rw [← holes_frame hx hy hb hU hn hk]
  have := fc_cls (Cl.eqv (Fre l)) (fun a c ha hc => fre_rch hx hy hb ha hc) hk (fun m h => nomatch h) [] (fun m h => nomatch h) (fun m h => nomatch h)
  rw [List.nil_append] at this
  rw [this]
  simp [cls]
theorem con_prm (hb : ∀ c ∈ l, b.inB c = true) {x y : Cel} (hx : x ∈ l) (hr : Rch sidesL (fun c => decide (c ∈ l)) x y) : Cl (Prm (edgA l b)) x y := by
  induction hr with
  | refl => exact .refl _
  | @step d e h1 h2 h3 ih =>
    have hd : d ∈ l := of_decide_eq_true (h1.good (decide_eq_true hx))
    have he : e ∈ l := of_decide_eq_true h3
    refine ih.trans ?_
    have st : ∀ g : Edg, pe g = (d, e) → Cl (Prm (edgA l b)) d e := fun g hg => .step ⟨g, (mem_edgA hb g).2 (by rw [hg]; exact ⟨hd, he⟩), hg⟩
    have st' : ∀ g : Edg, pe g = (e, d) → Cl (Prm (edgA l b)) d e := fun g hg => .symm (.step ⟨g, (mem_edgA hb g).2 (by rw [hg]; exact ⟨he, hd⟩), hg⟩)
    obtain ⟨x1, y1⟩ := d
    obtain ⟨x2, y2⟩ := e
    rcases mem_sides.1 h2 with ⟨k1, k2 | k2⟩ | ⟨k1, k2 | k2⟩ <;> dsimp only at k1 k2 <;> subst k1 <;> subst k2
    · exact st' (true, x2, y1) rfl
    · exact st (true, x2, y1 + 1) (by simp [pe])
    · exact st' (false, x1, y2) rfl
    · exact st (false, x1 + 1, y2) (by simp [pe])
/-- a part's corners: four times one less its holes -/
theorem part_chi (hx : b.x0 ≤ b.x1) (hy : b.y0 ≤ b.y1) (hb : ∀ c ∈ l, b.inB c = true) (hl : l.Nodup) (hne : l ≠ []) (hcon : ∀ c ∈ l, ∀ d ∈ l, Rch sidesL (fun c => decide (c ∈ l)) c d) {U : List Cel} {n : Nat} (hU : ∀ c, freeL l b c = true → c ∈ U) (hn : U.length ≤ n) {w h : Nat} (hw : ∀ c ∈ l, 0 ≤ c.1 ∧ c.1 < w ∧ 0 ≤ c.2 ∧ c.2 < h) :
    sm2 (w + 1) (h + 1) (chiU (vL l)) = 4 * (1 - (holesL l b n : Int)) := by
  have hN := boxCells_nodup b
  have hbx : ∀ c ∈ l, c ∈ boxCells b := fun c hc => by
    have := hb c hc
    unfold Bx.inB at this
    simp only [Bool.and_eq_true, decide_eq_true_eq] at this
    rw [mem_box]; omega
  have hnA : (edgA l b).Nodup := edg_nodup (hN.filter _) (hN.filter _)
  have hE := box_euler hx hy hnA (edgA_box hb)
  -- the pieces
  have hpr : ∀ {a c}, Prm (edgA l b) a c → a ∈ l ∧ c ∈ l := fun {a c} ⟨e, he, h⟩ => by
    have := (mem_edgA hb e).1 he
    rw [h] at this; exact this
  have p1 : cls (Cl (Prm (edgA l b))) (boxCells b) = 1 + ((boxCells b).filter fun c => !decide (c ∈ l)).length := by
    rw [cls_split (Cl.eqv _) (fun c => decide (c ∈ l))]
    · congr 1
      · refine cls_one _ (fun h => ?_) fun x hx y hy => ?_
        · obtain ⟨c, hc⟩ := List.exists_mem_of_ne_nil _ hne
          have : c ∈ (boxCells b).filter fun c => decide (c ∈ l) := List.mem_filter.2 ⟨hbx c hc, decide_eq_true hc⟩
          rw [h] at this; cases this
        · have hx := of_decide_eq_true (List.mem_filter.1 hx).2
          have hy := of_decide_eq_true (List.mem_filter.1 hy).2
          exact con_prm hb hx (hcon x hx y hy)
      · refine cls_len _ (hN.filter _) fun x hx y _ hxy => ?_
        have hx : x ∉ l := by simpa using (List.mem_filter.1 hx).2
        have := Cl.lift (r := fun a c : Bool => a = c) ⟨fun _ => rfl, fun h => h.symm, fun h k => h.trans k⟩ (fun q : Cel => decide (q = x)) (fun a c hac => by
          obtain ⟨k1, k2⟩ := hpr hac
          have e1 : a ≠ x := fun e => hx (by rw [← e]; exact k1)
          have e2 : c ≠ x := fun e => hx (by rw [← e]; exact k2)
          simp [e1, e2]) hxy
        simp at this
        exact this.symm
    · intro x _ y _ hx hy hxy
      have := Cl.lift (r := fun a c : Bool => a = c) ⟨fun _ => rfl, fun h => h.symm, fun h k => h.trans k⟩ (fun q : Cel => decide (q ∈ l)) (fun a c hac => by
          obtain ⟨k1, k2⟩ := hpr hac
          simp [k1, k2]) hxy
      rw [hx, hy] at this; cases this
  have p2 : ((boxCells b).filter fun c => !decide (c ∈ l)).length + l.length = (boxCells b).length := by
    have e1 : l.length = ((boxCells b).filter fun c => decide (c ∈ l)).length := nodup_eq hl (hN.filter _) fun c => by
      rw [List.mem_filter, decide_eq_true_eq]; exact ⟨fun h => ⟨hbx c h, h⟩, fun h => h.2⟩
    rw [e1]
    have : ∀ m : List Cel, (m.filter fun c => !decide (c ∈ l)).length + (m.filter fun c => decide (c ∈ l)).length = m.length := fun m => by
      induction m with
      | nil => rfl
      | cons c m ih => by_cases h : c ∈ l <;> simp [h] at ih ⊢ <;> omega
    exact this _
  -- the corners
  have hD : (boxD b).Nodup := by
    unfold boxD
    refine List.nodup_cons.2 ⟨fun h => ?_, hN.filter _⟩
    have := of_decide_eq_true (List.mem_filter.1 h).2
    exact this.1 rfl
  have hfull : ∀ x y, quad (vL l) x y = true → (x, y) ∈ boxD b := fun x y hq => by
    have k1 := hb _ (quad_all hq (c := (x - 1, y - 1)) ⟨.inl rfl, .inl rfl⟩)
    have k2 := hb _ (quad_all hq (c := (x, y)) ⟨.inr rfl, .inr rfl⟩)
    unfold Bx.inB at k1 k2
    simp only [Bool.and_eq_true, decide_eq_true_eq] at k1 k2
    refine List.mem_cons_of_mem _ (List.mem_filter.2 ⟨mem_box.2 ⟨by show b.x0 ≤ x; omega, by show x ≤ b.x1; omega, by show b.y0 ≤ y; omega, by show y ≤ b.y1; omega⟩, decide_eq_true ⟨by show x ≠ b.x0; omega, by show y ≠ b.y0; omega⟩⟩)
  have hiso : ∀ p q : Cel, quad (vL l) p.1 p.2 = true → Cl (Dul (edgA l b)) p q → p = q := fun p q hp h => by
    have := Cl.lift (r := fun a c : Bool => a = c) ⟨fun _ => rfl, fun h => h.symm, fun h k => h.trans k⟩ (fun q : Cel => decide (q = p)) (fun a c hac => by
      obtain ⟨e, he, hde⟩ := hac
      obtain ⟨a1, a2, a3, a4⟩ := pe_abt e
      rw [hde] at a1 a2 a3 a4
      have e1 : a ≠ p := fun e0 => he ((mem_edgA hb e).2 (by subst e0; exact ⟨quad_all hp a1, quad_all hp a2⟩))
      have e2 : c ≠ p := fun e0 => he ((mem_edgA hb e).2 (by subst e0; exact ⟨quad_all hp a3, quad_all hp a4⟩))
      simp [e1, e2]) h
    simp at this
    exact this.symm
  have d1 : cls (Cl (Dul (edgA l b))) (boxD b) = ((boxD b).filter fun p => quad (vL l) p.1 p.2).length + cls (Cl (Dul (edgA l b))) ((boxD b).filter fun p => !quad (vL l) p.1 p.2) := by
    rw [cls_split (Cl.eqv _) (fun p : Cel => quad (vL l) p.1 p.2)]
    · congr 1
      exact cls_len _ (hD.filter _) fun x hx y _ hxy => hiso x y (List.mem_filter.1 hx).2 hxy
    · intro x _ y _ hx hy hxy
      have := hiso x y hx hxy
      subst this
      rw [hx] at hy; cases hy
  have d2 : cls (Cl (Dul (edgA l b))) ((boxD b).filter fun p => !quad (vL l) p.1 p.2) = cls (Cl (Fre l)) ((boxCells b.fr).filter (freeL l b)) := by
    have hrange : ∀ p ∈ boxD b, b.x0 ≤ p.1 ∧ p.1 ≤ b.x1 + 1 ∧ b.y0 ≤ p.2 ∧ p.2 ≤ b.y1 + 1 := fun p hp => by
      rcases List.mem_cons.1 hp with rfl | hp
      · exact ⟨Int.le_refl _, by show b.x0 ≤ b.x1 + 1; omega, Int.le_refl _, by show b.y0 ≤ b.y1 + 1; omega⟩
      · have := mem_box.1 (List.mem_filter.1 hp).1; omega
    have hfr : ∀ c, freeL l b c = true → c ∈ (boxCells b.fr).filter (freeL l b) := fun c hc => List.mem_filter.2 ⟨by
      have := (free_iff).1 hc
      rw [mem_box]; unfold Bx.fr; dsimp only; omega, hc⟩
    refine cls_map (Cl.eqv _) (Cl.eqv _) (gC l) (fun p hp => ?_) (fun p hp q hq => ?_) (fun z hz => ?_)
    · obtain ⟨h1, h2⟩ := List.mem_filter.1 hp
      obtain ⟨c, hc, hcl⟩ := quad_no (by simpa using h2)
      refine ⟨gC l p, hfr _ ((free_iff).2 ⟨gC_free hc hcl, ?_⟩), .refl _⟩
      have := hrange p h1
      have k := gC_abt (l := l) p
      unfold Abt at k
      omega
    · obtain ⟨h1, h2⟩ := List.mem_filter.1 hp
      obtain ⟨c, hc, hcl⟩ := quad_no (by simpa using h2)
      obtain ⟨h3, h4⟩ := List.mem_filter.1 hq
      obtain ⟨c', hc', hcl'⟩ := quad_no (by simpa using h4)
      refine ⟨fun h => ?_, dul_fre hb⟩
      exact ((free_dul hb (gC_free hc hcl) (gC_abt p)).symm.trans (fre_dul hb h)).trans (free_dul hb (gC_free hc' hcl') (gC_abt q))
    · obtain ⟨_, h2⟩ := List.mem_filter.1 hz
      obtain ⟨k1, k2⟩ := (free_iff).1 h2
      have ha : Abt (max z.1 b.x0, max z.2 b.y0) z := ⟨by dsimp only; omega, by dsimp only; omega⟩
      obtain ⟨q, hq, hq2, hq3⟩ := rep (B := edgA l b) (edgA_box hb) (x := max z.1 b.x0) (y := max z.2 b.y0) (by omega) (by omega)
      refine ⟨q, List.mem_filter.2 ⟨hq, ?_⟩, (dul_fre hb hq2).trans (abt_near (gC_abt _) ha (gC_free ha k1) k1)⟩
      have : quad (vL l) q.1 q.2 ≠ true := fun hqq => by
        rcases hq3 with rfl | rfl
        · exact k1 (quad_all hqq ha)
        · have := hb _ (quad_all hqq (c := (b.x0 - 1, b.y0)) ⟨.inl rfl, .inr rfl⟩)
          unfold Bx.inB at this
          simp only [Bool.and_eq_true, decide_eq_true_eq] at this
          omega
      simpa using this
  have d3 := holes_cls hx hy hb hU hn
  -- the sums
  have hs : ∀ x y, vL l x y = true → 0 ≤ x ∧ x < w ∧ 0 ≤ y ∧ y < h := fun x y hv => hw (x, y) (of_decide_eq_true hv)
  rw [chi_sum hs]
  have s1 : sm2 (w + 1) (h + 1) (fun x y => b2 (vL l x y)) = l.length := sum_list hl (fun c hc => by have := hw c hc; omega) fun x y => decide_eq_true_iff
  have mh : ∀ x y, (vL l (x - 1) y && vL l x y) = true ↔ (x, y) ∈ (boxCells b).filter fun c => vL l (c.1 - 1) c.2 && vL l c.1 c.2 := fun x y => by
    rw [List.mem_filter]
    exact ⟨fun h => ⟨hbx _ (of_decide_eq_true (Bool.and_eq_true_iff.1 h).2), h⟩, fun h => h.2⟩
  have mv : ∀ x y, (vL l x (y - 1) && vL l x y) = true ↔ (x, y) ∈ (boxCells b).filter fun c => vL l c.1 (c.2 - 1) && vL l c.1 c.2 := fun x y => by
    rw [List.mem_filter]
    exact ⟨fun h => ⟨hbx _ (of_decide_eq_true (Bool.and_eq_true_iff.1 h).2), h⟩, fun h => h.2⟩
  have mq : ∀ x y, quad (vL l) x y = true ↔ (x, y) ∈ (boxD b).filter fun p => quad (vL l) p.1 p.2 := fun x y => by
    rw [List.mem_filter]
    exact ⟨fun h => ⟨hfull x y h, h⟩, fun h => h.2⟩
  have s2 := sum_list (m := w + 1) (n := h + 1) (hN.filter _) (fun c hc => by
    have := hs c.1 c.2 (Bool.and_eq_true_iff.1 (List.mem_filter.1 hc).2).2; omega) mh
  have s3 := sum_list (m := w + 1) (n := h + 1) (hN.filter _) (fun c hc => by
    have := hs c.1 c.2 (Bool.and_eq_true_iff.1 (List.mem_filter.1 hc).2).2; omega) mv
  have s4 := sum_list (m := w + 1) (n := h + 1) (hD.filter _) (fun c hc => by
    have := hw _ (quad_all (List.mem_filter.1 hc).2 (c := (c.1, c.2)) ⟨.inr rfl, .inr rfl⟩); omega) mq
  rw [s1, s2, s3, s4]
  have hA : (edgA l b).length = ((boxCells b).filter fun c => vL l (c.1 - 1) c.2 && vL l c.1 c.2).length + ((boxCells b).filter fun c => vL l c.1 (c.2 - 1) && vL l c.1 c.2).length := by
    unfold edgA
    rw [List.length_append, List.length_map, List.length_map]
  omega
end

/-- what the steps over the cells keep: each part is all that is reached -/
def PaJ (us : Cel → Bool) (n : Nat) (st : List Cel × List Prt) (ls : List (List Cel)) : Prop :=
  st.2 = ls.map (fun L => partL L n) ∧ st.1 = ls.flatten ∧ st.1.Nodup ∧ ∀ L ∈ ls, ∃ c, us c = true ∧ ∀ d, d ∈ L ↔ Rch sidesL us c d
theorem PaJ.step {us : Cel → Bool} {n : Nat} {U : List Cel} (hU : ∀ c, us c = true → c ∈ U) (hn : U.length ≤ n) {st : List Cel × List Prt} {ls : List (List Cel)} (h : PaJ us n st ls) (c : Cel) : ∃ ls', PaJ us n (partStep us n st c) ls' ∧ (∀ x ∈ st.1, x ∈ (partStep us n st c).1) ∧ (us c = true → c ∈ (partStep us n st c).1) := by
  obtain ⟨h1, h2, h3, h4⟩ := h
  unfold partStep
  by_cases hu : us c = true
  · rw [if_pos hu]
    by_cases hc : c ∈ st.1
    · rw [if_pos hc]
      exact ⟨ls, ⟨h1, h2, h3, h4⟩, fun _ h => h, fun _ => hc⟩
    · rw [if_neg hc]
      have hS : ∀ d, Rch sidesL us c d → d ∉ st.1 := fun d hd hm => by
        rw [h2] at hm hc
        obtain ⟨L, hL, hdL⟩ := List.mem_flatten.1 hm
        obtain ⟨c0, _, k⟩ := h4 L hL
        exact hc (List.mem_flatten.2 ⟨L, hL, (k c).2 (((k d).1 hdL).trans (hd.symm sides_symm hu))⟩)
      obtain ⟨k1, k2, k3⟩ := fld_all hU (hU c hu) hS hn
      refine ⟨ls ++ [(fld sidesL us n st.1 c).2], ⟨?_, ?_, ?_, fun L hL => ?_⟩, fun x hx => fld_old hx, fun _ => fld_self _ _ _ _ _⟩
      · show st.2 ++ _ = _
        rw [h1, List.map_append]; rfl
      · show (fld sidesL us n st.1 c).1 = _
        rw [k1, List.flatten_append, ← h2]; simp
      · show (fld sidesL us n st.1 c).1.Nodup
        rw [k1, List.nodup_append]
        exact ⟨h3, k2, fun a ha d hd e => by subst e; exact hS a ((k3 a).1 hd) ha⟩
      · rcases List.mem_append.1 hL with hL | hL
        · exact h4 L hL
        · simp at hL; subst hL; exact ⟨c, hu, k3⟩
  · rw [if_neg hu]
    exact ⟨ls, ⟨h1, h2, h3, h4⟩, fun _ h => h, fun h => absurd h hu⟩
theorem PaJ.steps {us : Cel → Bool} {n : Nat} {U : List Cel} (hU : ∀ c, us c = true → c ∈ U) (hn : U.length ≤ n) : ∀ (cs : List Cel) {st : List Cel × List Prt} {ls : List (List Cel)}, PaJ us n st ls → ∃ ls', PaJ us n (cs.foldl (partStep us n) st) ls' ∧ (∀ x ∈ st.1, x ∈ (cs.foldl (partStep us n) st).1) ∧ (∀ x ∈ cs, us x = true → x ∈ (cs.foldl (partStep us n) st).1)
  | [], st, ls, h => ⟨ls, h, fun _ h => h, fun x hx => absurd hx (by simp)⟩
  | c :: cs, st, ls, h => by
    obtain ⟨l1, h1, k1, k2⟩ := h.step hU hn c
    obtain ⟨l2, h2, k3, k4⟩ := PaJ.steps hU hn cs h1
    refine ⟨l2, h2, fun x hx => k3 x (k1 x hx), fun x hx hu => ?_⟩
    rcases List.mem_cons.1 hx with rfl | hx
    · exact k3 _ (k2 hu)
    · exact k4 x hx hu
/-- the parts: each is all that is reached from a cell -/
theorem parts_reach (us : Cel → Bool) (w h n : Nat) (hus : ∀ c, us c = true → c ∈ boxCells ⟨0, 0, (w : Int) - 1, (h : Int) - 1⟩) (hn : (boxCells ⟨0, 0, (w : Int) - 1, (h : Int) - 1⟩).length ≤ n) : ∃ ls : List (List Cel), partsL us w h n = ls.map (fun L => partL L n) ∧ ls.flatten.Nodup ∧ (∀ c, c ∈ ls.flatten ↔ us c = true) ∧ ∀ L ∈ ls, ∃ c, us c = true ∧ ∀ d, d ∈ L ↔ Rch sidesL us c d := by
  obtain ⟨ls, ⟨h1, h2, h3, h4⟩, _, h6⟩ := PaJ.steps hus hn (boxCells ⟨0, 0, (w : Int) - 1, (h : Int) - 1⟩) (st := ([], [])) (ls := []) ⟨rfl, rfl, by simp, by simp⟩
  refine ⟨ls, h1, by rw [← h2]; exact h3, fun c => ⟨fun hc => ?_, fun hc => by rw [← h2]; exact h6 c (hus c hc) hc⟩, h4⟩
  obtain ⟨L, hL, hcL⟩ := List.mem_flatten.1 hc
  obtain ⟨c0, k0, k⟩ := h4 L hL
  exact ((k c).1 hcL).good k0
theorem sumP_one {P : Cel} {t : List Cel → Bool} : ∀ ls : List (List Cel), ls.flatten.Nodup → (∀ L ∈ ls, t L = true → P ∈ L) → (ls.map fun L => b2 (t L)).sum = b2 (ls.any t)
  | [], _, _ => rfl
  | L :: ls, hn, h => by
    rw [List.flatten_cons, List.nodup_append] at hn
    have ih := sumP_one ls hn.2.1 fun M hM => h M (by simp [hM])
    rw [List.map_cons, List.sum_cons, ih, List.any_cons]
    cases ht : t L with
    | false => simp [b2]
    | true =>
      have hP := h L (by simp) ht
      have : ls.any t = false := by
        rw [List.any_eq_false]
        intro M hM hMt
        exact hn.2.2 P hP P (List.mem_flatten.2 ⟨M, hM, h M (by simp [hM]) hMt⟩) rfl
      rw [this]; rfl
theorem sum_add3 {α : Type} (f g : α → Int) : ∀ l : List α, (l.map fun x => f x + g x).sum = (l.map f).sum + (l.map g).sum
  | [] => rfl
  | a :: l => by simp only [List.map_cons, List.sum_cons]; rw [sum_add3 f g l]; omega
theorem sum_mul3 {α : Type} (k : Int) (f : α → Int) : ∀ l : List α, (l.map fun x => k * f x).sum = k * (l.map f).sum
  | [] => by simp
  | a :: l => by simp only [List.map_cons, List.sum_cons]; rw [sum_mul3 k f l, Int.mul_add]
theorem sm2_sum {α : Type} (m n : Nat) (f : α → Int → Int → Int) : ∀ l : List α, sm2 m n (fun x y => (l.map fun a => f a x y).sum) = (l.map fun a => sm2 m n (f a)).sum
  | [] => sm2_zero
  | a :: l => by
    simp only [List.map_cons, List.sum_cons]
    rw [← sm2_sum m n f l]
    exact sm2_add (f a) (fun x y => (l.map fun a => f a x y).sum)
section
variable {us : Cel → Bool} {ls : List (List Cel)}
theorem any_side (hr : ∀ L ∈ ls, ∃ c, us c = true ∧ ∀ d, d ∈ L ↔ Rch sidesL us c d) {L : List Cel} (hL : L ∈ ls) {p q : Cel} (hp : p ∈ L) (hq : us q = true) (hpq : q ∈ sidesL p) : q ∈ L := by
  obtain ⟨c, hc, k⟩ := hr L hL
  exact (k q).2 (.step ((k p).1 hp) hpq hq)
theorem chi_parts (hn : ls.flatten.Nodup) (hf : ∀ c, c ∈ ls.flatten ↔ us c = true) (hr : ∀ L ∈ ls, ∃ c, us c = true ∧ ∀ d, d ∈ L ↔ Rch sidesL us c d) (x y : Int) : (ls.map fun L => chiU (vL L) x y).sum = chiU (fun x y => us (x, y)) x y := by
  have one : ∀ p : Cel, (ls.map fun L => b2 (decide (p ∈ L))).sum = b2 (us p) := fun p => by
    rw [sumP_one (P := p) ls hn fun L _ h => of_decide_eq_true h]
    congr 1
    rw [Bool.eq_iff_iff, List.any_eq_true, ← hf p, List.mem_flatten]
    exact ⟨fun ⟨L, h1, h2⟩ => ⟨L, h1, of_decide_eq_true h2⟩, fun ⟨L, h1, h2⟩ => ⟨L, h1, decide_eq_true h2⟩⟩
  have two : ∀ p q : Cel, q ∈ sidesL p → (ls.map fun L => b2 (decide (p ∈ L) && decide (q ∈ L))).sum = b2 (us p && us q) := fun p q hpq => by
    rw [sumP_one (P := p) ls hn fun L _ h => of_decide_eq_true (Bool.and_eq_true_iff.1 h).1]
    congr 1
    rw [Bool.eq_iff_iff, List.any_eq_true]
    constructor
    · rintro ⟨L, h1, h2⟩
      obtain ⟨h2, h3⟩ := Bool.and_eq_true_iff.1 h2
      rw [Bool.and_eq_true, ← hf p, ← hf q]
      exact ⟨List.mem_flatten.2 ⟨L, h1, of_decide_eq_true h2⟩, List.mem_flatten.2 ⟨L, h1, of_decide_eq_true h3⟩⟩
    · intro h
      obtain ⟨h1, h2⟩ := Bool.and_eq_true_iff.1 h
      obtain ⟨L, hL, hp⟩ := List.mem_flatten.1 ((hf p).2 h1)
      exact ⟨L, hL, by rw [decide_eq_true hp, decide_eq_true (any_side hr hL hp h2 hpq)]; rfl⟩
  have four : (ls.map fun L => b2 (decide ((x - 1, y - 1) ∈ L) && decide ((x, y - 1) ∈ L) && decide ((x - 1, y) ∈ L) && decide ((x, y) ∈ L))).sum = b2 (us (x - 1, y - 1) && us (x, y - 1) && us (x - 1, y) && us (x, y)) := by
    rw [sumP_one (P := (x, y)) ls hn fun L _ h => of_decide_eq_true (Bool.and_eq_true_iff.1 h).2]
    congr 1
    rw [Bool.eq_iff_iff, List.any_eq_true]
    constructor
    · rintro ⟨L, h1, h2⟩
      simp only [Bool.and_eq_true, decide_eq_true_eq] at h2 ⊢
      have m : ∀ p, p ∈ L → us p = true := fun p hp => (hf p).1 (List.mem_flatten.2 ⟨L, h1, hp⟩)
      exact ⟨⟨⟨m _ h2.1.1.1, m _ h2.1.1.2⟩, m _ h2.1.2⟩, m _ h2.2⟩
    · intro h
      simp only [Bool.and_eq_true] at h
      obtain ⟨⟨⟨h1, h2⟩, h3⟩, h4⟩ := h
      obtain ⟨L, hL, hp⟩ := List.mem_flatten.1 ((hf _).2 h1)
      have k2 := any_side hr hL hp h2 (mem_sides.2 (.inr ⟨rfl, .inr (by show x = x - 1 + 1; omega)⟩))
      have k3 := any_side hr hL hp h3 (mem_sides.2 (.inl ⟨rfl, .inr (by show y = y - 1 + 1; omega)⟩))
      have k4 := any_side hr hL k2 h4 (mem_sides.2 (.inl ⟨rfl, .inr (by show y = y - 1 + 1; omega)⟩))
      exact ⟨L, hL, by simp only [decide_eq_true hp, decide_eq_true k2, decide_eq_true k3, decide_eq_true k4]; rfl⟩
  unfold chiU
  simp only [chi_eq, sum_add3, sum_mul3, vL]
  have hx : ∀ v : Int, (x, v) ∈ sidesL (x - 1, v) := fun v => mem_sides.2 (.inr ⟨rfl, .inr (by show x = x - 1 + 1; omega)⟩)
  have hy : ∀ u : Int, (u, y) ∈ sidesL (u, y - 1) := fun u => mem_sides.2 (.inl ⟨rfl, .inr (by show y = y - 1 + 1; omega)⟩)
  rw [one, one, one, one, two (x - 1, y - 1) (x, y - 1) (hx _), two (x - 1, y) (x, y) (hx _), two (x - 1, y - 1) (x - 1, y) (hy _), two (x, y - 1) (x, y) (hy _), four]
end
/-- all corners: four times the parts less their holes -/
theorem parts_chi {us : Cel → Bool} {w h : Nat} (hus : ∀ c, us c = true → 0 ≤ c.1 ∧ c.1 < w ∧ 0 ≤ c.2 ∧ c.2 < h) (hw : w ≤ 48) (hh : h ≤ 48) : sm2 (w + 1) (h + 1) (chiU fun x y => us (x, y)) = 4 * (((partsL us w h 3000).length : Int) - ((partsL us w h 3000).map fun p => (p.h : Int)).sum) := by
  have hbl : ∀ (W H : Nat), W ≤ 50 → H ≤ 50 → H * W ≤ 3000 := fun W H h1 h2 => Nat.le_trans (Nat.mul_le_mul h2 h1) (by decide)
  obtain ⟨ls, h1, h2, h3, h4⟩ := parts_reach us w h 3000 (fun c hc => by rw [mem_box]; have := hus c hc; dsimp only; omega) (by rw [box_len]; exact hbl _ _ (by dsimp only; omega) (by dsimp only; omega))
  have e1 : sm2 (w + 1) (h + 1) (chiU fun x y => us (x, y)) = (ls.map fun L => sm2 (w + 1) (h + 1) (chiU (vL L))).sum := by
    rw [← sm2_sum]
    exact sm2_congr fun x y _ _ _ _ => (chi_parts h2 h3 h4 x y).symm
  have e2 : ∀ L ∈ ls, sm2 (w + 1) (h + 1) (chiU (vL L)) = 4 * (1 - ((partL L 3000).h : Int)) := fun L hL => by
    obtain ⟨c, hc, k⟩ := h4 L hL
    have hcL : c ∈ L := (k c).2 .refl
    have hu : ∀ d ∈ L, us d = true := fun d hd => ((k d).1 hd).good hc
    have hbx : ∀ d ∈ L, d ∈ boxCells (boxL L) := fun d hd => box_has hd
    have hc2 := mem_box.1 (hbx c hcL)
    have hin := bxIn_box (l := L) fun d hd => by have := hus d (hu d hd); exact ⟨by omega, by omega, by omega, by omega⟩
    unfold BxIn at hin
    have hnd : L.Nodup := (List.sublist_flatten_of_mem hL).nodup h2
    refine part_chi (by omega) (by omega) (fun d hd => inBx_iff.2 (by have := mem_box.1 (hbx d hd); omega)) hnd (fun e => by rw [e] at hcL; cases hcL) (fun d hd e he => ?_) (U := boxCells (boxL L).fr) (fun d hd => ?_) ?_ (fun d hd => hus d (hu d hd))
    · have hde := ((k d).1 hd).symm sides_symm hc |>.trans ((k e).1 he)
      clear he
      induction hde with
      | refl => exact .refl
      | step h5 h6 h7 ih => exact .step ih h6 (decide_eq_true ((k _).2 (((k d).1 hd).trans (.step h5 h6 h7))))
    · have := (free_iff).1 hd
      rw [mem_box]; unfold Bx.fr; dsimp only; omega
    · rw [box_len]; exact hbl _ _ (by unfold Bx.fr; dsimp only; omega) (by unfold Bx.fr; dsimp only; omega)
  rw [e1, h1, List.map_map, List.length_map]
  clear e1 h1 h2 h3 h4
  induction ls with
  | nil => rfl
  | cons L ls ih =>
    have ih := ih fun M hM => e2 M (by simp [hM])
    rw [List.map_cons, List.sum_cons, List.map_cons, List.sum_cons, e2 L (by simp), ih, List.length_cons]
    simp only [Function.comp_apply]
    omega
end Go.Proofs.YtmgofdgbenfjmaaDoor
