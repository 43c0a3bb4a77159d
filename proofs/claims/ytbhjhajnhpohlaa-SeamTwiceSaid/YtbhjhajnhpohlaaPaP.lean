/- Plain law of the walks that double seams: the first seam of a shortest walk, the lines along it. No conditions. -/
import Derived.Test.YtbhjhajnhpohlaaShQ
import Derived.Test.YtbhjhajnhpohlaaTrP
import Derived.Test.YtbhjhajnhpohlaaDbP
namespace Go.Proofs.Ytbhjhajnhpohlaa

/-- the first seam of the walk that the table stands for -/
def Fst (l : List Sm) (L F : Mx) (i j : Nat) : Prop :=
  ∃ (q : Nat) (hq : q < l.length), F i j = q ∧ ((l[q].a.toNat = i ∧ Wk l l[q].b.toNat j (L i j - l[q].n)) ∨ (l[q].b.toNat = i ∧ Wk l l[q].a.toNat j (L i j - l[q].n)))
structure Jt (l : List Sm) (t : Tb) : Prop where
  s : Snd l t.L
  f : ∀ i j, i ≠ j → t.L i j < far → Fst l t.L t.F i j
theorem Jt.B {N : Int} {l : List Sm} (h : ∀ s ∈ l, SmOk N s) : ∀ k, k ≤ l.length → Jt l (tbB l k)
  | 0, hk => ⟨(tbB_snd h 0 hk).1, fun i j hij hlt => by
      have e : (tbB l 0).L i j = if i = j then 0 else far := rfl
      rw [e, if_neg hij] at hlt
      omega⟩
  | k + 1, hk => by
    refine ⟨(tbB_snd h (k + 1) hk).1, ?_⟩
    have ih := Jt.B h k (by omega)
    have hlt : k < l.length := by omega
    have hs := h _ (List.getElem_mem hlt)
    unfold SmOk at hs
    by_cases hc : l[k].a.toNat ≠ l[k].b.toNat ∧ l[k].n < (tbB l k).L l[k].a.toNat l[k].b.toNat
    · rw [tbB_yes hlt rfl (a := l[k].a.toNat) (b := l[k].b.toNat) (by omega) (by omega) hc]
      intro i j hij hf
      have hf' : set2 (set2 (tbB l k).L l[k].a.toNat l[k].b.toNat l[k].n) l[k].b.toNat l[k].a.toNat l[k].n i j < far := hf
      show Fst l (set2 (set2 (tbB l k).L l[k].a.toNat l[k].b.toNat l[k].n) l[k].b.toNat l[k].a.toNat l[k].n) (set2 (set2 (tbB l k).F l[k].a.toNat l[k].b.toNat k) l[k].b.toNat l[k].a.toNat k) i j
      by_cases h1 : i = l[k].b.toNat ∧ j = l[k].a.toNat
      · refine ⟨k, hlt, by unfold set2; rw [if_pos h1], .inr ⟨h1.1.symm, ?_⟩⟩
        have e : set2 (set2 (tbB l k).L l[k].a.toNat l[k].b.toNat l[k].n) l[k].b.toNat l[k].a.toNat l[k].n i j = l[k].n := by unfold set2; rw [if_pos h1]
        rw [e, h1.2]
        exact (Wk.nil _).cast (by omega)
      · by_cases h2 : i = l[k].a.toNat ∧ j = l[k].b.toNat
        · refine ⟨k, hlt, by unfold set2; rw [if_neg h1, if_pos h2], .inl ⟨h2.1.symm, ?_⟩⟩
          have e : set2 (set2 (tbB l k).L l[k].a.toNat l[k].b.toNat l[k].n) l[k].b.toNat l[k].a.toNat l[k].n i j = l[k].n := by unfold set2; rw [if_neg h1, if_pos h2]
          rw [e, h2.2]
          exact (Wk.nil _).cast (by omega)
        · have e : set2 (set2 (tbB l k).L l[k].a.toNat l[k].b.toNat l[k].n) l[k].b.toNat l[k].a.toNat l[k].n i j = (tbB l k).L i j := by unfold set2; rw [if_neg h1, if_neg h2]
          rw [e] at hf'
          obtain ⟨q, hq, e1, e2⟩ := ih.f i j hij hf'
          refine ⟨q, hq, by unfold set2; rw [if_neg h1, if_neg h2]; exact e1, ?_⟩
          rw [e]
          exact e2
    · rw [tbB_no hlt rfl (a := l[k].a.toNat) (b := l[k].b.toNat) (by omega) (by omega) hc]
      exact ih.f
theorem Jt.st1 {l : List Sm} {t : Tb} (h : Jt l t) (c a b : Nat) : Jt l (st1 t c a b) := by
  unfold Go.Proofs.Ytbhjhajnhpohlaa.st1
  split
  · rename_i hc
    have r1 := h.s.rng a c
    have r2 := h.s.rng c b
    have r3 := h.s.rng a b
    have hab : a ≠ b := fun e => by subst e; have := h.s.dia a; omega
    have hac : a ≠ c := fun e => by subst e; have := h.s.dia a; omega
    have es : ∀ i j, set2 t.L a b (t.L a c + t.L c b) i j = if i = a ∧ j = b then t.L a c + t.L c b else t.L i j := fun i j => rfl
    refine ⟨⟨?_, fun i => ?_, fun i j hij => ?_⟩, fun i j hij hf => ?_⟩
    · exact set2_bd h.s.rng ⟨by omega, by omega⟩
    · show set2 t.L a b _ i i = 0
      rw [es, if_neg (fun e => hab (e.1.symm.trans e.2))]
      exact h.s.dia i
    · have hij' : set2 t.L a b (t.L a c + t.L c b) i j < far := hij
      show Wk l i j (set2 t.L a b (t.L a c + t.L c b) i j)
      rw [es] at hij' ⊢
      split
      · rename_i e
        rw [e.1, e.2]
        exact (h.s.wlk a c (by omega)).trans (h.s.wlk c b (by omega))
      · rename_i e
        rw [if_neg e] at hij'
        exact h.s.wlk i j hij'
    · have hf' : set2 t.L a b (t.L a c + t.L c b) i j < far := hf
      show Fst l (set2 t.L a b (t.L a c + t.L c b)) (set2 t.F a b (t.F a c)) i j
      unfold Fst
      rw [es] at hf' ⊢
      have ef : set2 t.F a b (t.F a c) i j = if i = a ∧ j = b then t.F a c else t.F i j := rfl
      rw [ef]
      by_cases e : i = a ∧ j = b
      · rw [if_pos e, if_pos e]
        obtain ⟨q, hq, e1, e2⟩ := h.f a c hac (by omega)
        refine ⟨q, hq, e1, ?_⟩
        rw [e.1, e.2]
        have hw := h.s.wlk c b (by omega)
        rcases e2 with ⟨e2, e3⟩ | ⟨e2, e3⟩
        · exact .inl ⟨e2, (e3.trans hw).cast (by omega)⟩
        · exact .inr ⟨e2, (e3.trans hw).cast (by omega)⟩
      · rw [if_neg e] at hf' ⊢
        rw [if_neg e]
        exact h.f i j hij hf'
  · exact h
theorem Jt.stB {l : List Sm} {t : Tb} (h : Jt l t) (c a : Nat) : ∀ b, Jt l (stB t c a b)
  | 0 => h
  | b + 1 => (Jt.stB h c a b).st1 c a b
theorem Jt.stA {l : List Sm} {t : Tb} (h : Jt l t) (c n : Nat) : ∀ a, Jt l (stA t c n a)
  | 0 => h
  | a + 1 => (Jt.stA h c n a).stB c a n
theorem Jt.stC {l : List Sm} {t : Tb} (h : Jt l t) (n : Nat) : ∀ c, Jt l (stC t n c)
  | 0 => h
  | c + 1 => (Jt.stC h n c).stA c n n
theorem tbl_jt {n : Nat} {l : List Sm} (h : ∀ s ∈ l, SmOk n s) : Jt l (tbl n l) := (Jt.B h l.length (Nat.le_refl _)).stC n n
theorem tbl_tri {n : Nat} {l : List Sm} (h : ∀ s ∈ l, SmOk n s) : Tri n n (tbl n l).L := (stC_inv (tbB_snd h l.length (Nat.le_refl _)).1 n (Nat.le_refl _)).2.1
/-- one step along a shortest walk -/
theorem tbl_step {n : Nat} {l : List Sm} (h : ∀ s ∈ l, SmOk n s) {a b : Nat} (ha : a < n) (hb : b < n) (hab : a ≠ b) (hf : (tbl n l).L a b < far) :
    ∃ (q : Nat) (hq : q < l.length) (x : Nat), (tbl n l).F a b = q ∧ ((l[q].a = a ∧ l[q].b = x) ∨ (l[q].b = a ∧ l[q].a = x)) ∧ x < n ∧ (tbl n l).L a b = l[q].n + (tbl n l).L x b ∧ 1 ≤ l[q].n := by
  obtain ⟨q, hq, e1, e2⟩ := (tbl_jt h).f a b hab hf
  have hso := h _ (List.getElem_mem hq)
  unfold SmOk at hso
  have he := tbl_edge h hq
  rcases e2 with ⟨e2, e3⟩ | ⟨e2, e3⟩
  · have h1 := tbl_le h e3 (by omega)
    have h2 := tbl_tri h l[q].b.toNat (by omega) a b ha hb
    have h3 := he.1
    rw [e2] at h3
    exact ⟨q, hq, l[q].b.toNat, e1, .inl ⟨by omega, by omega⟩, by omega, by omega, by omega⟩
  · have h1 := tbl_le h e3 (by omega)
    have h2 := tbl_tri h l[q].a.toNat (by omega) a b ha hb
    have h3 := he.2
    rw [e2] at h3
    exact ⟨q, hq, l[q].a.toNat, e1, .inr ⟨by omega, by omega⟩, by omega, by omega, by omega⟩
/-- either far or not very long -/
def Bq (B : Int) (L : Mx) : Prop := ∀ i j, L i j = far ∨ L i j ≤ B
theorem Bq.tbB {N : Int} {l : List Sm} (h : ∀ s ∈ l, SmOk N s) : ∀ k, k ≤ l.length → Bq 10000 (tbB l k).L
  | 0, _ => fun i j => by
    show (if i = j then (0 : Int) else far) = far ∨ (if i = j then (0 : Int) else far) ≤ 10000
    split
    · exact .inr (by omega)
    · exact .inl rfl
  | k + 1, hk => by
    have ih := Bq.tbB h k (by omega)
    have hlt : k < l.length := by omega
    have hs := h _ (List.getElem_mem hlt)
    unfold SmOk at hs
    by_cases hc : l[k].a.toNat ≠ l[k].b.toNat ∧ l[k].n < (Go.Proofs.Ytbhjhajnhpohlaa.tbB l k).L l[k].a.toNat l[k].b.toNat
    · rw [tbB_yes hlt rfl (a := l[k].a.toNat) (b := l[k].b.toNat) (by omega) (by omega) hc]
      intro i j
      show set2 (set2 _ _ _ _) _ _ _ i j = far ∨ set2 (set2 _ _ _ _) _ _ _ i j ≤ 10000
      unfold set2
      split
      · exact .inr (by omega)
      · split
        · exact .inr (by omega)
        · exact ih i j
    · rw [tbB_no hlt rfl (a := l[k].a.toNat) (b := l[k].b.toNat) (by omega) (by omega) hc]
      exact ih
theorem Bq.stC {l : List Sm} {t : Tb} {n : Nat} {B : Int} (hs : Snd l t.L) (h : Bq B t.L) (hB : 0 ≤ B) : ∀ c, c ≤ n → Bq (B * 2 ^ c) (stC t n c).L
  | 0, _ => by simpa [Go.Proofs.Ytbhjhajnhpohlaa.stC] using h
  | c + 1, hc => by
    have ih := Bq.stC (n := n) hs h hB c (by omega)
    obtain ⟨h1, -, -⟩ := stC_inv (n := n) hs c (by omega)
    have e := stA_L (t := Go.Proofs.Ytbhjhajnhpohlaa.stC t n c) (c := c) (n := n) (h1.dia c) n
    intro i j
    show (Go.Proofs.Ytbhjhajnhpohlaa.stA (Go.Proofs.Ytbhjhajnhpohlaa.stC t n c) c n n).L i j = far ∨ (Go.Proofs.Ytbhjhajnhpohlaa.stA (Go.Proofs.Ytbhjhajnhpohlaa.stC t n c) c n n).L i j ≤ _
    rw [e]
    have hp : B * 2 ^ (c + 1) = 2 * (B * 2 ^ c) := by rw [Int.pow_succ, ← Int.mul_assoc]; omega
    have h0 : 0 ≤ B * 2 ^ c := Int.mul_nonneg hB (Int.pow_nonneg (by decide))
    rw [hp]
    have i1 := ih i j
    have i2 := ih i c
    have i3 := ih c j
    have r1 := h1.rng i j
    have r2 := h1.rng i c
    have r3 := h1.rng c j
    split
    · unfold via; omega
    · omega
theorem tbl_bq {n : Nat} {l : List Sm} (h : ∀ s ∈ l, SmOk n s) (hn : n ≤ 16) {a b : Nat} (hf : (tbl n l).L a b < far) : (tbl n l).L a b ≤ 655360000 := by
  have h1 := Bq.stC (n := n) (tbB_snd h l.length (Nat.le_refl _)).1 (Bq.tbB h l.length (Nat.le_refl _)) (by decide) n (Nat.le_refl _)
  have h2 : (tbl n l).L a b = far ∨ (tbl n l).L a b ≤ 10000 * 2 ^ n := h1 a b
  have h3 : (2 : Int) ^ n ≤ 65536 := by
    have : (2 : Nat) ^ n ≤ 2 ^ 16 := Nat.pow_le_pow_right (by omega) hn
    have e : ((2 ^ n : Nat) : Int) = 2 ^ n := by push_cast; rfl
    rw [← e]
    have e2 : (2 : Nat) ^ 16 = 65536 := by simp
    omega
  omega

/-- a line is a copy of a seam -/
def IsLn (l : List Sm) (s : Ln) : Prop := ∃ (q : Nat) (hq : q < l.length), s = ⟨q, l[q].a, l[q].b⟩
def lnLen (l : List Sm) (s : Ln) : Int := (l.getD s.k.toNat ⟨0, 0, 0, 0⟩).n
def lnSum (l : List Sm) (X : List Ln) : Int := (X.map (lnLen l)).sum
theorem lnSum_append (l : List Sm) (X Y : List Ln) : lnSum l (X ++ Y) = lnSum l X + lnSum l Y := by
  unfold lnSum; rw [List.map_append, List.sum_append_int]
theorem lnDeg_append (X Y : List Ln) (v : Int) : lnDeg (X ++ Y) v = lnDeg X v + lnDeg Y v := by
  unfold lnDeg; rw [List.map_append, List.sum_append_nat]
/-- lines that were added: copies of seams, their length, the parity of their ends -/
structure Xt (l : List Sm) (X : List Ln) (S : Int) (P : Int → Nat) : Prop where
  ln : ∀ s ∈ X, IsLn l s
  sm : lnSum l X = S
  pr : ∀ v, lnDeg X v % 2 = P v % 2
theorem Xt.nil (l : List Sm) : Xt l [] 0 (fun _ => 0) := ⟨(fun s h => by cases h), rfl, fun v => rfl⟩
def at1 (a : Nat) (v : Int) : Nat := if (a : Int) = v then 1 else 0
theorem Xt.step {l : List Sm} {X : List Ln} {S : Int} {P : Int → Nat} {q a x : Nat} (h : Xt l X S P) (hq : q < l.length) (he : (l[q].a = a ∧ l[q].b = x) ∨ (l[q].b = a ∧ l[q].a = x)) : Xt l (X ++ [⟨q, l[q].a, l[q].b⟩]) (S + l[q].n) (fun v => P v + at1 a v + at1 x v) := by
  refine ⟨fun s hs => ?_, ?_, fun v => ?_⟩
  · rcases List.mem_append.1 hs with hs | hs
    · exact h.ln s hs
    · exact ⟨q, hq, by simpa using hs⟩
  · rw [lnSum_append, h.sm]
    congr 1
    simp [lnSum, lnLen, List.getD_eq_getElem?_getD, hq]
  · rw [lnDeg_append]
    have e : lnDeg [(⟨q, l[q].a, l[q].b⟩ : Ln)] v = at1 a v + at1 x v := by
      unfold lnDeg lnInc at1
      simp only [List.map_cons, List.map_nil, List.sum_cons, List.sum_nil]
      rcases he with ⟨e1, e2⟩ | ⟨e1, e2⟩
      · rw [e1, e2]; omega
      · rw [e1, e2]; omega
    rw [e]
    have := h.pr v
    omega
theorem Xt.par {l : List Sm} {X : List Ln} {S S' : Int} {P P' : Int → Nat} (h : Xt l X S P) (hS : S = S') (hP : ∀ v, P v % 2 = P' v % 2) : Xt l X S' P' := ⟨h.ln, h.sm.trans hS, fun v => (h.pr v).trans (hP v)⟩

theorem countP_lt {p q : Nat → Bool} : ∀ {l : List Nat} {x : Nat}, (∀ y ∈ l, p y = true → q y = true) → x ∈ l → q x = true → p x = false → l.countP p < l.countP q
  | [], x, _, hx, _, _ => by cases hx
  | y :: l, x, h, hx, hq, hp => by
    have hle : l.countP p ≤ l.countP q := List.countP_mono_left (fun z hz => h z (by simp [hz]))
    rw [List.countP_cons, List.countP_cons]
    rcases List.mem_cons.1 hx with rfl | hx
    · rw [hq, hp]; simp; omega
    · have ih := countP_lt (fun z hz => h z (by simp [hz])) hx hq hp
      have hy := h y (by simp)
      by_cases e : p y = true
      · rw [e, hy e]; simp; omega
      · rw [if_neg e]
        split <;> omega
/-- how many joints are nearer to b -/
def rk (L : Mx) (b a : Nat) : Nat := (List.range 16).countP fun j => decide (L j b < L a b)
theorem rk_lt {L : Mx} {a b x : Nat} (hx : x < 16) (h : L x b < L a b) : rk L b x < rk L b a := by
  unfold rk
  refine countP_lt (x := x) (fun y _ hy => ?_) (by simpa using hx) (by simpa using h) (by simp)
  have := of_decide_eq_true hy
  exact decide_eq_true (by omega)
theorem rk_le (L : Mx) (b a : Nat) : rk L b a ≤ 16 := by
  have := List.countP_le_length (p := fun j => decide (L j b < L a b)) (l := List.range 16)
  simpa [rk] using this
end Go.Proofs.Ytbhjhajnhpohlaa
