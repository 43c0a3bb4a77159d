/- Plain law of the least lengths: the program's table has the length of a shortest walk. No conditions. -/
import Derived.Test.YtbhjhajnhpohlaaShP
namespace Go.Proofs.Ytbhjhajnhpohlaa

/-- a walk and its length -/
inductive Wk (l : List Sm) : Nat → Nat → Int → Prop
  | nil (a : Nat) : Wk l a a 0
  | fwd {a : Nat} {w : Int} (q : Nat) (hq : q < l.length) : Wk l a l[q].a.toNat w → Wk l a l[q].b.toNat (w + l[q].n)
  | bwd {a : Nat} {w : Int} (q : Nat) (hq : q < l.length) : Wk l a l[q].b.toNat w → Wk l a l[q].a.toNat (w + l[q].n)
theorem Wk.cast {l : List Sm} {a b : Nat} {v w : Int} (h : Wk l a b v) (e : v = w) : Wk l a b w := e ▸ h
theorem Wk.trans {l : List Sm} {a b c : Nat} {v w : Int} (h : Wk l a b v) (h2 : Wk l b c w) : Wk l a c (v + w) := by
  induction h2 with
  | nil => exact h.cast (by omega)
  | fwd q hq _ ih => exact (Wk.fwd q hq ih).cast (by omega)
  | bwd q hq _ ih => exact (Wk.bwd q hq ih).cast (by omega)
theorem Wk.one {l : List Sm} (q : Nat) (hq : q < l.length) : Wk l l[q].a.toNat l[q].b.toNat l[q].n := (Wk.fwd q hq (.nil _)).cast (by omega)
theorem Wk.back {l : List Sm} (q : Nat) (hq : q < l.length) : Wk l l[q].b.toNat l[q].a.toNat l[q].n := (Wk.bwd q hq (.nil _)).cast (by omega)

/-- zero from a joint to itself, far or a walk elsewhere -/
structure Snd (l : List Sm) (L : Mx) : Prop where
  rng : ∀ i j, 0 ≤ L i j ∧ L i j ≤ far
  dia : ∀ i, L i i = 0
  wlk : ∀ i j, L i j < far → Wk l i j (L i j)

theorem tbB_snd {N : Int} {l : List Sm} (h : ∀ s ∈ l, SmOk N s) : ∀ k, k ≤ l.length → Snd l (tbB l k).L ∧ (∀ i j, (tbB l k).L i j = (tbB l k).L j i)
  | 0, _ => by
    refine ⟨⟨Bd.B h 0, fun i => by show (if i = i then (0 : Int) else far) = 0; rw [if_pos rfl], fun i j hlt => ?_⟩, fun i j => ?_⟩
    · have e : (tbB l 0).L i j = if i = j then 0 else far := rfl
      rw [e] at hlt ⊢
      split at hlt
      · rename_i hij; subst hij; rw [if_pos rfl]; exact .nil _
      · omega
    · show (if i = j then (0 : Int) else far) = if j = i then 0 else far
      split <;> split <;> first | rfl | omega
  | k + 1, hk => by
    have hlt : k < l.length := by omega
    obtain ⟨ih, hsym⟩ := tbB_snd h k (by omega)
    have hs := h _ (List.getElem_mem hlt)
    unfold SmOk at hs
    by_cases hc : l[k].a.toNat ≠ l[k].b.toNat ∧ l[k].n < (tbB l k).L l[k].a.toNat l[k].b.toNat
    · rw [tbB_yes hlt rfl (a := l[k].a.toNat) (b := l[k].b.toNat) (by omega) (by omega) hc]
      refine ⟨⟨?_, fun i => ?_, fun i j hij => ?_⟩, fun i j => ?_⟩
      · have hv : 0 ≤ l[k].n ∧ l[k].n ≤ far := by unfold far; omega
        exact set2_bd (set2_bd ih.rng hv) hv
      · show set2 (set2 _ _ _ _) _ _ _ i i = 0
        unfold set2
        rw [if_neg (by omega), if_neg (by omega)]
        exact ih.dia i
      · show Wk l i j (set2 (set2 (tbB l k).L l[k].a.toNat l[k].b.toNat l[k].n) l[k].b.toNat l[k].a.toNat l[k].n i j)
        have hij' : set2 (set2 (tbB l k).L l[k].a.toNat l[k].b.toNat l[k].n) l[k].b.toNat l[k].a.toNat l[k].n i j < far := hij
        unfold set2 at hij' ⊢
        split
        · rename_i h1; rw [h1.1, h1.2]; exact .back k hlt
        · rename_i h0
          rw [if_neg h0] at hij'
          split
          · rename_i h1; rw [h1.1, h1.2]; exact .one k hlt
          · rename_i h1
            rw [if_neg h1] at hij'
            exact ih.wlk i j hij'
      · show set2 (set2 _ _ _ _) _ _ _ i j = set2 (set2 _ _ _ _) _ _ _ j i
        unfold set2
        have := hsym i j
        repeat' split
        all_goals first | rfl | exact this | omega
    · rw [tbB_no hlt rfl (a := l[k].a.toNat) (b := l[k].b.toNat) (by omega) (by omega) hc]
      exact ⟨ih, hsym⟩
theorem tbB_edge {N : Int} {l : List Sm} (h : ∀ s ∈ l, SmOk N s) : ∀ k, k ≤ l.length → ∀ q (hq : q < l.length), q < k → (tbB l k).L l[q].a.toNat l[q].b.toNat ≤ l[q].n
  | 0, _, q, _, hk => absurd hk (by omega)
  | k + 1, hk, q, hq, hqk => by
    have hlt : k < l.length := by omega
    have ih := tbB_edge h k (by omega)
    obtain ⟨hsd, hsym⟩ := tbB_snd h k (by omega)
    have hs := h _ (List.getElem_mem hlt)
    unfold SmOk at hs
    by_cases hc : l[k].a.toNat ≠ l[k].b.toNat ∧ l[k].n < (tbB l k).L l[k].a.toNat l[k].b.toNat
    · rw [tbB_yes hlt rfl (a := l[k].a.toNat) (b := l[k].b.toNat) (by omega) (by omega) hc]
      show set2 (set2 _ _ _ _) _ _ _ _ _ ≤ _
      by_cases hqe : q = k
      · subst hqe
        unfold set2
        split
        · omega
        · rw [if_pos ⟨rfl, rfl⟩]; omega
      · have i1 := ih q hq (by omega)
        have hsy := hsym l[k].a.toNat l[k].b.toNat
        unfold set2
        split
        · rename_i h1
          rw [h1.1, h1.2] at i1
          omega
        · split
          · rename_i h1
            rw [h1.1, h1.2] at i1
            omega
          · exact i1
    · rw [tbB_no hlt rfl (a := l[k].a.toNat) (b := l[k].b.toNat) (by omega) (by omega) hc]
      by_cases hqe : q = k
      · subst hqe
        by_cases he : l[q].a.toNat = l[q].b.toNat
        · rw [he, hsd.dia]; omega
        · have : ¬ l[q].n < (tbB l q).L l[q].a.toNat l[q].b.toNat := fun h => hc ⟨he, h⟩
          omega
      · exact ih q hq (by omega)

/-- by way of c -/
def via (L : Mx) (c i j : Nat) : Int := min (L i j) (L i c + L c j)
theorem stB_L {t : Tb} {c a : Nat} (h0 : t.L c c = 0) : ∀ b, ∀ i j, (stB t c a b).L i j = if i = a ∧ j < b then via t.L c i j else t.L i j
  | 0, i, j => by rw [if_neg (by omega)]; rfl
  | b + 1, i, j => by
    have ih := stB_L (t := t) (c := c) (a := a) h0 b
    have e1 : (stB t c a b).L a c = t.L a c := by
      rw [ih]
      split
      · unfold via; rw [h0]; omega
      · rfl
    have e2 : (stB t c a b).L c b = t.L c b := by rw [ih, if_neg (by omega)]
    have e3 : (stB t c a b).L a b = t.L a b := by rw [ih, if_neg (by omega)]
    show (st1 (stB t c a b) c a b).L i j = _
    unfold st1
    rw [e1, e2, e3]
    split
    · rename_i hlt
      show set2 (stB t c a b).L a b _ i j = _
      unfold set2
      by_cases hij : i = a ∧ j = b
      · rw [if_pos hij, if_pos (by omega), hij.1, hij.2]
        unfold via
        omega
      · rw [if_neg hij, ih]
        by_cases h2 : i = a ∧ j < b
        · rw [if_pos h2, if_pos (by omega)]
        · rw [if_neg h2, if_neg (by omega)]
    · rename_i hlt
      rw [ih]
      by_cases h2 : i = a ∧ j < b
      · rw [if_pos h2, if_pos (by omega)]
      · rw [if_neg h2]
        by_cases hij : i = a ∧ j = b
        · rw [if_pos (by omega), hij.1, hij.2]
          unfold via
          omega
        · rw [if_neg (by omega)]
theorem stA_L {t : Tb} {c n : Nat} (h0 : t.L c c = 0) : ∀ a, ∀ i j, (stA t c n a).L i j = if i < a ∧ j < n then via t.L c i j else t.L i j
  | 0, i, j => by rw [if_neg (by omega)]; rfl
  | a + 1, i, j => by
    have ih := stA_L (t := t) (c := c) (n := n) h0 a
    have hcc : (stA t c n a).L c c = 0 := by
      rw [ih]
      split
      · unfold via; rw [h0]; omega
      · exact h0
    show (stB (stA t c n a) c a n).L i j = _
    rw [stB_L hcc]
    by_cases h1 : i = a ∧ j < n
    · rw [if_pos h1, if_pos (by omega), h1.1]
      have e1 : (stA t c n a).L a j = t.L a j := by rw [ih, if_neg (by omega)]
      have e2 : (stA t c n a).L a c = t.L a c := by rw [ih, if_neg (by omega)]
      have e3 : (stA t c n a).L c j = t.L c j := by
        rw [ih]
        split
        · unfold via; rw [h0]; omega
        · rfl
      unfold via
      rw [e1, e2, e3]
    · rw [if_neg h1, ih]
      by_cases h2 : i < a ∧ j < n
      · rw [if_pos h2, if_pos (by omega)]
      · rw [if_neg h2, if_neg (by omega)]
/-- no way by one of the first c joints is shorter -/
def Tri (n c : Nat) (L : Mx) : Prop := ∀ k, k < c → ∀ i j, i < n → j < n → L i j ≤ L i k + L k j
theorem stC_inv {l : List Sm} {t : Tb} {n : Nat} (hs : Snd l t.L) : ∀ c, c ≤ n → Snd l (stC t n c).L ∧ Tri n c (stC t n c).L ∧ (∀ i j, (stC t n c).L i j ≤ t.L i j)
  | 0, _ => ⟨hs, fun k hk => absurd hk (by omega), fun _ _ => Int.le_refl _⟩
  | c + 1, hc => by
    obtain ⟨h1, h2, h3⟩ := stC_inv (n := n) hs c (by omega)
    have e := stA_L (t := stC t n c) (c := c) (n := n) (h1.dia c) n
    have hv : ∀ i j, i < n → j < n → (stC t n (c + 1)).L i j = via (stC t n c).L c i j := fun i j hi hj => by
      show (stA (stC t n c) c n n).L i j = _
      rw [e, if_pos ⟨hi, hj⟩]
    have hle : ∀ i j, (stC t n (c + 1)).L i j ≤ (stC t n c).L i j := fun i j => by
      show (stA (stC t n c) c n n).L i j ≤ _
      rw [e]
      split
      · unfold via; omega
      · omega
    have hw : ∀ i j, (stC t n (c + 1)).L i j = (stC t n c).L i j ∨ ((stC t n (c + 1)).L i j = (stC t n c).L i c + (stC t n c).L c j ∧ (stC t n c).L i c + (stC t n c).L c j ≤ (stC t n c).L i j) := fun i j => by
      show (stA (stC t n c) c n n).L i j = _ ∨ ((stA (stC t n c) c n n).L i j = _ ∧ _)
      rw [e]
      split
      · unfold via; omega
      · exact .inl rfl
    refine ⟨⟨fun i j => ?_, fun i => ?_, fun i j hij => ?_⟩, fun k hk i j hi hj => ?_, fun i j => Int.le_trans (hle i j) (h3 i j)⟩
    · have r1 := h1.rng i j
      have r2 := h1.rng i c
      have r3 := h1.rng c j
      rcases hw i j with h | ⟨h, _⟩ <;> have := hle i j <;> omega
    · have r2 := h1.rng i c
      have r3 := h1.rng c i
      have d := h1.dia i
      rcases hw i i with h | ⟨h, h'⟩ <;> omega
    · rcases hw i j with h | ⟨h, h'⟩
      · rw [h] at hij ⊢
        exact h1.wlk i j hij
      · have r2 := h1.rng i c
        have r3 := h1.rng c j
        rw [h] at hij ⊢
        exact (h1.wlk i c (by omega)).trans (h1.wlk c j (by omega))
    · have hic := hw i k
      have hcj := hw k j
      have q1 := h1.rng i c
      have q2 := h1.rng c j
      by_cases hkc : k = c
      · subst hkc
        rw [hv i j hi hj]
        have a1 : (stC t n (k + 1)).L i k = (stC t n k).L i k := by
          rcases hic with h | ⟨h, _⟩
          · exact h
          · rw [h, h1.dia k]; omega
        have a2 : (stC t n (k + 1)).L k j = (stC t n k).L k j := by
          rcases hcj with h | ⟨h, _⟩
          · exact h
          · rw [h, h1.dia k]; omega
        rw [a1, a2]
        unfold via
        omega
      · have hk' : k < c := by omega
        have hkn : k < n := by omega
        have hcn : c < n := by omega
        rw [hv i j hi hj]
        have t1 := h2 k hk' i j hi hj
        have t2 := h2 k hk' i c hi hcn
        have t3 := h2 k hk' c j hcn hj
        have r1 := h1.rng c k
        have r2 := h1.rng k c
        unfold via
        rcases hic with h | ⟨h, _⟩ <;> rcases hcj with h' | ⟨h', _⟩ <;> omega
/-- the program's table: the length of a shortest walk -/
theorem tbl_snd {n : Nat} {l : List Sm} (h : ∀ s ∈ l, SmOk n s) : Snd l (tbl n l).L := (stC_inv (tbB_snd h l.length (Nat.le_refl _)).1 n (Nat.le_refl _)).1
theorem tbl_edge {n : Nat} {l : List Sm} (h : ∀ s ∈ l, SmOk n s) {q : Nat} (hq : q < l.length) : (tbl n l).L l[q].a.toNat l[q].b.toNat ≤ l[q].n ∧ (tbl n l).L l[q].b.toNat l[q].a.toNat ≤ l[q].n := by
  obtain ⟨h1, h2⟩ := tbB_snd h l.length (Nat.le_refl _)
  have h3 := (stC_inv h1 n (Nat.le_refl _)).2.2
  have h4 := tbB_edge h l.length (Nat.le_refl _) q hq hq
  exact ⟨Int.le_trans (h3 _ _) h4, Int.le_trans (h3 _ _) (by rw [h2]; exact h4)⟩
theorem tbl_le {n : Nat} {l : List Sm} (h : ∀ s ∈ l, SmOk n s) {a b : Nat} {w : Int} (hw : Wk l a b w) (ha : a < n) : (tbl n l).L a b ≤ w := by
  have hs := tbl_snd h
  have ht : Tri n n (tbl n l).L := (stC_inv (tbB_snd h l.length (Nat.le_refl _)).1 n (Nat.le_refl _)).2.1
  induction hw with
  | nil => rw [hs.dia]; omega
  | fwd q hq _ ih =>
    have hso := h _ (List.getElem_mem hq)
    unfold SmOk at hso
    have := ht l[q].a.toNat (by omega) a l[q].b.toNat ha (by omega)
    have e := (tbl_edge h hq).1
    omega
  | bwd q hq _ ih =>
    have hso := h _ (List.getElem_mem hq)
    unfold SmOk at hso
    have := ht l[q].b.toNat (by omega) a l[q].a.toNat ha (by omega)
    have e := (tbl_edge h hq).2
    omega
end Go.Proofs.Ytbhjhajnhpohlaa
