/- Plain law of the classes: what the reference computes is what the program computes. No conditions. -/
import Derived.Test.YtbhjhajnhpohlaaClP
namespace Go.Proofs.Ytbhjhajnhpohlaa

/-- joined by the chosen ones of the first k seams -/
inductive Cn (ch : Nat → Bool) (l : List Sm) (k : Nat) : Nat → Nat → Prop
  | refl (i : Nat) : Cn ch l k i i
  | fwd {i : Nat} (q : Nat) (hq : q < l.length) (hk : q < k) (hc : ch q = true) : Cn ch l k i l[q].a.toNat → Cn ch l k i l[q].b.toNat
  | bwd {i : Nat} (q : Nat) (hq : q < l.length) (hk : q < k) (hc : ch q = true) : Cn ch l k i l[q].b.toNat → Cn ch l k i l[q].a.toNat
theorem Cn.trans {ch : Nat → Bool} {l : List Sm} {k i j m : Nat} (h : Cn ch l k i j) (h2 : Cn ch l k j m) : Cn ch l k i m := by
  induction h2 with
  | refl => exact h
  | fwd q hq hk hc _ ih => exact .fwd q hq hk hc ih
  | bwd q hq hk hc _ ih => exact .bwd q hq hk hc ih
theorem Cn.symm {ch : Nat → Bool} {l : List Sm} {k i j : Nat} (h : Cn ch l k i j) : Cn ch l k j i := by
  induction h with
  | refl => exact .refl _
  | fwd q hq hk hc _ ih => exact (Cn.bwd q hq hk hc (.refl _)).trans ih
  | bwd q hq hk hc _ ih => exact (Cn.fwd q hq hk hc (.refl _)).trans ih
theorem Cn.more {ch : Nat → Bool} {l : List Sm} {k k' i j : Nat} (h : Cn ch l k i j) (hk : k ≤ k') : Cn ch l k' i j := by
  induction h with
  | refl => exact .refl _
  | fwd q hq hk hc _ ih => exact .fwd q hq (by omega) hc ih
  | bwd q hq hk hc _ ih => exact .bwd q hq (by omega) hc ih

/-- what is known of the program's classes -/
structure ClI (ch : Nat → Bool) (l : List Sm) (n k : Nat) (f : Nat → Int) : Prop where
  rng : ∀ j, j < n → 0 ≤ f j ∧ f j < n
  low : ∀ j, j < n → f j ≤ j
  con : ∀ j, j < n → Cn ch l k j (f j).toNat
  one : ∀ q (hq : q < l.length), q < k → ch q = true → f l[q].a.toNat = f l[q].b.toNat
theorem cls_inv (ch : Nat → Bool) (l : List Sm) (n : Nat) (h : ∀ s ∈ l, SmOk n s) : ∀ k, k ≤ l.length → ClI ch l n k (cls ch l k)
  | 0, _ => ⟨fun j hj => by unfold cls; omega, fun j hj => by unfold cls; omega, fun j hj => by unfold cls; rw [Int.toNat_natCast]; exact .refl _, fun q _ hk => absurd hk (by omega)⟩
  | k + 1, hk => by
    have hlt : k < l.length := by omega
    have ih := cls_inv ch l n h k (by omega)
    have hs := h _ (List.getElem_mem hlt)
    unfold SmOk at hs
    have ha : l[k].a.toNat < n := by omega
    have hb : l[k].b.toNat < n := by omega
    have hr := cls_range ch l n h (k + 1) hk
    cases hc : ch k
    · have e : cls ch l (k + 1) = cls ch l k := by rw [cls_succ hlt, hc]; rfl
      rw [e]
      refine ⟨ih.rng, ih.low, fun j hj => (ih.con j hj).more (by omega), fun q hq hqk hcq => ?_⟩
      by_cases hqe : q = k
      · subst hqe; rw [hc] at hcq; cases hcq
      · exact ih.one q hq (by omega) hcq
    · have e : cls ch l (k + 1) = mg (cls ch l k) (max (cls ch l k l[k].a.toNat) (cls ch l k l[k].b.toNat)) (min (cls ch l k l[k].a.toNat) (cls ch l k l[k].b.toNat)) := by rw [cls_succ hlt, hc]; rfl
      have hab : Cn ch l (k + 1) (cls ch l k l[k].a.toNat).toNat (cls ch l k l[k].b.toNat).toNat :=
        (((ih.con _ ha).more (by omega)).symm.trans (.fwd k hlt (by omega) hc (.refl _))).trans ((ih.con _ hb).more (by omega))
      generalize hx : cls ch l k l[k].a.toNat = x at *
      generalize hy : cls ch l k l[k].b.toNat = y at *
      refine ⟨hr, fun j hj => ?_, fun j hj => ?_, fun q hq hqk hcq => ?_⟩
      · rw [e]; unfold mg
        have := ih.low j hj
        split <;> omega
      · rw [e]; unfold mg
        have h1 := (ih.con j hj).more (show k ≤ k + 1 by omega)
        split
        · rename_i hm
          rw [hm] at h1
          rcases (by omega : x ≤ y ∨ y ≤ x) with hle | hle
          · rw [show max x y = y by omega] at h1
            rw [show min x y = x by omega]
            exact h1.trans hab.symm
          · rw [show max x y = x by omega] at h1
            rw [show min x y = y by omega]
            exact h1.trans hab
        · exact h1
      · rw [e]; unfold mg
        by_cases hqe : q = k
        · subst hqe
          rw [hx, hy]
          split <;> split <;> omega
        · rw [ih.one q hq (by omega) hcq]
theorem ClI.cn {ch : Nat → Bool} {l : List Sm} {n k : Nat} {f : Nat → Int} (h : ClI ch l n k f) {i j : Nat} (hc : Cn ch l k i j) : f i = f j := by
  induction hc with
  | refl => rfl
  | fwd q hq hk hc _ ih => rw [ih, h.one q hq hk hc]
  | bwd q hq hk hc _ ih => rw [ih, h.one q hq hk hc]
theorem ClI.idem {ch : Nat → Bool} {l : List Sm} {n k : Nat} {f : Nat → Int} (h : ClI ch l n k f) {j : Nat} (hj : j < n) : f (f j).toNat = f j := (h.cn (h.con j hj)).symm

/-- the reference: one seam -/
def rf1 (ch : Nat → Bool) (l : List Sm) (f : Nat → Int) (q : Nat) : Nat → Int :=
  match l[q]? with
  | none => f
  | some s => if ch q then upd (upd f s.a.toNat (min (f s.a.toNat) (f s.b.toNat))) s.b.toNat (min (f s.a.toNat) (f s.b.toNat)) else f
/-- the first q seams -/
def rfQ (ch : Nat → Bool) (l : List Sm) (f : Nat → Int) : Nat → Nat → Int
  | 0 => f
  | q + 1 => rf1 ch l (rfQ ch l f q) q
/-- r rounds -/
def rfR (ch : Nat → Bool) (l : List Sm) : Nat → Nat → Int
  | 0 => fun j => j
  | r + 1 => rfQ ch l (rfR ch l r) l.length
/-- what is known of the reference's classes; c: the program's -/
def RfI (n : Nat) (c f : Nat → Int) : Prop := ∀ j, j < n → 0 ≤ f j ∧ f j < n ∧ f j ≤ j ∧ c (f j).toNat = c j
theorem RfI.ge {ch : Nat → Bool} {l : List Sm} {n : Nat} {c f : Nat → Int} (h : RfI n c f) (hc : ClI ch l n l.length c) {j : Nat} (hj : j < n) : c j ≤ f j := by
  obtain ⟨h1, h2, h3, h4⟩ := h j hj
  have := hc.low (f j).toNat (by omega)
  omega
theorem rf1_inv {ch : Nat → Bool} {l : List Sm} {n : Nat} {c f : Nat → Int} (hl : ∀ s ∈ l, SmOk n s) (hc : ClI ch l n l.length c) (h : RfI n c f) (q : Nat) : RfI n c (rf1 ch l f q) ∧ (∀ j, j < n → f j = c j → rf1 ch l f q j = c j) := by
  by_cases hq : q < l.length
  · cases hcq : ch q
    · have e0 : rf1 ch l f q = f := by unfold rf1; rw [List.getElem?_eq_getElem hq]; dsimp only; rw [hcq]; rfl
      rw [e0]
      exact ⟨h, fun _ _ h => h⟩
    · have hso := hl _ (List.getElem_mem hq)
      unfold SmOk at hso
      have e0 : rf1 ch l f q = upd (upd f l[q].a.toNat (min (f l[q].a.toNat) (f l[q].b.toNat))) l[q].b.toNat (min (f l[q].a.toNat) (f l[q].b.toNat)) := by
        unfold rf1; rw [List.getElem?_eq_getElem hq]; dsimp only; rw [hcq]; rfl
      rw [e0]
      have e := hc.one q hq hq hcq
      generalize l[q] = s at *
      have ha : s.a.toNat < n := by omega
      have hb : s.b.toNat < n := by omega
      obtain ⟨a1, a2, a3, a4⟩ := h _ ha
      obtain ⟨b1, b2, b3, b4⟩ := h _ hb
      have ga := h.ge hc ha
      have gb := h.ge hc hb
      have hm : c (min (f s.a.toNat) (f s.b.toNat)).toNat = c s.a.toNat := by
        rcases (by omega : f s.a.toNat ≤ f s.b.toNat ∨ f s.b.toNat ≤ f s.a.toNat) with h1 | h1
        · rw [show min (f s.a.toNat) (f s.b.toNat) = f s.a.toNat by omega]; exact a4
        · rw [show min (f s.a.toNat) (f s.b.toNat) = f s.b.toNat by omega, b4, e]
      have hbig : ∀ j, j < n → (upd (upd f s.a.toNat (min (f s.a.toNat) (f s.b.toNat))) s.b.toNat (min (f s.a.toNat) (f s.b.toNat))) j = if j = s.b.toNat ∨ j = s.a.toNat then min (f s.a.toNat) (f s.b.toNat) else f j := by
        intro j _
        unfold upd
        by_cases h1 : j = s.b.toNat
        · rw [if_pos h1, if_pos (.inl h1)]
        · rw [if_neg h1]
          by_cases h2 : j = s.a.toNat
          · rw [if_pos h2, if_pos (.inr h2)]
          · rw [if_neg h2, if_neg (by omega)]
      refine ⟨fun j hj => ?_, fun j hj hd => ?_⟩
      · rw [hbig j hj]
        split
        · rename_i hj2
          rcases hj2 with rfl | rfl
          · exact ⟨by omega, by omega, by omega, by rw [hm, e]⟩
          · exact ⟨by omega, by omega, by omega, hm⟩
        · exact h j hj
      · rw [hbig j hj]
        split
        · rename_i hj2
          rcases hj2 with rfl | rfl <;> omega
        · exact hd
  · have e0 : rf1 ch l f q = f := by unfold rf1; rw [List.getElem?_eq_none (by omega)]
    rw [e0]
    exact ⟨h, fun _ _ h => h⟩
theorem rfQ_inv {ch : Nat → Bool} {l : List Sm} {n : Nat} {c f : Nat → Int} (hl : ∀ s ∈ l, SmOk n s) (hc : ClI ch l n l.length c) (h : RfI n c f) : ∀ q, RfI n c (rfQ ch l f q) ∧ (∀ j, j < n → f j = c j → rfQ ch l f q j = c j)
  | 0 => ⟨h, fun _ _ h => h⟩
  | q + 1 => by
    obtain ⟨h1, h2⟩ := rfQ_inv hl hc h q
    obtain ⟨h3, h4⟩ := rf1_inv hl hc h1 q
    exact ⟨h3, fun j hj hd => h4 j hj (h2 j hj hd)⟩
/-- behind its own seam both ends are done if one was -/
theorem rfQ_edge {ch : Nat → Bool} {l : List Sm} {n : Nat} {c f : Nat → Int} (hl : ∀ s ∈ l, SmOk n s) (hc : ClI ch l n l.length c) (h : RfI n c f) {q : Nat} (hq : q < l.length) (hcq : ch q = true) (hd : f l[q].a.toNat = c l[q].a.toNat ∨ f l[q].b.toNat = c l[q].b.toNat) :
    ∀ m, q < m → rfQ ch l f m l[q].a.toNat = c l[q].a.toNat ∧ rfQ ch l f m l[q].b.toNat = c l[q].b.toNat := by
  have hso := hl _ (List.getElem_mem hq)
  unfold SmOk at hso
  have ha : l[q].a.toNat < n := by omega
  have hb : l[q].b.toNat < n := by omega
  have e := hc.one q hq hq hcq
  obtain ⟨h1, h2⟩ := rfQ_inv hl hc h q
  have hat : rfQ ch l f (q + 1) l[q].a.toNat = c l[q].a.toNat ∧ rfQ ch l f (q + 1) l[q].b.toNat = c l[q].b.toNat := by
    have ga := h1.ge hc ha
    have gb := h1.ge hc hb
    have hmin : min (rfQ ch l f q l[q].a.toNat) (rfQ ch l f q l[q].b.toNat) = c l[q].a.toNat := by
      rcases hd with hd | hd
      · have := h2 _ ha hd; omega
      · have := h2 _ hb hd; omega
    have hs : rfQ ch l f (q + 1) = upd (upd (rfQ ch l f q) l[q].a.toNat (c l[q].a.toNat)) l[q].b.toNat (c l[q].a.toNat) := by
      show rf1 ch l (rfQ ch l f q) q = _
      unfold rf1
      rw [List.getElem?_eq_getElem hq]
      dsimp only
      rw [if_pos hcq, hmin]
    rw [hs]
    unfold upd
    constructor
    · split
      · rfl
      · rw [if_pos rfl]
    · rw [if_pos rfl, e]
  intro m hm
  induction m with
  | zero => omega
  | succ m ih =>
    by_cases hqm : q = m
    · subst hqm; exact hat
    · obtain ⟨i1, i2⟩ := ih (by omega)
      obtain ⟨h3, _⟩ := rfQ_inv hl hc h m
      obtain ⟨_, h4⟩ := rf1_inv hl hc h3 m
      exact ⟨h4 _ ha i1, h4 _ hb i2⟩
/-- how many are done -/
def cnt (p : Nat → Bool) : Nat → Nat
  | 0 => 0
  | n + 1 => cnt p n + if p n then 1 else 0
theorem cnt_le (p : Nat → Bool) : ∀ n, cnt p n ≤ n
  | 0 => by simp [cnt]
  | n + 1 => by have := cnt_le p n; unfold cnt; split <;> omega
theorem cnt_mono {p q : Nat → Bool} : ∀ {n : Nat}, (∀ j, j < n → p j = true → q j = true) → cnt p n ≤ cnt q n
  | 0, _ => by simp [cnt]
  | n + 1, h => by
    have ih := cnt_mono (p := p) (q := q) (n := n) (fun j hj => h j (by omega))
    have := h n (by omega)
    unfold cnt
    split
    · rw [if_pos (this (by assumption))]; omega
    · split <;> omega
theorem cnt_lt {p q : Nat → Bool} : ∀ {n : Nat}, (∀ j, j < n → p j = true → q j = true) → (∃ j, j < n ∧ p j = false ∧ q j = true) → cnt p n < cnt q n
  | 0, _, ⟨j, h, _⟩ => by omega
  | n + 1, h, ⟨j, hj, h1, h2⟩ => by
    unfold cnt
    by_cases hjn : j = n
    · subst hjn
      have ih := cnt_mono (p := p) (q := q) (n := j) (fun i hi => h i (by omega))
      rw [h1, h2]
      simp
      omega
    · have ih := cnt_lt (p := p) (q := q) (n := n) (fun i hi => h i (by omega)) ⟨j, by omega, h1, h2⟩
      have := h n (by omega)
      split
      · rw [if_pos (this (by assumption))]; omega
      · split <;> omega
theorem cnt_all {p : Nat → Bool} : ∀ {n : Nat}, cnt p n = n → ∀ j, j < n → p j = true
  | 0, _, j, hj => by omega
  | n + 1, h, j, hj => by
    have := cnt_le p n
    unfold cnt at h
    by_cases hp : p n = true
    · rw [if_pos hp] at h
      by_cases hjn : j = n
      · subst hjn; exact hp
      · exact cnt_all (n := n) (by omega) j (by omega)
    · rw [if_neg hp] at h; omega
theorem edge_of {ch : Nat → Bool} {l : List Sm} {k : Nat} {P : Nat → Prop} [DecidablePred P] {i j : Nat} (h : Cn ch l k i j) (hi : P i) (hj : ¬ P j) : ∃ q, ∃ hq : q < l.length, ch q = true ∧ ((P l[q].a.toNat ∧ ¬ P l[q].b.toNat) ∨ (P l[q].b.toNat ∧ ¬ P l[q].a.toNat)) := by
  induction h with
  | refl => exact absurd hi hj
  | fwd q hq hk hc _ ih =>
    by_cases hp : P l[q].a.toNat
    · exact ⟨q, hq, hc, .inl ⟨hp, hj⟩⟩
    · exact ih hp
  | bwd q hq hk hc _ ih =>
    by_cases hp : P l[q].b.toNat
    · exact ⟨q, hq, hc, .inr ⟨hp, hj⟩⟩
    · exact ih hp
theorem rfR_inv {ch : Nat → Bool} {l : List Sm} {n : Nat} {c : Nat → Int} (hl : ∀ s ∈ l, SmOk n s) (hc : ClI ch l n l.length c) : ∀ r, RfI n c (rfR ch l r)
  | 0 => fun j hj => ⟨by show (0 : Int) ≤ (j : Int); omega, by show (j : Int) < n; omega, by show (j : Int) ≤ j; omega, by show c ((j : Int)).toNat = c j; rw [Int.toNat_natCast]⟩
  | r + 1 => (rfQ_inv hl hc (rfR_inv hl hc r) l.length).1
theorem rfR_cnt {ch : Nat → Bool} {l : List Sm} {n : Nat} {c : Nat → Int} (hl : ∀ s ∈ l, SmOk n s) (hc : ClI ch l n l.length c) : ∀ r, r ≤ n → r ≤ cnt (fun j => decide (rfR ch l r j = c j)) n
  | 0, _ => Nat.zero_le _
  | r + 1, hr => by
    have ih := rfR_cnt hl hc r (by omega)
    have hi := rfR_inv hl hc r
    obtain ⟨_, hkeep⟩ := rfQ_inv hl hc hi l.length
    have hle : cnt (fun j => decide (rfR ch l r j = c j)) n ≤ cnt (fun j => decide (rfR ch l (r + 1) j = c j)) n :=
      cnt_mono fun j hj hp => decide_eq_true (hkeep j hj (of_decide_eq_true hp))
    by_cases hall : cnt (fun j => decide (rfR ch l r j = c j)) n = n
    · omega
    · have hnot : ∃ j, j < n ∧ ¬ rfR ch l r j = c j := by
        refine Classical.byContradiction fun hno => hall ?_
        have : ∀ m, m ≤ n → cnt (fun j => decide (rfR ch l r j = c j)) m = m := by
          intro m hm
          induction m with
          | zero => rfl
          | succ m ihm =>
            unfold cnt
            rw [ihm (by omega), if_pos (decide_eq_true (Classical.byContradiction fun h => hno ⟨m, by omega, h⟩))]
        exact this n (Nat.le_refl _)
      obtain ⟨j, hj, hjn⟩ := hnot
      have hcj := hc.rng j hj
      have hroot : rfR ch l r (c j).toNat = c (c j).toNat := by
        obtain ⟨_, _, h3, _⟩ := hi (c j).toNat (by omega)
        have h4 := hi.ge hc (j := (c j).toNat) (by omega)
        have h5 := hc.idem hj
        omega
      obtain ⟨q, hq, hcq, hqe⟩ := edge_of (P := fun i => rfR ch l r i = c i) (hc.con j hj).symm hroot hjn
      have hso := hl _ (List.getElem_mem hq)
      unfold SmOk at hso
      have hlt : cnt (fun j => decide (rfR ch l r j = c j)) n < cnt (fun j => decide (rfR ch l (r + 1) j = c j)) n := by
        refine cnt_lt (fun j hj hp => decide_eq_true (hkeep j hj (of_decide_eq_true hp))) ?_
        rcases hqe with ⟨h1, h2⟩ | ⟨h1, h2⟩
        · exact ⟨l[q].b.toNat, by omega, decide_eq_false h2, decide_eq_true (rfQ_edge hl hc hi hq hcq (.inl h1) l.length hq).2⟩
        · exact ⟨l[q].a.toNat, by omega, decide_eq_false h2, decide_eq_true (rfQ_edge hl hc hi hq hcq (.inr h1) l.length hq).1⟩
      omega
/-- the reference's classes are the program's -/
theorem rf_cls {ch : Nat → Bool} {l : List Sm} {n : Nat} (hl : ∀ s ∈ l, SmOk n s) : ∀ j, j < n → rfR ch l n j = cls ch l l.length j := by
  have hc := cls_inv ch l n hl l.length (Nat.le_refl _)
  have h1 := rfR_cnt hl hc n (Nat.le_refl _)
  have h2 := cnt_le (fun j => decide (rfR ch l n j = cls ch l l.length j)) n
  have h3 : cnt (fun j => decide (rfR ch l n j = cls ch l l.length j)) n = n := by omega
  exact fun j hj => of_decide_eq_true (cnt_all h3 j hj)
end Go.Proofs.Ytbhjhajnhpohlaa
