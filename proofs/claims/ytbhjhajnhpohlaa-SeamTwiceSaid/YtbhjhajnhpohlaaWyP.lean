/- Plain law of the reference's lengths: rounds of relaxing reach the program's table. No conditions. -/
import Derived.Test.YtbhjhajnhpohlaaShQ
import Derived.Test.YtbhjhajnhpohlaaClQ
namespace Go.Proofs.Ytbhjhajnhpohlaa

/-- the reference: one seam for the row of a; first toward its b, then toward its a -/
def rx1 (l : List Sm) (d : Nat → Int) (q : Nat) : Nat → Int :=
  match l[q]? with
  | none => d
  | some s => upd (upd d s.b.toNat (min (d s.b.toNat) (d s.a.toNat + s.n))) s.a.toNat (min ((upd d s.b.toNat (min (d s.b.toNat) (d s.a.toNat + s.n))) s.a.toNat) ((upd d s.b.toNat (min (d s.b.toNat) (d s.a.toNat + s.n))) s.b.toNat + s.n))
def rxQ (l : List Sm) (d : Nat → Int) : Nat → Nat → Int
  | 0 => d
  | q + 1 => rx1 l (rxQ l d q) q
/-- the row of a behind r rounds -/
def rxR (l : List Sm) (a : Nat) : Nat → Nat → Int
  | 0 => fun b => if a = b then 0 else far
  | r + 1 => rxQ l (rxR l a r) l.length
theorem rx1_at {l : List Sm} {d : Nat → Int} {q : Nat} (h : q < l.length) : rx1 l d q = upd (upd d l[q].b.toNat (min (d l[q].b.toNat) (d l[q].a.toNat + l[q].n))) l[q].a.toNat (min ((upd d l[q].b.toNat (min (d l[q].b.toNat) (d l[q].a.toNat + l[q].n))) l[q].a.toNat) ((upd d l[q].b.toNat (min (d l[q].b.toNat) (d l[q].a.toNat + l[q].n))) l[q].b.toNat + l[q].n)) := by
  unfold rx1
  rw [List.getElem?_eq_getElem h]
/-- the row is never below the table, and every value is far or a walk -/
def RxI (n : Nat) (l : List Sm) (a : Nat) (d : Nat → Int) : Prop := ∀ b, b < n → (tbl n l).L a b ≤ d b ∧ d b ≤ far
section
variable {n : Nat} {l : List Sm} {a : Nat} {d : Nat → Int}
theorem tri_edge (h : ∀ s ∈ l, SmOk n s) (ha : a < n) {q : Nat} (hq : q < l.length) : (tbl n l).L a l[q].b.toNat ≤ (tbl n l).L a l[q].a.toNat + l[q].n ∧ (tbl n l).L a l[q].a.toNat ≤ (tbl n l).L a l[q].b.toNat + l[q].n := by
  have ht : Tri n n (tbl n l).L := (stC_inv (tbB_snd h l.length (Nat.le_refl _)).1 n (Nat.le_refl _)).2.1
  have hso := h _ (List.getElem_mem hq)
  unfold SmOk at hso
  have e := tbl_edge (n := n) h hq
  have t1 := ht l[q].a.toNat (by omega) a l[q].b.toNat ha (by omega)
  have t2 := ht l[q].b.toNat (by omega) a l[q].a.toNat ha (by omega)
  omega
/-- one half of a relaxing -/
theorem half (hd : RxI n l a d) {u v : Nat} {m : Int} (hu : u < n) (hv : v < n) (_hm : 1 ≤ m) (ht : (tbl n l).L a v ≤ (tbl n l).L a u + m) :
    RxI n l a (upd d v (min (d v) (d u + m))) ∧ (∀ b, b < n → d b = (tbl n l).L a b → upd d v (min (d v) (d u + m)) b = (tbl n l).L a b) ∧
      (d u = (tbl n l).L a u → (tbl n l).L a v = (tbl n l).L a u + m → upd d v (min (d v) (d u + m)) v = (tbl n l).L a v) := by
  have h1 := hd u hu
  have h2 := hd v hv
  refine ⟨fun b hb => ?_, fun b hb he => ?_, fun h3 h4 => ?_⟩
  · unfold upd
    split
    · rename_i hbv; subst hbv; omega
    · exact hd b hb
  · unfold upd
    split
    · rename_i hbv; subst hbv; omega
    · exact he
  · unfold upd
    rw [if_pos rfl]
    omega
theorem rx1_inv (h : ∀ s ∈ l, SmOk n s) (ha : a < n) (hd : RxI n l a d) (q : Nat) :
    RxI n l a (rx1 l d q) ∧ (∀ b, b < n → d b = (tbl n l).L a b → rx1 l d q b = (tbl n l).L a b) ∧
      (∀ hq : q < l.length, (d l[q].a.toNat = (tbl n l).L a l[q].a.toNat → (tbl n l).L a l[q].b.toNat = (tbl n l).L a l[q].a.toNat + l[q].n → rx1 l d q l[q].b.toNat = (tbl n l).L a l[q].b.toNat) ∧
        (d l[q].b.toNat = (tbl n l).L a l[q].b.toNat → (tbl n l).L a l[q].a.toNat = (tbl n l).L a l[q].b.toNat + l[q].n → rx1 l d q l[q].a.toNat = (tbl n l).L a l[q].a.toNat)) := by
  by_cases hq : q < l.length
  · have hso := h _ (List.getElem_mem hq)
    unfold SmOk at hso
    obtain ⟨e1, e2⟩ := tri_edge h ha hq
    obtain ⟨p1, p2, p3⟩ := half hd (u := l[q].a.toNat) (v := l[q].b.toNat) (m := l[q].n) (by omega) (by omega) (by omega) e1
    obtain ⟨q1, q2, q3⟩ := half p1 (u := l[q].b.toNat) (v := l[q].a.toNat) (m := l[q].n) (by omega) (by omega) (by omega) e2
    rw [rx1_at hq]
    exact ⟨q1, fun b hb he => q2 b hb (p2 b hb he), fun _ => ⟨fun h1 h2 => q2 _ (by omega) (p3 h1 h2), fun h1 h2 => q3 (p2 _ (by omega) h1) h2⟩⟩
  · have e : rx1 l d q = d := by unfold rx1; rw [List.getElem?_eq_none (by omega)]
    rw [e]
    exact ⟨hd, fun _ _ h => h, fun h => absurd h hq⟩
theorem rxQ_inv (h : ∀ s ∈ l, SmOk n s) (ha : a < n) (hd : RxI n l a d) : ∀ q, RxI n l a (rxQ l d q) ∧ (∀ b, b < n → d b = (tbl n l).L a b → rxQ l d q b = (tbl n l).L a b)
  | 0 => ⟨hd, fun _ _ h => h⟩
  | q + 1 => by
    obtain ⟨h1, h2⟩ := rxQ_inv h ha hd q
    obtain ⟨h3, h4, _⟩ := rx1_inv h ha h1 q
    exact ⟨h3, fun b hb he => h4 b hb (h2 b hb he)⟩
/-- an end of a seam is done behind the round if the other one was and the way goes there -/
theorem rxQ_edge (h : ∀ s ∈ l, SmOk n s) (ha : a < n) (hd : RxI n l a d) {q : Nat} (hq : q < l.length) : ∀ m, q < m →
    (d l[q].a.toNat = (tbl n l).L a l[q].a.toNat → (tbl n l).L a l[q].b.toNat = (tbl n l).L a l[q].a.toNat + l[q].n → rxQ l d m l[q].b.toNat = (tbl n l).L a l[q].b.toNat) ∧
      (d l[q].b.toNat = (tbl n l).L a l[q].b.toNat → (tbl n l).L a l[q].a.toNat = (tbl n l).L a l[q].b.toNat + l[q].n → rxQ l d m l[q].a.toNat = (tbl n l).L a l[q].a.toNat)
  | 0, hm => absurd hm (by omega)
  | m + 1, hm => by
    have hso := h _ (List.getElem_mem hq)
    unfold SmOk at hso
    obtain ⟨h1, h2⟩ := rxQ_inv h ha hd m
    obtain ⟨h3, h4, h5⟩ := rx1_inv h ha h1 m
    by_cases hqm : q = m
    · subst hqm
      obtain ⟨h6, h7⟩ := h5 hq
      exact ⟨fun e1 e2 => h6 (h2 _ (by omega) e1) e2, fun e1 e2 => h7 (h2 _ (by omega) e1) e2⟩
    · obtain ⟨i1, i2⟩ := rxQ_edge h ha hd hq m (by omega)
      exact ⟨fun e1 e2 => h4 _ (by omega) (i1 e1 e2), fun e1 e2 => h4 _ (by omega) (i2 e1 e2)⟩
/-- the last seam of a shortest walk -/
theorem last_seam (h : ∀ s ∈ l, SmOk n s) (ha : a < n) {b : Nat} (hb : b < n) (hne : a ≠ b) (hf : (tbl n l).L a b < far) :
    ∃ q, ∃ hq : q < l.length, (l[q].b.toNat = b ∧ (tbl n l).L a b = (tbl n l).L a l[q].a.toNat + l[q].n) ∨ (l[q].a.toNat = b ∧ (tbl n l).L a b = (tbl n l).L a l[q].b.toNat + l[q].n) := by
  have hs := tbl_snd (n := n) h
  have hw := hs.wlk a b hf
  generalize hv : (tbl n l).L a b = v at hw
  cases hw with
  | nil => exact absurd rfl hne
  | fwd q hq hw =>
    have h1 := tbl_le (n := n) h hw ha
    have h2 := (tri_edge h ha hq).1
    exact ⟨q, hq, .inl ⟨rfl, by omega⟩⟩
  | bwd q hq hw =>
    have h1 := tbl_le (n := n) h hw ha
    have h2 := (tri_edge h ha hq).2
    exact ⟨q, hq, .inr ⟨rfl, by omega⟩⟩
/-- if not all is done, some joint is not whose walk's last seam begins at one that is -/
theorem next_one (h : ∀ s ∈ l, SmOk n s) (ha : a < n) (hd : RxI n l a d) (h0 : d a = (tbl n l).L a a) : ∀ (m b : Nat), b < n → ((tbl n l).L a b).toNat ≤ m → d b ≠ (tbl n l).L a b →
    ∃ q, ∃ hq : q < l.length, (d l[q].b.toNat ≠ (tbl n l).L a l[q].b.toNat ∧ d l[q].a.toNat = (tbl n l).L a l[q].a.toNat ∧ (tbl n l).L a l[q].b.toNat = (tbl n l).L a l[q].a.toNat + l[q].n) ∨
      (d l[q].a.toNat ≠ (tbl n l).L a l[q].a.toNat ∧ d l[q].b.toNat = (tbl n l).L a l[q].b.toNat ∧ (tbl n l).L a l[q].a.toNat = (tbl n l).L a l[q].b.toNat + l[q].n) := by
  intro m
  induction m with
  | zero =>
    intro b hb hm hne
    exfalso
    have hs := tbl_snd (n := n) h
    have hr := hs.rng a b
    have hbd := hd b hb
    have hab : a ≠ b := fun e => hne (by rw [← e]; exact h0)
    obtain ⟨q, hq, hc⟩ := last_seam h ha hb hab (by unfold far; omega)
    have hso := h _ (List.getElem_mem hq)
    unfold SmOk at hso
    have r1 := hs.rng a l[q].a.toNat
    have r2 := hs.rng a l[q].b.toNat
    rcases hc with ⟨_, hc⟩ | ⟨_, hc⟩ <;> omega
  | succ m ih =>
    intro b hb hm hne
    have hs := tbl_snd (n := n) h
    have hbd := hd b hb
    have hab : a ≠ b := fun e => hne (by rw [← e]; exact h0)
    obtain ⟨q, hq, hc⟩ := last_seam h ha hb hab (by omega)
    have hso := h _ (List.getElem_mem hq)
    unfold SmOk at hso
    have r1 := hs.rng a l[q].a.toNat
    have r2 := hs.rng a l[q].b.toNat
    rcases hc with ⟨hb', hc⟩ | ⟨hb', hc⟩
    · by_cases hu : d l[q].a.toNat = (tbl n l).L a l[q].a.toNat
      · exact ⟨q, hq, .inl ⟨by rw [hb']; exact hne, hu, by rw [hb']; exact hc⟩⟩
      · exact ih l[q].a.toNat (by omega) (by omega) hu
    · by_cases hu : d l[q].b.toNat = (tbl n l).L a l[q].b.toNat
      · exact ⟨q, hq, .inr ⟨by rw [hb']; exact hne, hu, by rw [hb']; exact hc⟩⟩
      · exact ih l[q].b.toNat (by omega) (by omega) hu
end
theorem rxR_inv {n : Nat} {l : List Sm} {a : Nat} (h : ∀ s ∈ l, SmOk n s) (ha : a < n) : ∀ r, RxI n l a (rxR l a r) ∧ rxR l a r a = (tbl n l).L a a
  | 0 => by
    have hs := tbl_snd (n := n) h
    refine ⟨fun b hb => ?_, ?_⟩
    · show (tbl n l).L a b ≤ (if a = b then 0 else far) ∧ _ ≤ far
      have := hs.rng a b
      have hf : (0 : Int) ≤ far := by decide
      show (tbl n l).L a b ≤ (if a = b then 0 else far) ∧ (if a = b then 0 else far) ≤ far
      split
      · rename_i e; subst e; rw [hs.dia]; omega
      · omega
    · show (if a = a then 0 else far) = _
      rw [if_pos rfl, hs.dia]
  | r + 1 => by
    obtain ⟨h1, h2⟩ := rxR_inv h ha r
    obtain ⟨h3, h4⟩ := rxQ_inv h ha h1 l.length
    exact ⟨h3, h4 a ha h2⟩
theorem rxR_cnt {n : Nat} {l : List Sm} {a : Nat} (h : ∀ s ∈ l, SmOk n s) (ha : a < n) : ∀ r, r ≤ n → r ≤ cnt (fun b => decide (rxR l a r b = (tbl n l).L a b)) n
  | 0, _ => Nat.zero_le _
  | r + 1, hr => by
    have ih := rxR_cnt h ha r (by omega)
    obtain ⟨hi, h0⟩ := rxR_inv h ha r
    obtain ⟨_, hkeep⟩ := rxQ_inv h ha hi l.length
    have hle : cnt (fun b => decide (rxR l a r b = (tbl n l).L a b)) n ≤ cnt (fun b => decide (rxR l a (r + 1) b = (tbl n l).L a b)) n :=
      cnt_mono fun j hj hp => decide_eq_true (hkeep j hj (of_decide_eq_true hp))
    by_cases hall : cnt (fun b => decide (rxR l a r b = (tbl n l).L a b)) n = n
    · omega
    · have hnot : ∃ j, j < n ∧ ¬ rxR l a r j = (tbl n l).L a j := by
        refine Classical.byContradiction fun hno => hall ?_
        have : ∀ m, m ≤ n → cnt (fun b => decide (rxR l a r b = (tbl n l).L a b)) m = m := by
          intro m hm
          induction m with
          | zero => rfl
          | succ m ihm =>
            unfold cnt
            rw [ihm (by omega), if_pos (decide_eq_true (Classical.byContradiction fun h => hno ⟨m, by omega, h⟩))]
        exact this n (Nat.le_refl _)
      obtain ⟨j, hj, hjn⟩ := hnot
      obtain ⟨q, hq, hc⟩ := next_one h ha hi h0 _ j hj (Nat.le_refl _) hjn
      have hso := h _ (List.getElem_mem hq)
      unfold SmOk at hso
      obtain ⟨e1, e2⟩ := rxQ_edge h ha hi hq l.length hq
      have hlt : cnt (fun b => decide (rxR l a r b = (tbl n l).L a b)) n < cnt (fun b => decide (rxR l a (r + 1) b = (tbl n l).L a b)) n := by
        refine cnt_lt (fun j hj hp => decide_eq_true (hkeep j hj (of_decide_eq_true hp))) ?_
        rcases hc with ⟨h1, h2, h3⟩ | ⟨h1, h2, h3⟩
        · exact ⟨l[q].b.toNat, by omega, decide_eq_false h1, decide_eq_true (e1 h2 h3)⟩
        · exact ⟨l[q].a.toNat, by omega, decide_eq_false h1, decide_eq_true (e2 h2 h3)⟩
      omega
/-- the reference's lengths are the program's -/
theorem rx_tbl {n : Nat} {l : List Sm} {a : Nat} (h : ∀ s ∈ l, SmOk n s) (ha : a < n) : ∀ b, b < n → rxR l a n b = (tbl n l).L a b := by
  have h1 := rxR_cnt h ha n (Nat.le_refl _)
  have h2 := cnt_le (fun b => decide (rxR l a n b = (tbl n l).L a b)) n
  have h3 : cnt (fun b => decide (rxR l a n b = (tbl n l).L a b)) n = n := by omega
  exact fun j hj => of_decide_eq_true (cnt_all h3 j hj)
end Go.Proofs.Ytbhjhajnhpohlaa
