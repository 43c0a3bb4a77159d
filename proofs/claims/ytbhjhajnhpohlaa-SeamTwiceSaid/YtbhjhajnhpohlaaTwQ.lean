/- Plain law of the bridges in a tour: each is sewn an even number of times; what SeamTwice counts. No conditions. -/
import Derived.Test.YtbhjhajnhpohlaaTwP
import Derived.Test.YtbhjhajnhpohlaaMo
import Derived.Test.YtbhjhajnhpohlaaPi
namespace Go.Proofs.Ytbhjhajnhpohlaa

theorem Trk.cross {Y : List Ln} {x y : Int} {hs : List Hop} (w : Trk Y x hs y) (S : Int → Bool) : (hs.countP fun h => S (h.fr Y) != S (h.to_ Y)) % 2 = if S x = S y then 0 else 1 := by
  induction w with
  | nil x => simp
  | @cons x y h hs hk hx t ih =>
    rw [List.countP_cons, hx]
    by_cases h1 : S x = S (h.to_ Y)
    · rw [h1]
      simp only [bne_self_eq_false, Bool.false_eq_true, if_false, Nat.add_zero]
      exact ih
    · have h2 : (S x != S (h.to_ Y)) = true := by rw [bne_iff_ne]; exact h1
      rw [if_pos h2]
      by_cases h3 : S (h.to_ Y) = S y
      · rw [if_pos h3] at ih
        rw [if_neg (fun e => h1 (e.trans h3.symm))]
        omega
      · rw [if_neg h3] at ih
        have : S x = S y := by
          revert h1 h3
          cases S x <;> cases S (h.to_ Y) <;> cases S y <;> simp
        rw [if_pos this]
        omega
/-- equally connected, equal classes -/
theorem cls_eq_of {ch ch' : Nat → Bool} {l : List Sm} {n : Nat} (hl : ∀ s ∈ l, SmOk n s) (h : ∀ i j, Cn ch l l.length i j → Cn ch' l l.length i j) (h' : ∀ i j, Cn ch' l l.length i j → Cn ch l l.length i j) : ∀ j, j < n → cls ch l l.length j = cls ch' l l.length j := by
  intro j hj
  have hc := cls_inv ch l n hl l.length (Nat.le_refl _)
  have hc' := cls_inv ch' l n hl l.length (Nat.le_refl _)
  have key : ∀ {ca cb : Nat → Bool}, ClI ca l n l.length (cls ca l l.length) → ClI cb l n l.length (cls cb l l.length) → (∀ i j, Cn ca l l.length i j → Cn cb l l.length i j) → cls cb l l.length j ≤ cls ca l l.length j := by
    intro ca cb ha hb hab
    have r := ha.rng j hj
    have h1 := hb.cn (hab _ _ (ha.con j hj))
    have h2 := hb.low (cls ca l l.length j).toNat (by omega)
    omega
  have h1 := key hc hc' h
  have h2 := key hc' hc h'
  omega
theorem bridge_cut {l : List Sm} {n q : Nat} (hl : ∀ s ∈ l, SmOk n s) (hq : q < l.length) (hb : pcs n l (-1) < pcs n l q) : ¬ Cn (chP q) l l.length l[q].a.toNat l[q].b.toNat := by
  intro hc
  have h1 : ∀ i j, Cn (chP (-1)) l l.length i j → Cn (chP q) l l.length i j := by
    intro i j h
    induction h with
    | refl => exact .refl _
    | fwd q' hq' hk _ _ ih =>
      by_cases e : q' = q
      · subst e; exact ih.trans hc
      · exact .fwd q' hq' hk (by unfold chP; exact decide_eq_true (by omega)) ih
    | bwd q' hq' hk _ _ ih =>
      by_cases e : q' = q
      · subst e; exact ih.trans hc.symm
      · exact .bwd q' hq' hk (by unfold chP; exact decide_eq_true (by omega)) ih
  have h2 : ∀ i j, Cn (chP q) l l.length i j → Cn (chP (-1)) l l.length i j := by
    intro i j h
    induction h with
    | refl => exact .refl _
    | fwd q' hq' hk _ _ ih => exact .fwd q' hq' hk (by unfold chP; exact decide_eq_true (by omega)) ih
    | bwd q' hq' hk _ _ ih => exact .bwd q' hq' hk (by unfold chP; exact decide_eq_true (by omega)) ih
  have h3 := cls_eq_of hl h1 h2
  have h4 : pcs n l q ≤ pcs n l (-1) := by
    unfold pcs
    refine cnt_mono fun j hj hp => ?_
    rw [h3 j hj]
    exact hp
  omega
/-- how often a seam is sewn -/
def tms (ms : List Mv) (q : Nat) : Nat := (ms.map Mv.k).count (q : Int)
theorem tms_pos {l : List Sm} {Y : List Ln} {n f' : Nat} {f : Int} {hs : List Hop} (hr : RnL n f' l Y) (ht : Tour Y f hs) {q : Nat} (hq : q < l.length) : 0 < tms (tmv Y hs) q := by
  obtain ⟨m, hm, e⟩ := tmv_all hr ht hq
  exact List.count_pos_iff.2 (List.mem_map.2 ⟨m, hm, e⟩)
open Classical in
theorem tms_even {l : List Sm} {Y : List Ln} {n f' q : Nat} {f : Int} {hs : List Hop} (hl : ∀ s ∈ l, SmOk n s) (hr : RnL n f' l Y) (ht : Tour Y f hs) (hq : q < l.length) (hb : pcs n l (-1) < pcs n l q) : tms (tmv Y hs) q % 2 = 0 := by
  have hcut := bridge_cut hl hq hb
  have hw := ht.1.cross fun v => decide (Cn (chP q) l l.length l[q].a.toNat v.toNat)
  rw [if_pos rfl] at hw
  have e : tms (tmv Y hs) q = hs.countP fun h => (decide (Cn (chP q) l l.length l[q].a.toNat (h.fr Y).toNat)) != (decide (Cn (chP q) l l.length l[q].a.toNat (h.to_ Y).toNat)) := by
    unfold tms tmv
    rw [List.map_map, List.count, List.countP_map]
    refine List.countP_congr fun h hh => ?_
    obtain ⟨p, hp, ep⟩ := hr.ln _ (lnAt_mem (ht.1.lt h hh))
    have hkk : (Hop.mv Y h).k = (p : Int) := by show (lnAt Y h.k).k = _; rw [ep]
    have hends : (h.fr Y = l[p].a ∧ h.to_ Y = l[p].b) ∨ (h.fr Y = l[p].b ∧ h.to_ Y = l[p].a) := by
      have := hop_ends Y h
      rw [ep] at this
      exact this
    simp only [Function.comp_apply, beq_iff_eq, hkk, bne_iff_ne, ne_eq]
    have hself : Cn (chP q) l l.length l[q].a.toNat l[q].a.toNat := .refl _
    constructor
    · intro e2
      have e3 : p = q := by omega
      subst e3
      rcases hends with ⟨a1, a2⟩ | ⟨a1, a2⟩ <;> rw [a1, a2] <;> simp [hself, hcut]
    · intro hne
      refine Classical.byContradiction fun hpq => hne ?_
      have hch : chP q p = true := by unfold chP; exact decide_eq_true (by intro e; exact hpq (by omega))
      have hiff : Cn (chP q) l l.length l[q].a.toNat l[p].a.toNat ↔ Cn (chP q) l l.length l[q].a.toNat l[p].b.toNat := ⟨fun h => .fwd p hp hp hch h, fun h => .bwd p hp hp hch h⟩
      rcases hends with ⟨a1, a2⟩ | ⟨a1, a2⟩ <;> rw [a1, a2]
      · exact decide_eq_decide.2 hiff
      · exact decide_eq_decide.2 hiff.symm
  rw [e]
  exact hw
theorem brd_mem {n : Nat} {l : List Sm} : ∀ k, ∀ x ∈ brd n l k, ∃ q : Nat, x = q ∧ q < k ∧ pcs n l (-1) < pcs n l q
  | 0, x, h => by cases h
  | k + 1, x, h => by
    unfold brd at h
    split at h
    · rename_i hb
      rcases List.mem_append.1 h with h | h
      · obtain ⟨q, h1, h2, h3⟩ := brd_mem k x h
        exact ⟨q, h1, by omega, h3⟩
      · exact ⟨k, by simpa using h, by omega, hb⟩
    · obtain ⟨q, h1, h2, h3⟩ := brd_mem k x h
      exact ⟨q, h1, by omega, h3⟩
/-- the odd joints are none just where all degrees are even -/
theorem odd_none {n : Nat} {l : List Sm} (h : ∀ s ∈ l, SmOk n s) (hn : n ≤ 16) : oddN allS l 16 = [] ↔ ∀ j, j < n → deg allS l j % 2 = 0 := by
  constructor
  · intro he j _
    have h1 := oddN_count l 16 j
    rw [he] at h1
    have h2 := (deg_range allS l j).1
    by_cases hj : j < 16
    · by_cases hd : deg allS l j % 2 = 1
      · rw [if_pos ⟨hj, hd⟩] at h1; simp at h1
      · omega
    · omega
  · intro hall
    refine List.eq_nil_iff_forall_not_mem.2 fun x hx => ?_
    obtain ⟨j, rfl, _, hd⟩ := oddN_mem 16 x hx
    have := (lo_rng h _ hx).2
    have := hall j (by omega)
    omega
end Go.Proofs.Ytbhjhajnhpohlaa
