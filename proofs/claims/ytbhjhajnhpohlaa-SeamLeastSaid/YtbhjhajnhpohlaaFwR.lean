/- Plain law of Runs, third part: the runs so far; the least number of runs; no sewing has fewer. No conditions. -/
import Derived.Test.YtbhjhajnhpohlaaFwQ
namespace Go.Proofs.Ytbhjhajnhpohlaa

/-- the least number of runs of a class -/
def fwJ (l : List Sm) (t j : Int) : Nat := if lnsC (chJ l t j) l l.length = [] then 0 else max 1 ((oddN (chJ l t j) l 16).length / 2)
/-- of the first m classes -/
def fwT (l : List Sm) (t : Int) : Nat → Nat
  | 0 => 0
  | m + 1 => fwT l t m + fwJ l t m
/-- of the first m threads -/
def fwA (l : List Sm) (n : Nat) : Nat → Nat
  | 0 => 0
  | m + 1 => fwA l n m + fwT l m n
/-- the thread of a run -/
def runT (l : List Sm) (run : List Mv) : Int := (run.getD 0 default).thr l
/-- the runs of what P says; c: how many of each thread -/
structure RunsI (l : List Sm) (P : Sm → Prop) (c : Int → Nat) (R : List (List Mv)) : Prop where
  good : ∀ run ∈ R, GoodRun l run
  nd : (R.flatten.map Mv.k).Nodup
  mem : ∀ q : Int, q ∈ R.flatten.map Mv.k ↔ ∃ i, ∃ h : i < l.length, q = (i : Int) ∧ P l[i]
  cnt : ∀ t, R.countP (fun run => decide (runT l run = t)) = c t
theorem RunsI.nil (l : List Sm) : RunsI l (fun _ => False) (fun _ => 0) [] :=
  ⟨fun r hr => (by cases hr), by simp, fun q => ⟨fun h => by simp at h, fun ⟨_, _, _, h⟩ => h.elim⟩, fun t => rfl⟩
theorem RunsI.congr {l : List Sm} {P P' : Sm → Prop} {c c' : Int → Nat} {R : List (List Mv)} (h : RunsI l P c R) (hP : ∀ s ∈ l, P s ↔ P' s) (hc : ∀ t, c t = c' t) : RunsI l P' c' R :=
  ⟨h.good, h.nd, fun q => by
    rw [h.mem q]
    constructor
    · rintro ⟨i, hi, e, hp⟩; exact ⟨i, hi, e, (hP _ (List.getElem_mem hi)).1 hp⟩
    · rintro ⟨i, hi, e, hp⟩; exact ⟨i, hi, e, (hP _ (List.getElem_mem hi)).2 hp⟩, fun t => (h.cnt t).trans (hc t)⟩
/-- one class more -/
theorem RunsI.cut {l : List Sm} {P : Sm → Prop} {c : Int → Nat} {R : List (List Mv)} {t j f : Int} {hs : List Hop} (h : RunsI l P c R) (hP : ∀ s, P s → chJ l t j s = false) (hne : lnsC (chJ l t j) l l.length ≠ []) (T : Tour (lnsY l t j) f hs) :
    RunsI l (fun s => P s ∨ chJ l t j s = true) (fun x => c x + if x = t then fwJ l t j else 0) (R ++ spl [] (rotJ (hs.map (Hop.mv (lnsY l t j))))) := by
  obtain ⟨h1, h2, h3⟩ := cut_ok hne T
  generalize spl [] (rotJ (hs.map (Hop.mv (lnsY l t j)))) = S at *
  have hk := lnsC_keys (ch := chJ l t j) l.length (Nat.le_refl l.length)
  have hmem : ∀ q : Int, q ∈ S.flatten.map Mv.k ↔ ∃ i, ∃ h : i < l.length, q = (i : Int) ∧ chJ l t j l[i] = true := by
    intro q
    rw [h2.mem_iff, List.mem_map]
    constructor
    · rintro ⟨s, hs, rfl⟩
      obtain ⟨i, hi, _, hc, rfl⟩ := (lnsC_mem l.length (Nat.le_refl _)).1 hs
      exact ⟨i, hi, rfl, hc⟩
    · rintro ⟨i, hi, rfl, hc⟩
      exact ⟨_, (lnsC_mem l.length (Nat.le_refl _)).2 ⟨i, hi, hi, hc, rfl⟩, rfl⟩
  refine ⟨fun r hr => ?_, ?_, fun q => ?_, fun x => ?_⟩
  · rcases List.mem_append.1 hr with hr | hr
    · exact h.good r hr
    · exact (h1 r hr).1
  · rw [List.flatten_append, List.map_append]
    refine List.nodup_append.2 ⟨h.nd, h2.nodup_iff.2 hk, fun a ha b hb e => ?_⟩
    subst e
    obtain ⟨i, hi, rfl, hp⟩ := (h.mem a).1 ha
    obtain ⟨i', hi', e, hc⟩ := (hmem _).1 hb
    obtain rfl : i = i' := by omega
    rw [hP _ hp] at hc
    cases hc
  · rw [List.flatten_append, List.map_append, List.mem_append, h.mem q, hmem q]
    constructor
    · rintro (⟨i, hi, e, hp⟩ | ⟨i, hi, e, hp⟩)
      · exact ⟨i, hi, e, .inl hp⟩
      · exact ⟨i, hi, e, .inr hp⟩
    · rintro ⟨i, hi, e, hp | hp⟩
      · exact .inl ⟨i, hi, e, hp⟩
      · exact .inr ⟨i, hi, e, hp⟩
  · rw [List.countP_append, h.cnt x]
    congr 1
    have e1 : fwJ l t j = S.length := by unfold fwJ; rw [if_neg hne, h3]
    split
    · rename_i hx
      rw [e1, List.countP_eq_length]
      intro r hr
      rw [hx]
      exact decide_eq_true (h1 r hr).2
    · rename_i hx
      rw [List.countP_eq_zero]
      intro r hr hd
      have hd' : runT l r = x := of_decide_eq_true hd
      exact hx (hd'.symm.trans (h1 r hr).2)
theorem lnsC_nil {ch : Sm → Bool} {l : List Sm} (h : lnsC ch l l.length = []) : ∀ s ∈ l, ch s = false := by
  intro s hs
  obtain ⟨q, hq, rfl⟩ := List.getElem_of_mem hs
  cases hc : ch l[q]
  · rfl
  · have := (lnsC_mem (ch := ch) l.length (Nat.le_refl _)).2 ⟨q, hq, hq, hc, rfl⟩
    rw [h] at this
    cases this
/-- all of them: a sewing -/
theorem RunsI.sews {l : List Sm} {c : Int → Nat} {R : List (List Mv)} (h : RunsI l (fun _ => True) c R) : Sewing l R := by
  refine ⟨h.good, h.nd, ?_⟩
  have hp : (R.flatten.map Mv.k).Perm ((List.range l.length).map fun i : Nat => (i : Int)) := by
    refine (List.perm_ext_iff_of_nodup h.nd ?_).2 fun q => ?_
    · exact List.Pairwise.map _ (fun a b hab e => hab (by omega)) List.nodup_range
    · rw [h.mem q, List.mem_map]
      constructor
      · rintro ⟨i, hi, rfl, _⟩; exact ⟨i, List.mem_range.2 hi, rfl⟩
      · rintro ⟨i, hi, rfl⟩; exact ⟨i, List.mem_range.1 hi, rfl, trivial⟩
  have := hp.length_eq
  rwa [List.length_map, List.length_map, List.length_range] at this
/-- the number of runs, thread by thread -/
theorem count_split {R : List (List Mv)} {f : List Mv → Int} : ∀ m : Nat, (∀ r ∈ R, 0 ≤ f r ∧ f r < m) → R.length = ((List.range m).map fun t : Nat => R.countP fun r => decide (f r = (t : Int))).sum := by
  intro m
  induction R with
  | nil =>
    intro _
    have e : ((List.range m).map fun t : Nat => ([] : List (List Mv)).countP fun r => decide (f r = (t : Int))) = (List.range m).map fun _ => 0 := List.map_congr_left fun t _ => rfl
    have z : ∀ k : Nat, ((List.range k).map fun _ : Nat => (0 : Nat)).sum = 0 := by
      intro k
      induction k with
      | zero => rfl
      | succ k ih => rw [List.range_succ, List.map_append, List.sum_append_nat, ih]; rfl
    rw [e, z]; rfl
  | cons r R ih =>
    intro h
    have ih := ih (fun x hx => h x (by simp [hx]))
    have hr := h r (by simp)
    have e : ((List.range m).map fun t : Nat => (r :: R).countP fun r => decide (f r = (t : Int))) = (List.range m).map fun t : Nat => (R.countP fun r => decide (f r = (t : Int))) + (if f r = (t : Int) then 1 else 0) := by
      apply List.map_congr_left
      intro t _
      rw [List.countP_cons]
      simp
    rw [e, List.length_cons, ih]
    clear e ih
    have key : ∀ m : Nat, ((List.range m).map fun t : Nat => (R.countP fun r => decide (f r = (t : Int))) + (if f r = (t : Int) then 1 else 0)).sum = ((List.range m).map fun t : Nat => R.countP fun r => decide (f r = (t : Int))).sum + if f r < (m : Int) then 1 else 0 := by
      intro m
      induction m with
      | zero => simp; omega
      | succ m ih =>
        rw [List.range_succ, List.map_append, List.map_append, List.sum_append_nat, List.sum_append_nat, ih]
        simp only [List.map_cons, List.map_nil, List.sum_cons, List.sum_nil]
        push_cast
        split <;> split <;> split <;> omega
    rw [key m, if_pos hr.2]
end Go.Proofs.Ytbhjhajnhpohlaa
