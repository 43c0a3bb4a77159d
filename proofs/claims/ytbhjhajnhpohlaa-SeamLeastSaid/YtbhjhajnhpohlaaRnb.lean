/- Words for the memory of runs: the marks of ranges over functions, rows of rows behind each other, what a round holds. No conditions. -/
import Derived.Test.YtbhjhajnhpohlaaCk
import Derived.Test.YtbhjhajnhpohlaaRna
import Derived.Test.YtbhjhajnhpohlaaPas
namespace Go.Proofs.Ytbhjhajnhpohlaa
open Go.RowKit

/-- the mark of a range over a function that has ended -/
def mkD (D : Nat) : Deferred := { target := .collected D, args := #[] }
/-- the blocks that the marks name: shut later -/
def DsOk (base : Nat) (w : World) (Ds : List Nat) : Prop := Ds.Nodup ∧ ∀ D ∈ Ds, base ≤ D ∧ w.heap[D]? = some (.deferred (some []))
theorem DsOk.keep {base : Nat} {w w' : World} {Ds : List Nat} (h : DsOk base w Ds) (hk : ∀ (k : Nat) (o : Obj), w.heap[k]? = some o → o.isCells = false → w'.heap[k]? = some o) : DsOk base w' Ds :=
  ⟨h.1, fun D hD => ⟨(h.2 D hD).1, hk D _ (h.2 D hD).2 rfl⟩⟩
theorem DsOk.ext {base : Nat} {w w' : World} {Ds : List Nat} (h : DsOk base w Ds) (hb : Below w.heap.size w w') : DsOk base w' Ds :=
  h.keep fun k _ hk _ => (hb.block k (Array.getElem?_eq_some_iff.1 hk).1).trans hk
theorem DsOk.cons {base : Nat} {w : World} {Ds : List Nat} {D : Nat} {B : Nat} (h : DsOk base w Ds) (hlt : ∀ D ∈ Ds, D < B) (hB : B ≤ D) (hb : base ≤ D) (hD : w.heap[D]? = some (.deferred (some []))) : DsOk base w (D :: Ds) := by
  refine ⟨List.nodup_cons.2 ⟨fun hm => ?_, h.1⟩, fun x hx => ?_⟩
  · have := hlt D hm; omega
  · rcases List.mem_cons.1 hx with rfl | hx
    · exact ⟨hb, hD⟩
    · exact h.2 x hx
/-- a row that has grown keeps whatever is no cells -/
theorem grown_keeps {w w' : World} {base n sz : Nat} {e : TypeId} {v : Value} {xs : List Value} (h : w.ownsRow base e sz v n xs) (hk : ∀ k, k < w.heap.size → some k ≠ v.ownBlock → w'.heap[k]? = w.heap[k]?) : ∀ (k : Nat) (o : Obj), w.heap[k]? = some o → o.isCells = false → w'.heap[k]? = some o := by
  intro k o ho hc
  refine (hk k (Array.getElem?_eq_some_iff.1 ho).1 fun e => ?_).trans ho
  rcases h.2 with ⟨rfl, _⟩ | ⟨g, cap, cur, rfl, hg, hh, _⟩
  · cases e
  · have : k = g := by simpa [Value.ownBlock] using e
    subst this
    rw [hh] at ho
    injection ho with ho
    rw [← ho] at hc
    cases hc
/-- the function is left: all marks are taken in -/
theorem leaves_ds {F : Fence} {n : Nat} {P : Program} {fn : Func} {tmps : Array Value} {R : Ending → World → Prop} {base : Nat} : ∀ (Ds : List Nat) (w : World), DsOk base w Ds → base ≤ w.heap.size →
    (∀ w', Below base w w' → (∀ (k : Nat) (o : Obj), w.heap[k]? = some o → o.isCells = true → w'.heap[k]? = some o) → LeavesIn F n P fn tmps R [] .returning w') → LeavesInM F n P fn tmps R (Ds.map mkD) .returning w
  | [], w, _, _, h => h w (Below.refl _ _) (fun _ _ h _ => h)
  | D :: Ds, w, hd, hs, h => by
    obtain ⟨hD1, hD2⟩ := hd.2 D (by simp)
    have hlt : D < w.heap.size := (Array.getElem?_eq_some_iff.1 hD2).1
    have hoth : ∀ k, k ≠ D → (w.putObj D (.deferred none)).heap[k]? = w.heap[k]? := fun k hk => World.putObj_heap_other hk
    have hb1 : Below base w (w.putObj D (.deferred none)) := (Below.refl base w).grown (grownBy_putObj' w D _) hs (fun k e => by cases e; exact hD1)
    refine ⟨by simp, .inl ⟨D, _, rfl, run_takeDeferred hD2, ?_⟩⟩
    refine leaves_ds Ds _ ⟨(List.nodup_cons.1 hd.1).2, fun x hx => ⟨(hd.2 x (by simp [hx])).1, (hoth x fun e => ?_).trans (hd.2 x (by simp [hx])).2⟩⟩ (Nat.le_trans hs hb1.size) ?_
    · subst e; exact (List.nodup_cons.1 hd.1).1 hx
    · intro w' hb2 hk2
      refine h w' (hb1.trans hb2) fun k o ho hc => hk2 k o ((hoth k fun e => ?_).trans ho) hc
      subst e
      rw [hD2] at ho
      injection ho with ho
      rw [← ho] at hc
      cases hc
/-- rows of rows behind each other: the new rows' headers are copied -/
theorem Vr.cat {R M : TypeId} {base : Nat} {w w' : World} {v v' : Value} {ls ls' : List (List Mv)} {vs vs' : List Value} (hRM : R ≠ M) (h1 : vs.length = ls.length) (h2 : w.ownsRow base R 1 v ls.length vs) (h3 : ∀ j (h : j < vs.length) (h' : j < ls.length), Vm M base w vs[j] ls[j])
    (g1 : vs'.length = ls'.length) (g3 : ∀ j (h : j < vs'.length) (h' : j < ls'.length), Vm M base w vs'[j] ls'[j]) (hv : w'.ownsRow base R 1 v' (ls.length + ls'.length) (vs ++ vs')) (hk : ∀ k, k < w.heap.size → some k ≠ v.ownBlock → w'.heap[k]? = w.heap[k]?) : Vr R M base w' v' (ls ++ ls') := by
  have hkeep : ∀ (u : Value) (l : List Mv), Vm M base w u l → Vm M base w' u l := fun u l hl => own_keep hl fun k e => hk k (own_lt hl k e).2 (own_ne2 h2 hl hRM k e)
  refine ⟨vs ++ vs', by rw [List.length_append, List.length_append, h1, g1], by rw [List.length_append]; exact hv, fun j hj hj' => ?_⟩
  by_cases hjl : j < ls.length
  · rw [List.getElem_append_left (by omega), List.getElem_append_left hjl]
    exact hkeep _ _ (h3 j (by omega) hjl)
  · rw [List.length_append] at hj'
    rw [List.getElem_append_right (by omega), List.getElem_append_right (by omega)]
    simp only [h1]
    exact hkeep _ _ (g3 _ (by omega) (by omega))
/-- at most as many runs as seams -/
theorem nodup_len : ∀ (n : Nat) (D : List Int), D.Nodup → (∀ x ∈ D, 0 ≤ x ∧ x < n) → D.length ≤ n
  | 0, D, _, h => by
    cases D with
    | nil => simp
    | cons x D => have := h x (by simp); omega
  | n + 1, D, hd, h => by
    by_cases hm : (n : Int) ∈ D
    · have ih := nodup_len n (D.erase n) (hd.erase _) (fun x hx => by
        have h1 := h x (List.mem_of_mem_erase hx)
        have h2 : x ≠ (n : Int) := fun e => by
          rw [e] at hx
          exact (List.Nodup.not_mem_erase hd) hx
        omega)
      rw [List.length_erase_of_mem hm] at ih
      omega
    · have ih := nodup_len n D hd (fun x hx => by
        have h1 := h x hx
        have h2 : x ≠ (n : Int) := fun e => hm (by rw [← e]; exact hx)
        omega)
      omega
theorem RunsI.len {l : List Sm} {P : Sm → Prop} {c : Int → Nat} {R : List (List Mv)} (h : RunsI l P c R) : R.length ≤ l.length := by
  have h1 := nodup_len l.length (R.flatten.map Mv.k) h.nd (fun x hx => by
    obtain ⟨i, hi, rfl, _⟩ := (h.mem x).1 hx
    omega)
  rw [List.length_map] at h1
  refine Nat.le_trans ?_ h1
  have hg := h.good
  clear h h1
  induction R with
  | nil => simp
  | cons r R ih =>
    have h2 := ih (fun x hx => hg x (by simp [hx]))
    have h3 : 0 < r.length := List.length_pos_iff.2 (hg r (by simp)).1
    rw [List.flatten_cons, List.length_append, List.length_cons]
    omega
/-- the jumps, one by one -/
theorem jps_take (e : List Int) : ∀ (m : Nat) (h : 2 * m ≤ e.length), (firstN e m h).map (fun x => (⟨-1, e[2 * x.1]'(by omega), e[2 * x.1 + 1]⟩ : Ln)) = jps (e.take (2 * m))
  | 0, _ => rfl
  | m + 1, h => by
    have ih := jps_take e m (by omega)
    unfold firstN
    rw [List.map_append, ih]
    have e2 : e.take (2 * (m + 1)) = e.take (2 * m) ++ [e[2 * m], e[2 * m + 1]] := by
      rw [show 2 * (m + 1) = 2 * m + 1 + 1 by omega, List.take_succ_eq_append_getElem (by omega), List.take_succ_eq_append_getElem (by omega), List.append_assoc]; rfl
    rw [e2, jps_snoc _ _ _ (by rw [List.length_take]; omega)]
    rfl
theorem jps_first (e : List Int) (hev : e.length % 2 = 0) (h : 2 * (e.length / 2) ≤ e.length) : (firstN e (e.length / 2) h).map (fun x => (⟨-1, e[2 * x.1]'(by omega), e[2 * x.1 + 1]⟩ : Ln)) = jps e := by
  rw [jps_take, List.take_of_length_le (by omega)]
end Go.Proofs.Ytbhjhajnhpohlaa
