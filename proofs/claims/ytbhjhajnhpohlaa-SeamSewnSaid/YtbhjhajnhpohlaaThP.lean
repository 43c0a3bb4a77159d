/- Plain: how much of each thread the shortest programs use. No conditions. -/
import Derived.Test.YtbhjhajnhpohlaaFwL
namespace Go.Proofs.Ytbhjhajnhpohlaa

/-- three times the lengths of the first k seams, each to its thread -/
def addS (d : Nat → Int) (l : List Sm) : Nat → Nat → Int
  | 0 => d
  | k + 1 => match l[k]? with
    | none => addS d l k
    | some s => upd (addS d l k) s.t.toNat (addS d l k s.t.toNat + 3 * s.n)
theorem addS_succ {d : Nat → Int} {l : List Sm} {k : Nat} (h : k < l.length) {s : Sm} (hs : s = l[k]) {j : Nat} (hj : s.t = j) : addS d l (k + 1) = upd (addS d l k) j (addS d l k j + 3 * s.n) := by
  show (match l[k]? with | none => _ | some s => _) = _
  rw [List.getElem?_eq_getElem h, ← hs]
  dsimp only
  rw [hj, Int.toNat_natCast]
/-- ten for each of the first k runs -/
def addR (l : List Sm) (d : Nat → Int) (R : List (List Mv)) : Nat → Nat → Int
  | 0 => d
  | k + 1 => match R[k]? with
    | none => addR l d R k
    | some r => upd (addR l d R k) (runT l r).toNat (addR l d R k (runT l r).toNat + 10)
theorem addR_succ {l : List Sm} {d : Nat → Int} {R : List (List Mv)} {k : Nat} (h : k < R.length) {r : List Mv} (hr : r = R[k]) {j : Nat} (hj : runT l r = j) : addR l d R (k + 1) = upd (addR l d R k) j (addR l d R k j + 10) := by
  show (match R[k]? with | none => _ | some r => _) = _
  rw [List.getElem?_eq_getElem h, ← hr]
  dsimp only
  rw [hj, Int.toNat_natCast]
theorem addS_off (d : Nat → Int) (l : List Sm) (t : Nat) : ∀ k, addS d l k t = d t + addS (fun _ => 0) l k t
  | 0 => by show d t = d t + 0; omega
  | k + 1 => by
    have ih := addS_off d l t k
    cases hs : l[k]? with
    | none =>
      simp only [addS, hs]
      exact ih
    | some s =>
      simp only [addS, hs]
      unfold upd
      by_cases h : t = s.t.toNat
      · rw [if_pos h, if_pos h, ← h, ih]; omega
      · rw [if_neg h, if_neg h]; exact ih
theorem addR_cnt {l : List Sm} (d : Nat → Int) (R : List (List Mv)) (hR : ∀ r ∈ R, 0 ≤ runT l r) (t : Nat) : ∀ k, k ≤ R.length → addR l d R k t = d t + 10 * (((R.take k).countP fun r => decide (runT l r = (t : Int)) : Nat) : Int)
  | 0, _ => by show d t = _; simp
  | k + 1, hk => by
    have hlt : k < R.length := by omega
    have ih := addR_cnt d R hR t k (by omega)
    have h0 := hR _ (List.getElem_mem hlt)
    obtain ⟨j, hj⟩ := Int.eq_ofNat_of_zero_le h0
    rw [addR_succ hlt rfl hj, List.take_succ_eq_append_getElem hlt, List.countP_append, List.countP_cons, List.countP_nil]
    unfold upd
    by_cases htj : t = j
    · subst htj
      rw [if_pos rfl, ih, hj]
      simp; omega
    · rw [if_neg htj, ih, hj]
      have : ¬ ((j : Int) = (t : Int)) := by omega
      simp [this]
/-- how much of a thread -/
def thV (N : Int) (l : List Sm) (t : Nat) : Int := 10 * (fwT l t N.toNat : Int) + addS (fun _ => 0) l l.length t
theorem thV_prog {N : Int} {l : List Sm} (hl : ∀ s ∈ l, SmOk N s) {R : List (List Mv)} (h : RunsI l (fun _ => True) (cE N l) R) {t : Nat} (ht : t < 8) : addR l (addS (fun _ => 0) l l.length) R R.length t = thV N l t := by
  rw [addR_cnt _ R (fun r hr => (runT_rng hl (h.good r hr)).1) t R.length (Nat.le_refl _), List.take_length, h.cnt]
  unfold cE thV
  rw [if_pos (by omega)]
  omega
theorem thV_ref (N : Int) (l : List Sm) (t : Nat) : addS (fun t => 10 * (fwT l t N.toNat : Int)) l l.length t = thV N l t := by
  rw [addS_off]; rfl
theorem addS_bd {N : Int} {l : List Sm} (hl : ∀ s ∈ l, SmOk N s) (t : Nat) : ∀ k, k ≤ l.length → 0 ≤ addS (fun _ => 0) l k t ∧ addS (fun _ => 0) l k t ≤ 30000 * k
  | 0, _ => by show (0 : Int) ≤ 0 ∧ (0 : Int) ≤ _; omega
  | k + 1, hk => by
    have hlt : k < l.length := by omega
    have ih := addS_bd hl t k (by omega)
    have hso := hl _ (List.getElem_mem hlt)
    unfold SmOk at hso
    obtain ⟨j, hj⟩ := Int.eq_ofNat_of_zero_le hso.2.2.2.2.2.2.1
    rw [addS_succ hlt rfl hj]
    unfold upd
    split
    · rename_i h
      subst h
      push_cast; omega
    · push_cast; omega
theorem fwT_bd (l : List Sm) (t : Int) : ∀ m, fwT l t m ≤ 8 * m
  | 0 => by simp [fwT]
  | m + 1 => by
    have ih := fwT_bd l t m
    have : fwJ l t m ≤ 8 := by unfold fwJ; have := oddN_len (chJ l t m) l 16; split <;> omega
    show fwT l t m + fwJ l t m ≤ _; omega
end Go.Proofs.Ytbhjhajnhpohlaa
