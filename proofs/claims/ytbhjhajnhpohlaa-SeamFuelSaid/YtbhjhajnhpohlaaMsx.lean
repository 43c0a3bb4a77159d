/- The machine's step at any op but a repeat. Conditions: a valid op, the machine's blocks apart from the graph's. -/
import Derived.Test.YtbhjhajnhpohlaaMsv
namespace Go.Proofs.Ytbhjhajnhpohlaa
open Go.RowKit

section
variable {g bs bu : Nat} {N : Int} {A : Option Addr} {cap : Nat} {fuel f : Int} {m : Mc} {l : List Sm} {w0 w : World}
theorem six1 {c : Int} (h1 : 0 ≤ c) (h2 : c ≤ 5) : c = 0 ∨ c = 1 ∨ c = 2 ∨ c = 3 ∨ c = 4 ∨ c = 5 := by omega
theorem pstep_ok {fuel N : Int} {l : List Sm} {o : Opr} {m m' : Mc} (hf : m.s < fuel) (h : pst N l o m = (0, m')) : pstep fuel N l o m = (0, { m' with s := m.s + 1 }) := by
  unfold pstep
  rw [if_neg (by omega), h]
  rfl
theorem pstep_no {fuel N : Int} {l : List Sm} {o : Opr} {m : Mc} (hf : m.s < fuel) {x : Int} (hx : x ≠ 0) (h : pst N l o m = (x, m)) : pstep fuel N l o m = (x, m) := by
  unfold pstep
  rw [if_neg (by omega), h]
  exact if_neg hx
/-- the step, at any op but a repeat -/
theorem step_any (o : Opr) (hok : OpOk o) (h5 : o.c ≠ 5) (h : PmS g bs bu l.length N A cap fuel f m w) (ha : Ap w0.heap.size g bs bu) (hs : 0 ≤ m.s ∧ m.s < 100000 ∨ fuel ≤ m.s) (hh : m.h < 8) (hS : SSl w0 A l) (hw0 : Below w0.heap.size w0 w) (hc : l.length ≤ cap) (hcm : cap ≤ 9223372036854775807) :
    Calls Try.prog 81 #[.pointer (some ⟨g, 0, none⟩), o.val] w fun e w' => PmS g bs bu l.length N A cap fuel f (pstep fuel N l o m).2 w' ∧ But3 g bs bu w w' ∧ StE (pstep fuel N l o m).1 e := by
  obtain ⟨c, og, ob⟩ := o
  obtain ⟨o1, o2, o3, o4, o5⟩ := hok
  dsimp only at o1 o2 o3 o4 o5 h5
  by_cases hf : fuel ≤ m.s
  · have e : pstep fuel N l ⟨c, og, ob⟩ m = (10, m) := by unfold pstep; rw [if_pos hf]
    rw [e]
    exact step_fuel' c og ob h hf
  · have hf : m.s < fuel := by omega
    have hs : 0 ≤ m.s ∧ m.s < 100000 := by omega
    have hb : c ≠ 3 → ob = false := fun h => by cases ob; rfl; exact absurd (o5 rfl) h
    rcases six1 o1 o2 with rfl | rfl | rfl | rfl | rfl | rfl
    · obtain rfl := hb (by decide)
      by_cases h0 : 0 ≤ m.h
      · rw [pstep_no hf (x := 1) (by decide) (by simp [pst, h0])]
        exact step_take_no (m := m) og h ha hs hf h0
      · rw [pstep_ok hf (m' := { m with h := og }) (by simp [pst, h0])]
        exact step_take (m := m) og h ha hs hf (by omega)
    · obtain rfl := hb (by decide)
      by_cases h0 : 0 ≤ m.h
      · rw [pstep_no hf (x := 2) (by decide) (by simp [pst, h0])]
        exact step_go_no (m := m) og h ha hs hf h0
      · by_cases h1 : N ≤ og
        · rw [pstep_no hf (x := 3) (by decide) (by simp [pst, h0, h1])]
          exact step_go_far (m := m) og h ha hs hf (by omega) h1
        · rw [pstep_ok hf (m' := { m with a := og }) (by simp [pst, h0, h1])]
          exact step_go (m := m) og h ha hs hf (by omega) (by omega)
    · obtain rfl := hb (by decide)
      by_cases h0 : m.h < 0
      · rw [pstep_no hf (x := 4) (by decide) (by simp [pst, h0])]
        exact step_lock_no (m := m) og h ha hs hf h0
      · rw [pstep_ok hf (m' := m.use 4) (by simp [pst, h0])]
        exact step_lock (m := m) og h ha hs hf (by omega) hh
    · obtain ⟨q, rfl⟩ := Int.eq_ofNat_of_zero_le o3
      by_cases h0 : m.h < 0
      · rw [pstep_no hf (x := 4) (by decide) (by simp [pst, h0])]
        exact step_sew_no (m := m) q ob h ha hs hf hS hw0 h0
      · by_cases h1 : (l.length : Int) ≤ q
        · rw [pstep_no hf (x := 5) (by decide) (by simp only [pst]; rw [if_neg (by decide), if_neg (by decide), if_neg h0, if_neg (by decide), if_neg (by decide), if_pos h1])]
          exact step_sew_far (m := m) q ob h ha hs hf hS hw0 (by omega) h1
        · by_cases h6 : (⟨(q : Int), ob⟩ : Mv).thr l = m.h
          · by_cases h7 : m.a = (⟨(q : Int), ob⟩ : Mv).from l
            · rw [pstep_ok hf (m' := { m.use (wrap64 (3 * (⟨(q : Int), ob⟩ : Mv).len l)) with sw := upd m.sw q (wrap64 (m.sw q + 1)), a := (⟨(q : Int), ob⟩ : Mv).to_ l }) (by simp only [pst]; rw [if_neg (by decide), if_neg (by decide), if_neg h0, if_neg (by decide), if_neg (by decide), if_neg h1, if_neg (by simpa using h6), if_neg (by simpa using h7)]; rfl)]
              exact step_sew (m := m) q ob h ha hs hf hS hw0 hc hcm (by omega) hh (by omega) h6 h7
            · rw [pstep_no hf (x := 7) (by decide) (by simp only [pst]; rw [if_neg (by decide), if_neg (by decide), if_neg h0, if_neg (by decide), if_neg (by decide), if_neg h1, if_neg (by simpa using h6), if_pos h7])]
              exact step_sew_at (m := m) q ob h ha hs hf hS hw0 hc hcm (by omega) hh (by omega) h6 h7
          · rw [pstep_no hf (x := 6) (by decide) (by simp only [pst]; rw [if_neg (by decide), if_neg (by decide), if_neg h0, if_neg (by decide), if_neg (by decide), if_neg h1, if_pos h6])]
            exact step_sew_thr (m := m) q ob h ha hs hf hS hw0 (by omega) hh (by omega) h6
    · obtain rfl := hb (by decide)
      by_cases h0 : m.h < 0
      · rw [pstep_no hf (x := 4) (by decide) (by simp [pst, h0])]
        exact step_cut_no (m := m) og h ha hs hf h0
      · rw [pstep_ok hf (m' := { m.use 2 with h := -1, k := wrap64 (m.k + 1) }) (by simp [pst, h0])]
        exact step_cut (m := m) og h ha hs hf (by omega) hh
    · exact absurd rfl h5
end
end Go.Proofs.Ytbhjhajnhpohlaa
