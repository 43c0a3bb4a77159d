/- The reference's does at any op but a repeat. Conditions: a valid op, the report's blocks apart from the graph's. -/
import Derived.Test.YtbhjhajnhpohlaaRdo
namespace Go.Proofs.Ytbhjhajnhpohlaa
open Go.RowKit

theorem six2 {c : Int} (h1 : 0 ≤ c) (h2 : c ≤ 5) : c = 0 ∨ c = 1 ∨ c = 2 ∨ c = 3 ∨ c = 4 ∨ c = 5 := by omega
theorem does_any {g bs bu : Nat} {N : Int} {A : Option Addr} {cap : Nat} {f : Int} {m : Mc} {l : List Sm} {w0 w : World} (o : Opr) (hok : OpOk o) (h5 : o.c ≠ 5) (h : RmS g bs bu l.length f m w) (ha : Ap w0.heap.size g bs bu) (hh : m.h < 8) (hS : SSl w0 A l) (hw0 : Below w0.heap.size w0 w) (hc : l.length ≤ cap) (hcm : cap ≤ 9223372036854775807) :
    Calls Try.prog 70 #[.pointer (some ⟨g, 0, none⟩), .agg #[.int .i64 N, .slice A l.length cap], o.val] w fun e w' => e = .returned (.int .i64 (pst N l o m).1) ∧ RmS g bs bu l.length f (pst N l o m).2 w' ∧ But3 g bs bu w w' := by
  obtain ⟨c, og, ob⟩ := o
  obtain ⟨o1, o2, o3, o4, o5⟩ := hok
  dsimp only at o1 o2 o3 o4 o5 h5
  have hb : c ≠ 3 → ob = false := fun h => by cases ob; rfl; exact absurd (o5 rfl) h
  rcases six2 o1 o2 with rfl | rfl | rfl | rfl | rfl | rfl
  · obtain rfl := hb (by decide)
    by_cases h0 : 0 ≤ m.h
    · rw [show pst N l ⟨0, og, false⟩ m = (1, m) by simp [pst, h0]]
      exact does_take_no (m := m) og h ha h0
    · rw [show pst N l ⟨0, og, false⟩ m = (0, { m with h := og }) by simp [pst, h0]]
      exact does_take (m := m) og h ha (by omega)
  · obtain rfl := hb (by decide)
    by_cases h0 : 0 ≤ m.h
    · rw [show pst N l ⟨1, og, false⟩ m = (2, m) by simp [pst, h0]]
      exact does_go_no (m := m) og h ha h0
    · by_cases h1 : N ≤ og
      · rw [show pst N l ⟨1, og, false⟩ m = (3, m) by simp [pst, h0, h1]]
        exact does_go_far (m := m) og h ha (by omega) h1
      · rw [show pst N l ⟨1, og, false⟩ m = (0, { m with a := og }) by simp [pst, h0, h1]]
        exact does_go (m := m) og h ha (by omega) h1
  · obtain rfl := hb (by decide)
    by_cases h0 : m.h < 0
    · rw [show pst N l ⟨2, og, false⟩ m = (4, m) by simp [pst, h0]]
      exact does_lock_no (m := m) og h ha h0
    · rw [show pst N l ⟨2, og, false⟩ m = (0, m.use 4) by simp [pst, h0]]
      exact does_lock (m := m) og h ha (by omega) hh
  · obtain ⟨q, rfl⟩ := Int.eq_ofNat_of_zero_le o3
    by_cases h0 : m.h < 0
    · rw [show pst N l ⟨3, (q : Int), ob⟩ m = (4, m) by simp [pst, h0]]
      exact does_sew_no (m := m) q ob h ha h0
    · by_cases h1 : (l.length : Int) ≤ q
      · rw [show pst N l ⟨3, (q : Int), ob⟩ m = (5, m) by (simp only [pst]; rw [if_neg (by decide), if_neg (by decide), if_neg h0, if_neg (by decide), if_neg (by decide), if_pos h1])]
        exact does_sew_far (m := m) q ob h ha (by omega) h1
      · by_cases h6 : (⟨(q : Int), ob⟩ : Mv).thr l = m.h
        · by_cases h7 : m.a = (⟨(q : Int), ob⟩ : Mv).from l
          · rw [show pst N l ⟨3, (q : Int), ob⟩ m = (0, { m.use (wrap64 (3 * (⟨(q : Int), ob⟩ : Mv).len l)) with sw := upd m.sw q (wrap64 (m.sw q + 1)), a := (⟨(q : Int), ob⟩ : Mv).to_ l }) by (simp only [pst]; rw [if_neg (by decide), if_neg (by decide), if_neg h0, if_neg (by decide), if_neg (by decide), if_neg h1, if_neg (by simpa using h6), if_neg (by simpa using h7)]; rfl)]
            exact does_sew (m := m) q ob h ha (by omega) hh hS hw0 hc hcm (by omega) h6 h7
          · rw [show pst N l ⟨3, (q : Int), ob⟩ m = (7, m) by (simp only [pst]; rw [if_neg (by decide), if_neg (by decide), if_neg h0, if_neg (by decide), if_neg (by decide), if_neg h1, if_neg (by simpa using h6), if_pos h7])]
            exact does_sew_at (m := m) q ob h ha (by omega) hh hS hw0 hc hcm (by omega) h6 h7
        · rw [show pst N l ⟨3, (q : Int), ob⟩ m = (6, m) by (simp only [pst]; rw [if_neg (by decide), if_neg (by decide), if_neg h0, if_neg (by decide), if_neg (by decide), if_neg h1, if_pos h6])]
          exact does_sew_thr (m := m) q ob h ha (by omega) hh hS hw0 hc hcm (by omega) h6
  · obtain rfl := hb (by decide)
    by_cases h0 : m.h < 0
    · rw [show pst N l ⟨4, og, false⟩ m = (4, m) by simp [pst, h0]]
      exact does_cut_no (m := m) og h ha h0
    · rw [show pst N l ⟨4, og, false⟩ m = (0, { m.use 2 with h := -1, k := wrap64 (m.k + 1) }) by simp [pst, h0]]
      exact does_cut (m := m) og h ha (by omega) hh
  · exact absurd rfl h5
end Go.Proofs.Ytbhjhajnhpohlaa
