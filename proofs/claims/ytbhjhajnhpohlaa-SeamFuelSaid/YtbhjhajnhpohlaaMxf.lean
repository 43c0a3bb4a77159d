/- Plain law of the machine's fuel: more fuel changes nothing behind an end within the fuel; no fuel left means as many steps as fuel. No conditions. -/
import Derived.Test.YtbhjhajnhpohlaaMxq
import Derived.Test.YtbhjhajnhpohlaaMrn
namespace Go.Proofs.Ytbhjhajnhpohlaa

theorem n0_10 : (0 : Int) ≠ 10 := by decide
theorem n8_10 : (8 : Int) ≠ 10 := by decide
theorem n9_10 : (9 : Int) ≠ 10 := by decide
section
variable {F F' N : Int} {l : List Sm} {o : Opr} {m : Mc}
theorem pst_ne10 : (pst N l o m).1 ≠ 10 := by
  unfold pst
  repeat' split
  all_goals first
    | exact (by decide : (0 : Int) ≠ 10)
    | exact (by decide : (1 : Int) ≠ 10)
    | exact (by decide : (2 : Int) ≠ 10)
    | exact (by decide : (3 : Int) ≠ 10)
    | exact (by decide : (4 : Int) ≠ 10)
    | exact (by decide : (5 : Int) ≠ 10)
    | exact (by decide : (6 : Int) ≠ 10)
    | exact (by decide : (7 : Int) ≠ 10)
theorem pstep_out (h : F ≤ m.s) : pstep F N l o m = (10, m) := by unfold pstep; rw [if_pos h]
theorem pstep_eq (h : m.s < F) : pstep F N l o m = if (pst N l o m).1 = 0 then (0, { (pst N l o m).2 with s := m.s + 1 }) else ((pst N l o m).1, m) := by
  unfold pstep; rw [if_neg (by omega)]
theorem pstep_mono : m.s ≤ (pstep F N l o m).2.s := by
  by_cases h : F ≤ m.s
  · rw [pstep_out h]; exact Int.le_refl _
  · rw [pstep_eq (by omega)]
    split
    · show m.s ≤ m.s + 1; omega
    · exact Int.le_refl _
theorem rep_mono : ∀ (n : Nat) (m : Mc), m.s ≤ (rep F N l o n m).2.s := by
  intro n
  induction n with
  | zero => intro m; exact Int.le_refl _
  | succ n ih =>
    intro m
    show m.s ≤ (if (pstep F N l o m).1 = 0 then _ else _ : Int × Mc).2.s
    split
    · exact Int.le_trans pstep_mono (ih _)
    · exact pstep_mono
theorem exec_mono : ∀ (n : Nat) (ops : List Opr), ops.length ≤ n → ∀ m : Mc, m.s ≤ (exec F N l ops m).2.s := by
  intro n
  induction n with
  | zero =>
    intro ops hl m
    cases ops with
    | nil => exact Int.le_refl _
    | cons a t => simp at hl
  | succ n ih =>
    intro ops hl m
    match ops, hl with
    | [], _ => exact Int.le_refl _
    | [o], _ =>
      show m.s ≤ (if o.c = 5 then (if F ≤ m.s then (10, m) else (8, m)) else pstep F N l o m : Int × Mc).2.s
      split
      · split <;> exact Int.le_refl _
      · exact pstep_mono
    | o :: o2 :: rest, hl =>
      simp only [List.length_cons] at hl
      unfold exec
      split
      · split
        · exact Int.le_refl _
        · split
          · exact Int.le_refl _
          · have h1 : m.s ≤ (rep F N l o2 o.g.toNat { m with s := m.s + 1 }).2.s := by
              have h := rep_mono (F := F) (N := N) (l := l) (o := o2) o.g.toNat { m with s := m.s + 1 }
              have h2 : ({ m with s := m.s + 1 } : Mc).s = m.s + 1 := rfl
              omega
            split
            · exact Int.le_trans h1 (ih _ (by omega) _)
            · exact h1
      · split
        · exact Int.le_trans pstep_mono (ih _ (by simp only [List.length_cons]; omega) _)
        · exact pstep_mono
/-- an end with little fuel beside one with more -/
def Fu (F : Int) (r r' : Int × Mc) : Prop := r.2.s ≤ F ∧ (r.1 = 10 → r.2.s = F ∧ F ≤ r'.2.s) ∧ (r.1 ≠ 10 → r' = r)
theorem Fu.out {r' : Int × Mc} (h1 : m.s = F) (h2 : m.s ≤ r'.2.s) : Fu F (10, m) r' := ⟨by show m.s ≤ F; omega, fun _ => ⟨h1, by omega⟩, fun h => absurd rfl h⟩
theorem Fu.same {r : Int × Mc} (h1 : r.2.s ≤ F) (h2 : r.1 ≠ 10) : Fu F r r := ⟨h1, fun h => absurd h h2, fun _ => rfl⟩
theorem Fu.pstep (hF : F ≤ F') (hm : m.s ≤ F) : Fu F (pstep F N l o m) (pstep F' N l o m) := by
  by_cases h : F ≤ m.s
  · rw [pstep_out h]; exact Fu.out (by omega) pstep_mono
  · rw [pstep_eq (F := F) (by omega), pstep_eq (F := F') (by omega)]
    split
    · exact Fu.same (by show m.s + 1 ≤ F; omega) n0_10
    · exact Fu.same hm pst_ne10
/-- one thing, then another -/
theorem Fu.thn {r r' : Int × Mc} {k k' : Mc → Int × Mc} (h : Fu F r r') (hk : ∀ m, m.s ≤ F → Fu F (k m) (k' m)) (hm : ∀ m, m.s ≤ (k' m).2.s) : Fu F (if r.1 = 0 then k r.2 else r) (if r'.1 = 0 then k' r'.2 else r') := by
  by_cases h10 : r.1 = 10
  · have e := h.2.1 h10
    rw [if_neg (by omega)]
    refine ⟨h.1, fun _ => ⟨e.1, ?_⟩, fun hn => absurd h10 hn⟩
    split
    · exact Int.le_trans e.2 (hm _)
    · exact e.2
  · rw [h.2.2 h10]
    split
    · exact hk _ h.1
    · exact Fu.same h.1 h10
theorem Fu.rep (hF : F ≤ F') : ∀ (n : Nat) (m : Mc), m.s ≤ F → Fu F (rep F N l o n m) (rep F' N l o n m) := by
  intro n
  induction n with
  | zero => intro m hm; exact Fu.same hm n0_10
  | succ n ih => intro m hm; exact Fu.thn (Fu.pstep hF hm) ih (rep_mono n)
theorem Fu.exec (hF : F ≤ F') : ∀ (n : Nat) (ops : List Opr), ops.length ≤ n → ∀ m : Mc, m.s ≤ F → Fu F (exec F N l ops m) (exec F' N l ops m) := by
  intro n
  induction n with
  | zero =>
    intro ops hl m hm
    cases ops with
    | nil => exact Fu.same hm n0_10
    | cons a t => simp at hl
  | succ n ih =>
    intro ops hl m hm
    match ops, hl with
    | [], _ => exact Fu.same hm n0_10
    | [o], _ =>
      unfold Go.Proofs.Ytbhjhajnhpohlaa.exec
      split
      · by_cases h : F ≤ m.s
        · rw [if_pos h]
          exact Fu.out (by omega) (by split <;> exact Int.le_refl _)
        · rw [if_neg h, if_neg (by omega)]
          exact Fu.same hm n8_10
      · exact Fu.pstep hF hm
    | o :: o2 :: rest, hl =>
      simp only [List.length_cons] at hl
      have hmono := exec_mono (F := F') (N := N) (l := l) (o :: o2 :: rest).length (o :: o2 :: rest) (Nat.le_refl _) m
      by_cases h5 : o.c = 5
      · by_cases h : F ≤ m.s
        · have e : Go.Proofs.Ytbhjhajnhpohlaa.exec F N l (o :: o2 :: rest) m = (10, m) := by
            unfold Go.Proofs.Ytbhjhajnhpohlaa.exec; rw [if_pos h5, if_pos h]
          rw [e]
          exact Fu.out (by omega) hmono
        · unfold Go.Proofs.Ytbhjhajnhpohlaa.exec
          rw [if_pos h5, if_pos h5, if_neg h, if_neg (show ¬ F' ≤ m.s by omega)]
          by_cases h9 : o2.c = 5
          · rw [if_pos h9, if_pos h9]; exact Fu.same (r := (9, m)) hm n9_10
          · rw [if_neg h9, if_neg h9]
            exact Fu.thn (Fu.rep hF _ { m with s := m.s + 1 } (show m.s + 1 ≤ F by omega)) (fun m hm => ih _ (by omega) m hm) (fun m => exec_mono _ _ (Nat.le_refl _) m)
      · unfold Go.Proofs.Ytbhjhajnhpohlaa.exec
        rw [if_neg h5, if_neg h5]
        exact Fu.thn (Fu.pstep hF hm) (fun m hm => ih _ (by simp only [List.length_cons]; omega) m hm) (fun m => exec_mono _ _ (Nat.le_refl _) m)
end
theorem fuel_any {F F' N : Int} {l : List Sm} {ops : List Opr} (h0 : 0 ≤ F) (hF : F ≤ F') : Fu F (exec F N l ops mc0) (exec F' N l ops mc0) := Fu.exec hF _ ops (Nat.le_refl _) mc0 h0
end Go.Proofs.Ytbhjhajnhpohlaa
