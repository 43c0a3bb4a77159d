/- Walks of frac's valid. Conditions: the arguments are within their kinds. -/
import Derived.Test.YtpdlogpkfnpbpaaDoorFc
namespace Go.Proofs.YtpdlogpkfnpbpaaDoor
open Go.RowKit

/-- a slice of fractions -/
def FSl (w : World) (A : Option Addr) (l : List (Int × Int)) : Prop :=
  l = [] ∨ ∃ b off, A = some ⟨b, off, none⟩ ∧ b < w.heap.size ∧ ∀ j (h : j < l.length), w.cell? ⟨b, off + j * 2, none⟩ = some (.int .i64 l[j].1) ∧ w.cell? ⟨b, off + j * 2 + 1, none⟩ = some (.int .i64 l[j].2)
theorem FSl.ext {w w' : World} {A : Option Addr} {l : List (Int × Int)} (h : FSl w A l) (hb : Below w.heap.size w w') : FSl w' A l := by
  rcases h with h | ⟨b, off, hA, hlt, hc⟩
  · exact .inl h
  · exact .inr ⟨b, off, hA, Nat.lt_of_lt_of_le hlt hb.size, fun j hj => ⟨(hb.cell (p := ⟨b, off + j * 2, none⟩) hlt).trans (hc j hj).1, (hb.cell (p := ⟨b, off + j * 2 + 1, none⟩) hlt).trans (hc j hj).2⟩⟩
def AllV (l : List (Int × Int)) : Bool := l.all fun x => vldB x.1 x.2
theorem AllV.take_no {l : List (Int × Int)} {j : Nat} (h : j < l.length) (hv : vldB l[j].1 l[j].2 = false) : AllV l = false := by
  unfold AllV
  rw [List.all_eq_false]
  exact ⟨l[j], List.getElem_mem h, by simp [hv]⟩
theorem AllV.take_yes {l : List (Int × Int)} (h : ∀ j (hj : j < l.length), vldB l[j].1 l[j].2 = true) : AllV l = true := by
  unfold AllV
  rw [List.all_eq_true]
  intro x hx
  obtain ⟨j, hj, rfl⟩ := List.mem_iff_getElem.1 hx
  exact h j hj

set_option maxRecDepth 100000 in
set_option maxHeartbeats 2000000 in
theorem validl_any (A : Option Addr) (cap : Nat) (l : List (Int × Int)) (w : World) (hl : l.length ≤ 4611686018427387904) (h : FSl w A l) (hi : ∀ x ∈ l, IsI x.1 ∧ IsI x.2) :
    Calls Tryd.prog 29 #[.slice A l.length cap] w fun e w' => e = .returned (.bool (AllV l)) ∧ Below w.heap.size w w' := by
  have HI := Lib.hid hi
  have H := Lib.hid h
  clear hi h
  go_enter Tryd.func29, Tryd.ntmps29
  go_wp2
  go_loopg [7] l.length (fun g i wr => ∃ k : Nat, i = .int .i64 k ∧ k ≤ l.length ∧ g = l.length - k ∧ (∀ j (hj : j < l.length), j < k → vldB l[j].1 l[j].2 = true) ∧ Below w.heap.size w wr)
  case atStart => exact ⟨0, rfl, by omega, by omega, fun j hj h => absurd h (by omega), Below.refl _ _⟩
  case round =>
    obtain ⟨k, rfl, hk, hg, hall, hb⟩ := hrel
    have HG := Lib.hid hg
    have HALL := Lib.hid hall
    clear hg hall
    by_cases hlt : k < l.length
    · have hf := H.out.ext hb
      rcases hf with hf | ⟨b, off, rfl, hblt, hc⟩
      · rw [hf] at hlt; simp at hlt
      · obtain ⟨c1, c2⟩ := hc k hlt
        obtain ⟨i1, i2⟩ := HI.out l[k] (List.getElem_mem hlt)
        have HI1 := Lib.hid i1
        have HI2 := Lib.hid i2
        obtain ⟨x, hx⟩ : ∃ x, x = l[k].1 := ⟨_, rfl⟩
        obtain ⟨y, hy⟩ : ∃ y, y = l[k].2 := ⟨_, rfl⟩
        rw [← hx] at c1 HI1
        rw [← hy] at c2 HI2
        have HX := Lib.hid hx
        have HY := Lib.hid hy
        clear hx hy i1 i2 hc
        cases hv : vldB x y
        · have HV := Lib.hid hv
          clear hv
          go_wp2_with (go_at_call 10; refine (valid_any x y _ HI1.out HI2.out).mono ?_; rintro e w1 ⟨he, hb1⟩; rw [HV.out] at he; subst he)
          go_ret
          exact ⟨ret_bool (AllV.take_no hlt (by rw [← HX.out, ← HY.out]; exact HV.out)).symm, ext_trans hb (ext_trans ((Below.refl _ _).alloc (Nat.le_refl _) _) hb1)⟩
        · have HV := Lib.hid hv
          clear hv
          go_wp2_with (go_at_call 10; refine (valid_any x y _ HI1.out HI2.out).mono ?_; rintro e w1 ⟨he, hb1⟩; rw [HV.out] at he; subst he)
          go_roundg (l.length - (k + 1))
          case measure => have := HG.out; omega
          case rel =>
            refine ⟨k + 1, by go_num, by omega, rfl, fun j hj hjk => ?_, ext_trans hb (ext_trans ((Below.refl _ _).alloc (Nat.le_refl _) _) hb1)⟩
            by_cases hjk2 : j = k
            · subst hjk2
              rw [← HX.out, ← HY.out]; exact HV.out
            · exact HALL.out j hj (by omega)
    · go_wp2
      go_ret
      exact ⟨ret_bool (AllV.take_yes (fun j hj => HALL.out j hj (by omega))).symm, hb⟩
end Go.Proofs.YtpdlogpkfnpbpaaDoor
