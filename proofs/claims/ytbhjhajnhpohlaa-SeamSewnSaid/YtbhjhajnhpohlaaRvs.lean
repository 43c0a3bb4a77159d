/- slices.Reverse at a row of moves of the call's own, walked. No conditions. -/
import Derived.Test.YtbhjhajnhpohlaaTm
namespace Go.Proofs.Ytbhjhajnhpohlaa
open Go.RowKit

/-- the first i and the last i changed -/
def rvN (l : List Mv) (i : Nat) : List Mv := (List.range l.length).map fun x => if x < i ∨ l.length - 1 - x < i then l.getD (l.length - 1 - x) dmy else l.getD x dmy
theorem rvN_len (l : List Mv) (i : Nat) : (rvN l i).length = l.length := by simp [rvN]
theorem rvN_get (l : List Mv) (i x : Nat) (h : x < l.length) : (rvN l i)[x]'(by rw [rvN_len]; exact h) = if x < i ∨ l.length - 1 - x < i then l.getD (l.length - 1 - x) dmy else l.getD x dmy := by simp [rvN]
theorem rvN_zero (l : List Mv) : rvN l 0 = l := by
  apply List.ext_getElem
  · rw [rvN_len]
  · intro x h1 h2
    rw [rvN_get l 0 x h2, if_neg (by omega)]
    simp [List.getD_eq_getElem?_getD, h2]
theorem rvN_done {l : List Mv} {i : Nat} (h : l.length ≤ 2 * i + 1) : rvN l i = l.reverse := by
  apply List.ext_getElem
  · rw [rvN_len, List.length_reverse]
  · intro x h1 h2
    rw [List.length_reverse] at h2
    rw [rvN_get l i x h2, List.getElem_reverse]
    split
    · have : l.length - 1 - x < l.length := by omega
      simp [List.getD_eq_getElem?_getD, this]
    · have : l.length - 1 - x = x := by omega
      simp only [this]
      simp [List.getD_eq_getElem?_getD, h2]
theorem rvN_step {l : List Mv} {i j : Nat} (hj : i + j + 1 = l.length) (hij : i < j) (h1 : i < (rvN l i).length) (h2 : j < (rvN l i).length) : rvN l (i + 1) = ((rvN l i).set i (rvN l i)[j]).set j (rvN l i)[i] := by
  apply List.ext_getElem
  · simp [rvN_len]
  · intro x a1 a2
    rw [rvN_len] at a1
    rw [rvN_get l (i + 1) x a1, List.getElem_set, List.getElem_set, rvN_get l i x a1, rvN_get l i i (by omega), rvN_get l i j (by omega)]
    by_cases e1 : j = x
    · subst e1
      rw [if_pos rfl, if_pos (by omega), if_neg (by omega)]
      congr 1
      omega
    · rw [if_neg e1]
      by_cases e2 : i = x
      · subst e2
        rw [if_pos rfl, if_pos (by omega), if_neg (by omega)]
        congr 1
        omega
      · rw [if_neg e2]
        by_cases e3 : x < i ∨ l.length - 1 - x < i
        · rw [if_pos (by omega), if_pos e3]
        · rw [if_neg (by omega), if_neg e3]
theorem flat_setM (l : List Mv) (i : Nat) (m : Mv) (h : i < l.length) : (l.set i m).flatMap Mv.cells = ((l.flatMap Mv.cells).set (i * 2) (.int .i64 m.k)).set (i * 2 + 1) (.bool m.r) := by
  induction l generalizing i with
  | nil => simp at h
  | cons a l ih =>
    cases i with
    | zero => simp [Mv.cells]
    | succ i =>
      have := ih i (by simpa using h)
      rw [List.set_cons_succ, List.flatMap_cons, List.flatMap_cons, this]
      show _ = (((Value.int .i64 a.k) :: (Value.bool a.r) :: l.flatMap Mv.cells).set ((i + 1) * 2) _).set ((i + 1) * 2 + 1) _
      rw [show (i + 1) * 2 = i * 2 + 1 + 1 by omega]
      rfl
/-- an element of the row is overwritten -/
theorem Vm.setM {M : TypeId} {base g n cap : Nat} {w : World} {l : List Mv} (h : Vm M base w (.slice (some ⟨g, 0, none⟩) n cap) l) {i : Nat} (hi : i < l.length) (m : Mv) :
    Vm M base ((w.setCell ⟨g, i * 2, none⟩ (.int .i64 m.k)).setCell ⟨g, i * 2 + 1, none⟩ (.bool m.r)) (.slice (some ⟨g, 0, none⟩) n cap) (l.set i m) := by
  obtain ⟨hl, h⟩ := h
  rcases h with ⟨hv, h0⟩ | ⟨g', c, cur, hv, hg, hh, hn, hm, hcur, hx⟩
  · omega
  · injection hv with e1 e2 e3
    injection e1 with e1
    injection e1 with e1
    subst e1 e2 e3
    have h1 := (show Bk M w g cur from hh).set (i * 2) (.int .i64 m.k)
    have h2 := h1.set (i * 2 + 1) (.bool m.r)
    refine ⟨by rw [flat_setM l i m hi]; simpa using hl, .inr ⟨g, cap, _, by rw [List.length_set], hg, h2, by rw [List.length_set]; exact hn, hm, by simpa using hcur, ?_⟩⟩
    rw [flat_setM l i m hi, List.length_set]
    simp only [Array.toList_setIfInBounds]
    rw [List.take_set, List.take_set, hx]
theorem Vm.at2 {M : TypeId} {base g n cap : Nat} {w : World} {l : List Mv} (h : Vm M base w (.slice (some ⟨g, 0, none⟩) n cap) l) {i : Nat} (hi : i < l.length) :
    w.cell? ⟨g, i * 2, none⟩ = some (.int .i64 l[i].k) ∧ w.cell? ⟨g, i * 2 + 1, none⟩ = some (.bool l[i].r) ∧ w.frozen? ⟨g, i * 2, none⟩ = false ∧ w.frozen? ⟨g, i * 2 + 1, none⟩ = false ∧ g < w.heap.size := by
  obtain ⟨hl, h⟩ := h
  rcases h with ⟨hv, h0⟩ | ⟨g', c, cur, hv, hg, hh, hn, hm, hcur, hx⟩
  · omega
  · injection hv with e1 e2 e3
    injection e1 with e1
    injection e1 with e1
    subst e1 e2 e3
    have hb : Bk M w g cur := hh
    have hf : ∀ a : Mv, (Mv.cells a).length = 2 := fun _ => rfl
    have key : ∀ q u, (l.flatMap Mv.cells)[q]? = some u → cur[q]? = some u := fun q u hq => by
      rw [← hx, List.getElem?_take] at hq
      split at hq
      · simpa using hq
      · cases hq
    refine ⟨?_, ?_, hb.frozen _, hb.frozen _, hb.lt⟩
    · rw [hb.cell]
      exact key _ _ (by rw [show i * 2 = i * 2 + 0 from rfl, flat_get hf l i 0 hi (by omega)]; rfl)
    · rw [hb.cell]
      exact key _ _ (by rw [flat_get hf l i 1 hi (by omega)]; rfl)
/-- the world behind: only the row's block has changed -/
def Only (g : Nat) (w w' : World) : Prop := ∀ k, k ≠ g → w'.heap[k]? = w.heap[k]?
theorem Only.set {g : Nat} {w w' : World} (h : Only g w w') (i : Nat) (v : Value) : Only g w (w'.setCell ⟨g, i, none⟩ v) := fun k hk => (Below.heap_setCell _ _ _ _ (show k ≠ g from hk)).trans (h k hk)
set_option maxRecDepth 100000 in
set_option maxHeartbeats 4000000 in
theorem reverse_any (base g cap : Nat) (l : List Mv) (w : World) (hn : l.length ≤ 1000000000) (h : Vm 72 base w (.slice (some ⟨g, 0, none⟩) l.length cap) l) (hg : base ≤ g) :
    Calls Try.prog 78 #[.slice (some ⟨g, 0, none⟩) l.length cap] w fun e w' => e = .returned (.tuple #[]) ∧ Vm 72 base w' (.slice (some ⟨g, 0, none⟩) l.length cap) l.reverse ∧ Below base w w' ∧ Only g w w' := by
  have H := Lib.hid h
  have HLC := Lib.hid (fun (h : Vm 72 base w (.slice (some ⟨g, 0, none⟩) l.length cap) l) => own_cells h)
  have hcap : l.length ≤ cap := by
    obtain ⟨A, c, hv, h1, -⟩ := own_cells h
    injection hv with _ _ e
    have e' : cap = c := e
    omega
  clear h
  go_enter Try.func78, Try.ntmps78
  go_wp2
  go_loopg [2, 3] l.length (fun gg zi zj wr => ∃ i : Nat, zi = .int .i64 i ∧ zj = .int .i64 ((l.length : Int) - 1 - i) ∧ i ≤ l.length ∧ gg = l.length - i ∧ Vm 72 base wr (.slice (some ⟨g, 0, none⟩) l.length cap) (rvN l i) ∧ Below base w wr ∧ Only g w wr)
  case atStart => exact ⟨0, rfl, by first | rfl | (congr 1; omega), by omega, by omega, by rw [rvN_zero]; exact H.out, Below.refl _ _, fun _ _ => rfl⟩
  case round =>
    obtain ⟨i, rfl, rfl, hi, hgg, hv, hb, ho⟩ := hrel
    have HV := Lib.hid hv
    have HB := Lib.hid hb
    have HO := Lib.hid ho
    have HG := Lib.hid hgg
    clear hv hb ho hgg
    by_cases hlt : 2 * i + 1 < l.length
    · obtain ⟨j, hj⟩ : ∃ j, j = l.length - 1 - i := ⟨_, rfl⟩
      have hjz : (l.length : Int) - 1 - i = (j : Int) := by omega
      rw [hjz]
      have hij : i < j := by omega
      have hj2 : i + j + 1 = l.length := by omega
      have hil : i < (rvN l i).length := by rw [rvN_len]; omega
      have hjl : j < (rvN l i).length := by rw [rvN_len]; omega
      obtain ⟨c1, c2, c3, c4, c5⟩ := HV.out.at2 hil
      obtain ⟨d1, d2, d3, d4, -⟩ := HV.out.at2 hjl
      have hi' : i < l.length := by omega
      have hj' : j < l.length := by omega
      obtain ⟨x, hx⟩ : ∃ x, x = (rvN l i)[i] := ⟨_, rfl⟩
      obtain ⟨y, hy⟩ : ∃ y, y = (rvN l i)[j] := ⟨_, rfl⟩
      rw [← hx] at c1 c2
      rw [← hy] at d1 d2
      have HX := Lib.hid hx
      have HY := Lib.hid hy
      have HJ := Lib.hid hj
      clear hx hy hj
      go_upto_region 3 with (fail)
      go_region
      all_goals
        have hv0 : Vm 72 base wr.drew (.slice (some ⟨g, 0, none⟩) l.length cap) (rvN l i) := own_ext HV.out (ext_drew wr)
        have hb0 : Below base w wr.drew := bext HB.out (ext_drew wr) (by have := (own_lt HV.out g rfl).2; omega)
        have ho0 : Only g w wr.drew := fun k hk => HO.out k hk
        have HN := Lib.hid (show _ ∧ _ ∧ _ from
          ⟨(hv0.setM hil y).setM (i := j) (by rw [List.length_set]; exact hjl) x,
            (((hb0.setCell (p := ⟨g, i * 2, none⟩) hg (.int .i64 y.k)).setCell (p := ⟨g, i * 2 + 1, none⟩) hg (.bool y.r)).setCell (p := ⟨g, j * 2, none⟩) hg (.int .i64 x.k)).setCell (p := ⟨g, j * 2 + 1, none⟩) hg (.bool x.r),
            ((((ho0.set (i * 2) (.int .i64 y.k)).set (i * 2 + 1) (.bool y.r)).set (j * 2) (.int .i64 x.k)).set (j * 2 + 1) (.bool x.r))⟩)
        clear hv0 hb0 ho0
        go_wp2
        go_roundg (l.length - (i + 1))
        case measure => have := HG.out; omega
        case rel =>
          refine ⟨i + 1, by go_num, by first | (congr 1; omega) | (congr 1; push_cast; omega), by omega, rfl, ?_, HN.out.2.1, HN.out.2.2⟩
          rw [rvN_step hj2 hij hil hjl, ← HX.out, ← HY.out]
          exact HN.out.1
    · have hge : ¬ (i : Int) < (l.length : Int) - 1 - i := by omega
      have HD := Lib.hid (rvN_done (l := l) (i := i) (by omega))
      go_wp2
      go_end0
      exact ⟨rfl, by rw [← HD.out]; exact HV.out, HB.out, HO.out⟩
end Go.Proofs.Ytbhjhajnhpohlaa
