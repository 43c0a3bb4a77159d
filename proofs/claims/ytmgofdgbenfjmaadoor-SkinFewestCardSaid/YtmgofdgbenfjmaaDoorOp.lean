/- How the laws' arguments are opened: an int, a rectangle, a slice of strings. No conditions. -/
import Derived.Test.YtmgofdgbenfjmaaDoorRows
import Derived.Test.YtmgofdgbenfjmaaDoorMp1
import Derived.WalkKit
import Derived.ProofKit
import Derived.OpenShut
import Derived.ShutString
import Derived.ChangeOld
import Derived.Below
import Derived.Lib.SmallJoins
import Derived.Deep.Slices
import Derived.Deep.SlicePairs
import Derived.Test.YtmgofdgbenfjmaaDoorSk1
namespace Go.Proofs.YtmgofdgbenfjmaaDoor
open Go.ChangeShapes Go.WideShapes Go.ChangeAt Go.RowKit Go.Joins Go.Deep

theorem own : ownKnob Tryd.prog.godebug = none := by kernel_rfl
theorem isI_wf {n : Int} (h : (Lit.int .i64 n).wf = true) : IsI n := by
  obtain ⟨h1, h2⟩ := bounds_i64 h
  exact ⟨by omega, by omega⟩
section
variable {H : Type} {enc : TypeId × Value → H} {w : World} {spare : Nat → Bool} {held : Bool} {r : Reach} {b0 : Nat}
set_option maxRecDepth 100000 in
theorem open_int' {v : Value} {d : DataW H} {p : List MemPlace} (hv : Value.okWide Tryd.prog w r b0 3 v) (h : DataW.Trod enc Tryd.prog w 0 spare held 3 v d p) :
    ∃ n, v = .int .i64 n ∧ IsI n := by
  obtain ⟨x, rfl, rfl, rfl, wx⟩ := open_int Tryd.underlying3 hv h
  exact ⟨x, rfl, isI_wf wx⟩
set_option maxRecDepth 100000 in
theorem open_rect {v : Value} {d : DataW H} {p : List MemPlace} (hv : Value.okWide Tryd.prog w r b0 31 v) (h : DataW.Trod enc Tryd.prog w 0 spare held 31 v d p) :
    ∃ x y a b, v = .agg #[.int .i64 x, .int .i64 y, .int .i64 a, .int .i64 b] ∧ IsI x ∧ IsI y ∧ IsI a ∧ IsI b := by
  obtain ⟨c0, c1, c2, c3, y0, y1, y2, y3, m, rfl, rfl, rfl, h0, h1, h2, h3⟩ := open_agg4 Tryd.underlying31 (by kernel_rfl) (by kernel_rfl) hv h
  obtain ⟨a, e0, _, wa⟩ := DataW.trod_int Tryd.underlying3 h0
  obtain ⟨b, e1, _, wb⟩ := DataW.trod_int Tryd.underlying3 h1
  obtain ⟨c, e2, _, wc⟩ := DataW.trod_int Tryd.underlying3 h2
  obtain ⟨d, e3, _, wd⟩ := DataW.trod_int Tryd.underlying3 h3
  simp at e0 e1 e2 e3
  exact ⟨a, b, c, d, by rw [e0, e1, e2, e3], isI_wf wa, isI_wf wb, isI_wf wc, isI_wf wd⟩
theorem cellsString : Tryd.prog.cellsOf 9 = 1 := by kernel_rfl
set_option maxRecDepth 100000 in
theorem open_strings {v : Value} {fuel : Nat} {y : DataW H × List MemPlace} (h : DataW.trod enc Tryd.prog w 0 spare held fuel 22 [v] = some y) :
    ∃ A c l, v = .slice A (List.length l) c ∧ l.length ≤ c ∧ c ≤ 9223372036854775807 ∧ TSl w A l ∧ TSz l := by
  rcases open_slice Tryd.underlying22 h with ⟨h0, _⟩ | ⟨a', len, cap, m, n, D, Pl, hcs, hb, hl, hm, hmm, _, hx⟩
  · injection h0 with h0
    exact ⟨none, 0, [], h0, by simp, by simp, .inl rfl, by intro r hr; simp at hr⟩
  · injection hcs with hcs
    have hlm : len ≤ m := by rw [hmm]; split <;> omega
    have each : ∀ i, i < len → ∃ q : ByteArray, w.cell? (a'.add i) = some (.string q) ∧ q.size ≤ 9223372036854775807 := by
      intro i hi
      obtain ⟨cs', hc, ht⟩ := hx i (by omega)
      rw [cellsString] at hc
      obtain ⟨_, hcl, hat⟩ := World.cells?_some hc
      match cs', hcl with
      | [c0], _ =>
        obtain ⟨s, e0, _, hs⟩ := DataW.trod_string Tryd.underlying9 ht
        injection e0 with e0
        refine ⟨s, ?_, by unfold maxLen at hs; omega⟩
        have h6 := hat 0 (by omega)
        rw [Nat.mul_one] at h6
        have e0' : ∀ x : Addr, x.add 0 = x := by intro x; simp [Addr.add]
        rw [e0'] at h6
        rw [h6, ← e0]; rfl
    obtain ⟨q, hq⟩ := choose_lt each
    refine ⟨some a', cap, (List.range len).map q, by simpa using hcs, by simpa using hl, by simp [maxLen] at hm ⊢; omega, ?_, ?_⟩
    · rcases Nat.eq_zero_or_pos len with h0 | h0
      · subst h0
        exact .inl (by simp)
      · obtain ⟨b, off, spot⟩ := a'
        have h2 := (hq 0 h0).1
        have e : ((⟨b, off, spot⟩ : Addr).add 0) = ⟨b, off, spot⟩ := by simp [Addr.add]
        rw [e] at h2
        obtain rfl : spot = none := World.cell?_spot h2
        have hadd : ∀ i, (⟨b, off, none⟩ : Addr).add i = ⟨b, off + i, none⟩ := by
          intro i
          simp only [Addr.add]
          split <;> simp_all
        refine .inr ⟨b, off, rfl, World.block_lt_of_cell? w ⟨b, _, _⟩ h2, fun j hj => ?_⟩
        simp at hj
        have h3 := (hq j hj).1
        rw [hadd] at h3
        simpa using h3
    · intro x hx
      obtain ⟨j, hj, rfl⟩ := List.mem_map.1 hx
      exact (hq j (List.mem_range.1 hj)).2
set_option maxRecDepth 100000 in
theorem open_strings' {v : Value} {d : DataW H} {p : List MemPlace} (hv : Value.okWide Tryd.prog w r b0 22 v) (h : DataW.Trod enc Tryd.prog w 0 spare held 22 v d p) :
    ∃ A c l, v = .slice A (List.length l) c ∧ l.length ≤ c ∧ c ≤ 9223372036854775807 ∧ TSl w A l ∧ TSz l := by
  obtain ⟨a, n, c, rfl⟩ := okWide_slice Tryd.underlying22 hv
  obtain ⟨fuel, hf⟩ := h
  exact open_strings (y := (d, p)) hf
set_option maxRecDepth 100000 in
theorem open_ints' {v : Value} {d : DataW H} {p : List MemPlace} (hv : Value.okWide Tryd.prog w r b0 64 v) (h : DataW.Trod enc Tryd.prog w 0 spare held 64 v d p) :
    ∃ A c l, v = .slice A (List.length l) c ∧ l.length ≤ c ∧ c ≤ 9223372036854775807 ∧ ISl w A l ∧ ∀ x ∈ l, IsI x := by
  obtain ⟨a, len, cap, rfl⟩ := okWide_slice Tryd.underlying64 hv
  obtain ⟨fuel, hf⟩ := h
  rcases open_ints Tryd.underlying64 Tryd.underlying3 (by kernel_rfl) hf with ⟨h0, _⟩ | ⟨a', len', cap', zs, hcs, hb, hl, hm, hmm, _, hx, hw⟩
  · simp [Value.cells] at h0
    obtain ⟨rfl, rfl, rfl⟩ := h0
    exact ⟨none, 0, [], rfl, by simp, by simp, .inl rfl, by simp⟩
  · simp [Value.cells] at hcs
    obtain ⟨rfl, rfl, rfl⟩ := hcs
    have hlm : len ≤ zs.length := by rw [hmm]; split <;> omega
    have ht : (zs.take len).length = len := by rw [List.length_take]; omega
    refine ⟨some a', cap, zs.take len, by rw [ht], by omega, by simp [maxLen] at hm ⊢; omega, ?_, ?_⟩
    · rcases Nat.eq_zero_or_pos len with h0 | h0
      · subst h0
        exact .inl (by simp)
      · obtain ⟨b, off, spot⟩ := a'
        have h2 := hx 0 (by omega)
        have e : (⟨b, off, spot⟩ : Addr).add 0 = ⟨b, off, spot⟩ := by simp [Addr.add]
        rw [e] at h2
        obtain rfl : spot = none := World.cell?_spot h2
        refine .inr ⟨b, off, rfl, World.block_lt_of_cell? w ⟨b, _, _⟩ h2, fun j hj => ?_⟩
        rw [ht] at hj
        have h3 := hx j (by omega)
        rw [List.getElem_take]
        have e2 : zs.getD j 0 = zs[j] := by rw [List.getD_eq_getElem?_getD, List.getElem?_eq_getElem (by omega)]; rfl
        rw [e2] at h3
        simp only [Addr.add] at h3
        split at h3
        · rename_i hz
          subst hz
          simpa using h3
        · exact h3
    · intro x hxm
      exact isI_wf (hw x (List.mem_of_mem_take hxm))
end
end Go.Proofs.YtmgofdgbenfjmaaDoor
