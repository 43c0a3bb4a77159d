/- How a law's argument of runs is opened, with its size in bytes. No conditions. -/
import Derived.Test.YtbhjhajnhpohlaaOpen
import Derived.Test.YtbhjhajnhpohlaaRv
import Derived.SizedLaws
namespace Go.Proofs.Ytbhjhajnhpohlaa
open Go.ChangeShapes Go.WideShapes Go.ChangeAt Go.RowKit Go.Joins Go.Deep

theorem cellsMove : Try.prog.cellsOf 66 = 2 := by kernel_rfl
theorem cellsMoves : Try.prog.cellsOf 60 = 1 := by kernel_rfl
theorem bytesMove : Try.prog.bytesOf 66 = 16 := by kernel_rfl
theorem bytesMoves : Try.prog.bytesOf 60 = 24 := by kernel_rfl
theorem reach_le {n : Nat} (h : n ≤ reachBytes) : n ≤ 140737488355328 := by unfold reachBytes at h; omega
theorem weights_all {H : Type} {P : Program} {e : TypeId} : ∀ {ds : List (DataW H)} {d : DataW H}, d ∈ ds → ∀ n ∈ d.weights P e, n ∈ DataW.weightsAll P e ds
  | d0 :: ds, d, hd, n, hn => by
    simp only [DataW.weightsAll, List.mem_append]
    rcases List.mem_cons.1 hd with rfl | hd
    · exact .inl hn
    · exact .inr (weights_all hd n hn)
theorem weights_slice {H : Type} {P : Program} {t e : TypeId} (hu : P.underlying t = some (.slice e)) {elems spare : List (DataW H)} : (elems.length + spare.length) * P.bytesOf e ∈ (DataW.slice elems spare).weights P t ∧ ∀ d ∈ elems, ∀ n ∈ d.weights P e, n ∈ (DataW.slice elems spare).weights P t := by
  refine ⟨by simp [DataW.weights, hu], fun d hd n hn => ?_⟩
  have := weights_all hd n hn
  simp only [DataW.weights, hu, List.mem_cons, List.mem_append]
  exact .inr (.inl this)

section
variable {H : Type} {enc : TypeId × Value → H} {w : World} {spare : Nat → Bool} {held : Bool} {r : Reach} {b0 : Nat}
set_option maxRecDepth 100000 in
theorem open_moves {v : Value} {fuel : Nat} {y : DataW H × List MemPlace} (h : DataW.trod enc Try.prog w 0 spare held fuel 60 [v] = some y) (hw : ∀ n ∈ y.1.weights Try.prog 60, n ≤ reachBytes) :
    ∃ A c l, v = .slice A (List.length l) c ∧ l.length ≤ c ∧ c ≤ 9223372036854775807 ∧ MSl w A l ∧ (∀ m ∈ l, IsI m.k) ∧ l.length * 16 ≤ 140737488355328 := by
  rcases open_slice Try.underlying60 h with ⟨h0, _⟩ | ⟨a', len, cap, m, n, D, Pl, hcs, hb, hl, hm, hmm, hy, hx⟩
  · injection h0 with h0
    exact ⟨none, 0, [], h0, by simp, by simp, .inl rfl, by simp, by simp⟩
  · injection hcs with hcs
    have hlm : len ≤ m := by rw [hmm]; split <;> omega
    have hbytes : len * 16 ≤ 140737488355328 := by
      subst hy
      have h1 := hw _ (weights_slice Try.underlying60).1
      rw [bytesMove] at h1
      simp only [List.length_map, List.length_range] at h1
      have := reach_le h1
      omega
    have each : ∀ i, i < len → ∃ q : Mv, (w.cell? ((a'.add (i * 2)).add 0) = some (.int .i64 q.k) ∧ w.cell? ((a'.add (i * 2)).add 1) = some (.bool q.r)) ∧ IsI q.k := by
      intro i hi
      obtain ⟨cs', hc, ht⟩ := hx i (by omega)
      rw [cellsMove] at hc
      obtain ⟨_, hcl, hat⟩ := World.cells?_some hc
      obtain ⟨ys, n', _, hy, _, hyl, hf⟩ := DataW.trod_struct Try.underlying66 ht
      match cs', hcl with
      | [c0, c1], _ =>
        match ys, hyl with
        | [y0, y1], _ =>
          obtain ⟨a, e0, _, wa⟩ := DataW.trod_int Try.underlying3 (hf 0 _ rfl)
          obtain ⟨b, e1, _⟩ := DataW.trod_bool Try.underlying4 (hf 1 _ rfl)
          have k1 : Try.prog.cellsOf 3 = 1 := by kernel_rfl
          have k2 : Try.prog.cellsOf 4 = 1 := by kernel_rfl
          simp [k1, k2] at e0 e1
          refine ⟨⟨a, b⟩, ⟨?_, ?_⟩, isI_wf wa⟩
          · rw [hat 0 (by omega), ← e0]; rfl
          · rw [hat 1 (by omega), ← e1]; rfl
    obtain ⟨q, hq⟩ := choose_lt each
    refine ⟨some a', cap, (List.range len).map q, by simpa using hcs, by simpa using hl, by simp [maxLen] at hm ⊢; omega, ?_, ?_, by simpa using hbytes⟩
    · rcases Nat.eq_zero_or_pos len with h0 | h0
      · subst h0
        exact .inl (by simp)
      · obtain ⟨b, off, spot⟩ := a'
        have h2 := (hq 0 h0).1.1
        have e : ((⟨b, off, spot⟩ : Addr).add (0 * 2)).add 0 = ⟨b, off, spot⟩ := by simp [Addr.add]
        rw [e] at h2
        obtain rfl : spot = none := World.cell?_spot h2
        have hadd : ∀ i j, ((⟨b, off, none⟩ : Addr).add i).add j = ⟨b, off + i + j, none⟩ := by
          intro i j
          simp only [Addr.add]
          split <;> split <;> simp_all
        refine .inr ⟨b, off, rfl, World.block_lt_of_cell? w ⟨b, _, _⟩ h2, fun j hj => ?_⟩
        simp at hj
        have h3 := (hq j hj).1
        rw [hadd, hadd] at h3
        simpa using h3
    · intro x hx
      obtain ⟨j, hj, rfl⟩ := List.mem_map.1 hx
      exact (hq j (List.mem_range.1 hj)).2
set_option maxRecDepth 100000 in
theorem open_runs {v : Value} {fuel : Nat} {y : DataW H × List MemPlace} (h : DataW.trod enc Try.prog w 0 spare held fuel 43 [v] = some y) (hw : ∀ n ∈ y.1.weights Try.prog 43, n ≤ reachBytes) :
    ∃ A c ls, v = .slice A (List.length ls) c ∧ ls.length ≤ c ∧ c ≤ 9223372036854775807 ∧ RSl w A ls ∧ (∀ run ∈ ls, ∀ m ∈ run, IsI m.k) ∧ RSz ls := by
  rcases open_slice Try.underlying43 h with ⟨h0, _⟩ | ⟨a', len, cap, m, n, D, Pl, hcs, hb, hl, hm, hmm, hy, hx⟩
  · injection h0 with h0
    exact ⟨none, 0, [], h0, by simp, by simp, .inl rfl, by simp, by simp, by simp⟩
  · injection hcs with hcs
    have hlm : len ≤ m := by rw [hmm]; split <;> omega
    have hws := weights_slice (H := H) (P := Try.prog) Try.underlying43 (elems := (List.range len).map D) (spare := (List.range (m - len)).map fun j => D (len + j))
    have hbytes : len * 24 ≤ 140737488355328 := by
      subst hy
      have h1 := hw _ hws.1
      rw [bytesMoves] at h1
      simp only [List.length_map, List.length_range] at h1
      have := reach_le h1
      omega
    have each : ∀ i, i < len → ∃ q : (Option Addr × Nat) × List Mv, w.cell? (a'.add i) = some (.slice q.1.1 q.2.length q.1.2) ∧ q.2.length ≤ q.1.2 ∧ q.1.2 ≤ 9223372036854775807 ∧ MSl w q.1.1 q.2 ∧ (∀ m ∈ q.2, IsI m.k) ∧ q.2.length * 16 ≤ 140737488355328 := by
      intro i hi
      obtain ⟨cs', hc, ht⟩ := hx i (by omega)
      rw [cellsMoves] at hc
      obtain ⟨_, hcl, hat⟩ := World.cells?_some hc
      match cs', hcl with
      | [c0], _ =>
        obtain ⟨A, c, l, e, h1, h2, h3, h4, h5⟩ := open_moves ht (fun n hn => by
          subst hy
          exact hw n (hws.2 (D i) (List.mem_map.2 ⟨i, List.mem_range.2 hi, rfl⟩) n hn))
        refine ⟨((A, c), l), ?_, h1, h2, h3, h4, h5⟩
        have h6 := hat 0 (by omega)
        rw [Nat.mul_one] at h6
        have e0 : ∀ x : Addr, x.add 0 = x := by intro x; simp [Addr.add]
        rw [e0] at h6
        rw [h6, ← e]; rfl
    obtain ⟨q, hq⟩ := choose_lt each
    refine ⟨some a', cap, (List.range len).map fun i => (q i).2, by simpa using hcs, by simpa using hl, by simp [maxLen] at hm ⊢; omega, ?_, ?_, by simpa using hbytes, ?_⟩
    · rcases Nat.eq_zero_or_pos len with h0 | h0
      · subst h0
        exact .inl (by simp)
      · obtain ⟨b, off, spot⟩ := a'
        have h2 := (hq 0 h0).1
        have e : ((⟨b, off, spot⟩ : Addr).add 0) = ⟨b, off, spot⟩ := by simp [Addr.add]
        rw [e] at h2
        obtain rfl : spot = none := World.cell?_spot h2
        have hadd : ∀ i, (⟨b, off, none⟩ : Addr).add i = ⟨b, off + i, none⟩ := by
          intro i
          simp only [Addr.add]
          split <;> simp_all
        refine .inr ⟨b, off, rfl, World.block_lt_of_cell? w ⟨b, _, _⟩ h2, fun j hj => ?_⟩
        simp at hj
        obtain ⟨h3, h4, h5, h6, _, _⟩ := hq j hj
        rw [hadd] at h3
        exact ⟨(q j).1.1, (q j).1.2, by simpa using h3, by simpa using h4, h5, by simpa using h6⟩
    · intro run hrun m hm
      obtain ⟨j, hj, rfl⟩ := List.mem_map.1 hrun
      exact (hq j (List.mem_range.1 hj)).2.2.2.2.1 m hm
    · intro run hrun
      obtain ⟨j, hj, rfl⟩ := List.mem_map.1 hrun
      exact (hq j (List.mem_range.1 hj)).2.2.2.2.2
theorem sized_at {P : Program} {ts : List TypeId} {ds : List (DataW H)} (h : (DataW.weightsEach P ts ds).all (· ≤ reachBytes) = true) {j : Nat} {t : TypeId} {d : DataW H} (ht : ts[j]? = some t) (hd : ds[j]? = some d) : ∀ n ∈ d.weights P t, n ≤ reachBytes := fun n hn => by
  have := List.all_eq_true.1 h _ (DataW.weights_mem_each ht hd n hn)
  simpa using this
set_option maxRecDepth 100000 in
theorem open_runs' {v : Value} {d : DataW H} {p : List MemPlace} (hv : Value.okWide Try.prog w r b0 43 v) (h : DataW.Trod enc Try.prog w 0 spare held 43 v d p) (hw : ∀ n ∈ d.weights Try.prog 43, n ≤ reachBytes) :
    ∃ A c ls, v = .slice A (List.length ls) c ∧ ls.length ≤ c ∧ c ≤ 9223372036854775807 ∧ RSl w A ls ∧ (∀ run ∈ ls, ∀ m ∈ run, IsI m.k) ∧ RSz ls := by
  obtain ⟨a, n, c, rfl⟩ := okWide_slice Try.underlying43 hv
  obtain ⟨fuel, hf⟩ := h
  exact open_runs (y := (d, p)) hf hw
end
end Go.Proofs.Ytbhjhajnhpohlaa
