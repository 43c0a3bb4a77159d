/- Texts joined: Vh, Mt. Conditions: see each. -/
import Derived.Test.YtmgofdgbenfjmaaDoorWd1
import Derived.Test.YtmgofdgbenfjmaaDoorWaP
namespace Go.Proofs.YtmgofdgbenfjmaaDoor
open Go.RowKit

def hvs (c : Chd) : List Value := [.int .i64 c.1.1, .int .i64 c.1.2, .int .i64 c.2.1, .int .i64 c.2.2]
def Vh (base : Nat) (w : World) (v : Value) (l : List Chd) : Prop := w.ownsRow base 156 4 v l.length (l.flatMap hvs)
/-- a slice of chords in a block from base on -/
def HSl (base : Nat) (w : World) (A : Option Addr) (l : List Chd) : Prop :=
  l = [] ∨ ∃ b off, A = some ⟨b, off, none⟩ ∧ base ≤ b ∧ b < w.heap.size ∧ ∀ j (h : j < l.length), w.cell? ⟨b, off + j * 4, none⟩ = some (.int .i64 l[j].1.1) ∧ w.cell? ⟨b, off + j * 4 + 1, none⟩ = some (.int .i64 l[j].1.2) ∧ w.cell? ⟨b, off + j * 4 + 2, none⟩ = some (.int .i64 l[j].2.1) ∧ w.cell? ⟨b, off + j * 4 + 3, none⟩ = some (.int .i64 l[j].2.2)
theorem HSl.keep {base : Nat} {w w' : World} {A : Option Addr} {l : List Chd} (h : HSl base w A l) (hs : w.heap.size ≤ w'.heap.size) (hk : ∀ g, base ≤ g → g < w.heap.size → A.map (·.block) = some g → w'.heap[g]? = w.heap[g]?) : HSl base w' A l := by
  rcases h with h | ⟨b, off, rfl, h2, h3, h4⟩
  · exact .inl h
  · have e := hk b h2 h3 rfl
    have c : ∀ i, w'.cell? ⟨b, i, none⟩ = w.cell? ⟨b, i, none⟩ := fun i => by unfold World.cell?; rw [e]
    exact .inr ⟨b, off, rfl, h2, by omega, fun j hj => by
      obtain ⟨c1, c2, c3, c4⟩ := h4 j hj
      exact ⟨(c _).trans c1, (c _).trans c2, (c _).trans c3, (c _).trans c4⟩⟩
theorem HSl.ext {base : Nat} {w w' : World} {A : Option Addr} {l : List Chd} (h : HSl base w A l) (hb : Below w.heap.size w w') : HSl base w' A l := h.keep hb.size fun g _ hg _ => hb.block g hg
theorem HSl.mono {base base' : Nat} {w : World} {A : Option Addr} {l : List Chd} (h : HSl base w A l) (hb : base' ≤ base) : HSl base' w A l := by
  rcases h with h | ⟨b, off, h1, h2, h3⟩
  · exact .inl h
  · exact .inr ⟨b, off, h1, by omega, h3⟩
theorem Vh.nil (base : Nat) (w : World) : Vh base w (.slice none 0 0) [] := own_nil w base 156 4
theorem Vh.ext {base : Nat} {w w' : World} {v : Value} {l : List Chd} (h : Vh base w v l) (hb : Below w.heap.size w w') : Vh base w' v l := own_ext h hb
theorem Vh.hsl {base : Nat} {w : World} {v : Value} {l : List Chd} (h : Vh base w v l) : ∃ A cap, v = .slice A l.length cap ∧ l.length ≤ cap ∧ cap ≤ maxLen ∧ HSl base w A l := by
  obtain ⟨A, cap, hv, h1, h2, h3⟩ := own_cells h
  refine ⟨A, cap, hv, h1, h2, ?_⟩
  rcases h3 with h3 | ⟨g, rfl, hb, hg, hc⟩
  · exact .inl (List.eq_nil_of_length_eq_zero h3)
  · refine .inr ⟨g, 0, rfl, hb, hg, fun j hj => ?_⟩
    have hf : ∀ a : Chd, (hvs a).length = 4 := fun _ => rfl
    rw [Nat.zero_add]
    refine ⟨?_, ?_, ?_, ?_⟩
    · exact hc (j * 4) _ (by rw [show j * 4 = j * 4 + 0 from rfl, flat_get hf l j 0 hj (by omega)]; rfl)
    · exact hc (j * 4 + 1) _ (by rw [flat_get hf l j 1 hj (by omega)]; rfl)
    · exact hc (j * 4 + 2) _ (by rw [flat_get hf l j 2 hj (by omega)]; rfl)
    · exact hc (j * 4 + 3) _ (by rw [flat_get hf l j 3 hj (by omega)]; rfl)
theorem info_chord : (Tryd.prog.info? 156).map (fun i => (i.zero, i.size, i.bytes)) = some (some (.agg #[.int .i64 0, .int .i64 0, .int .i64 0, .int .i64 0]), 4, 32) := by kernel_rfl
/-- 'append(out, c)' of one chord -/
theorem wpList_pushH (w : World) {ops : Array Oper} {rest : List Oper} {o : Oper} {a : Act} {Q : Exit → Act → World → Prop} (hgd : o.guard = none) (s x : Operand)
    (ho : o.op = .call { callee := .builtin .append, args := #[s, x], argTypes := #[151, 151] })
    (base : Nat) {v : Value} {l : List Chd} (hown : Vh base w v l) (hs : a.eval s = v) (c1 c2 c3 c4 : Int)
    {B : Nat} (hx : a.eval x = .slice (some ⟨B, 0, none⟩) 1 1) (hB : w.heap.size = B) (hn : l.length ≤ 1000000) (hbase : base ≤ w.heap.size)
    (h : ∀ v' w', Vh base w' v' (l ++ [((c1, c2), (c3, c4))]) → Below base w w' → (∀ k, k < w.heap.size → some k ≠ v.ownBlock → w'.heap[k]? = w.heap[k]?) → (∀ k, k < w.heap.size → some k ≠ v.ownBlock → some k ≠ v'.ownBlock) → wpList Tryd.prog ops Q rest (a.put o.dst v') w') :
    wpList Tryd.prog ops Q (o :: rest) a (w.alloc (.cells #[.int .i64 c1, .int .i64 c2, .int .i64 c3, .int .i64 c4] 156)) := by
  refine wpList_push w hgd s x _ ho base 156 _ 4 32 Tryd.underlying151 info_chord rfl (by decide) hown hs (news := hvs ((c1, c2), (c3, c4))) hx hB rfl (by intro x hx; simp [hvs] at hx; rcases hx with rfl | rfl | rfl | rfl <;> rfl) (by decide) (by unfold maxLen; omega) (by omega) hbase ?_
  intro v' w' h2 h3 h4 h5 _ _
  refine h v' w' ?_ h3 h4 h5
  have e : l.flatMap hvs ++ hvs ((c1, c2), (c3, c4)) = (l ++ [((c1, c2), (c3, c4))]).flatMap hvs := by rw [List.flatMap_append]; simp
  have e2 : (l ++ [(((c1, c2), (c3, c4)) : Chd)]).length = l.length + 1 := by simp
  unfold Vh
  rw [← e, e2]
  exact h2
/-- two rows that do not lie in one block -/
def Dst (v1 v2 : Value) : Prop := ∀ k, v2.ownBlock = some k → some k ≠ v1.ownBlock
theorem Dst.symm {v1 v2 : Value} (h : Dst v1 v2) : Dst v2 v1 := fun k hk e => h k e.symm hk.symm
/-- the two rows of chords that grow -/
def ChS2 (W : World) (v1 v2 : Value) (L1 L2 : List Chd) (wr : World) : Prop := Vh W.heap.size wr v1 L1 ∧ Vh W.heap.size wr v2 L2 ∧ Dst v1 v2 ∧ Below W.heap.size W wr
section
variable {W wr w' : World} {v1 v2 v' : Value} {L1 L2 : List Chd} {c : Chd}
theorem ChS2.start (W : World) : ChS2 W (.slice none 0 0) (.slice none 0 0) [] [] W := ⟨Vh.nil _ _, Vh.nil _ _, (fun _ h => nomatch h), Below.refl _ _⟩
theorem ChS2.ext (h : ChS2 W v1 v2 L1 L2 wr) (hb : Below wr.heap.size wr w') : ChS2 W v1 v2 L1 L2 w' := ⟨h.1.ext hb, h.2.1.ext hb, h.2.2.1, ext_trans h.2.2.2 hb⟩
theorem ChS2.push1 (h : ChS2 W v1 v2 L1 L2 wr) (hv : Vh W.heap.size w' v' (L1 ++ [c])) (hb : Below W.heap.size wr w') (hk : ∀ k, k < wr.heap.size → some k ≠ v1.ownBlock → w'.heap[k]? = wr.heap[k]?) (hk2 : ∀ k, k < wr.heap.size → some k ≠ v1.ownBlock → some k ≠ v'.ownBlock) : ChS2 W v' v2 (L1 ++ [c]) L2 w' :=
  ⟨hv, own_keep h.2.1 fun k e => hk k (own_lt h.2.1 k e).2 (h.2.2.1 k e), fun k e => hk2 k (own_lt h.2.1 k e).2 (h.2.2.1 k e), h.2.2.2.trans hb⟩
theorem ChS2.push2 (h : ChS2 W v1 v2 L1 L2 wr) (hv : Vh W.heap.size w' v' (L2 ++ [c])) (hb : Below W.heap.size wr w') (hk : ∀ k, k < wr.heap.size → some k ≠ v2.ownBlock → w'.heap[k]? = wr.heap[k]?) (hk2 : ∀ k, k < wr.heap.size → some k ≠ v2.ownBlock → some k ≠ v'.ownBlock) : ChS2 W v1 v' L1 (L2 ++ [c]) w' :=
  ⟨own_keep h.1 fun k e => hk k (own_lt h.1 k e).2 (h.2.2.1.symm k e), hv, Dst.symm fun k e => hk2 k (own_lt h.1 k e).2 (h.2.2.1.symm k e), h.2.2.2.trans hb⟩
end
theorem chF_len (u : Int → Int → Bool) (C : List Cel) : (chF u C).length ≤ C.length := List.length_filterMap_le _ _
theorem chS_len (u : Int → Int → Bool) (C : List Cel) : (chS u C).length ≤ C.length := List.length_filterMap_le _ _
theorem chF_yes {u : Int → Int → Bool} {C : List Cel} {x y : Int} (h1 : x < wayT u x y) (h2 : q3 u (wayT u x y) y = true) : chF u (C ++ [(x, y)]) = chF u C ++ [((x, y), (wayT u x y, y))] := by
  unfold chF
  rw [List.filterMap_append]
  congr 1
  simp [h1, h2]
theorem chF_no {u : Int → Int → Bool} {C : List Cel} {x y : Int} (h : ¬ (x < wayT u x y ∧ q3 u (wayT u x y) y = true)) : chF u (C ++ [(x, y)]) = chF u C := by
  unfold chF
  rw [List.filterMap_append]
  simp only [List.filterMap_cons, List.filterMap_nil]
  rw [if_neg h]
  simp
theorem chS_yes {u : Int → Int → Bool} {C : List Cel} {x y : Int} (h1 : y < wayS u x y) (h2 : q3 u x (wayS u x y) = true) : chS u (C ++ [(x, y)]) = chS u C ++ [((x, y), (x, wayS u x y))] := by
  unfold chS
  rw [List.filterMap_append]
  congr 1
  simp [h1, h2]
theorem chS_no {u : Int → Int → Bool} {C : List Cel} {x y : Int} (h : ¬ (y < wayS u x y ∧ q3 u x (wayS u x y) = true)) : chS u (C ++ [(x, y)]) = chS u C := by
  unfold chS
  rw [List.filterMap_append]
  simp only [List.filterMap_cons, List.filterMap_nil]
  rw [if_neg h]
  simp

set_option maxRecDepth 100000 in
set_option maxHeartbeats 4000000 in
theorem meet_any (a b : Chd) (W : World) : Calls Tryd.prog 131 #[.agg #[.int .i64 a.1.1, .int .i64 a.1.2, .int .i64 a.2.1, .int .i64 a.2.2], .agg #[.int .i64 b.1.1, .int .i64 b.1.2, .int .i64 b.2.1, .int .i64 b.2.2]] W fun e w' => e = .returned (.bool (meetC a b)) ∧ Below W.heap.size W w' := by
  obtain ⟨⟨a1, a2⟩, a3, a4⟩ := a
  obtain ⟨⟨b1, b2⟩, b3, b4⟩ := b
  have HM := Lib.hid (show meetC ((a1, a2), (a3, a4)) ((b1, b2), (b3, b4)) = decide (a1 ≤ b1 ∧ b1 ≤ a3 ∧ b2 ≤ a2 ∧ a2 ≤ b4) from rfl)
  obtain ⟨z, hz⟩ : ∃ z, z = meetC ((a1, a2), (a3, a4)) ((b1, b2), (b3, b4)) := ⟨_, rfl⟩
  rw [← hz] at HM ⊢
  clear hz
  dsimp only
  have HA := Lib.hid ((Bk.new 156 W #[.int .i64 a1, .int .i64 a2, .int .i64 a3, .int .i64 a4]).alloc (.cells #[.int .i64 b1, .int .i64 b2, .int .i64 b3, .int .i64 b4] 156))
  have HB := Lib.hid (Bk.new 156 (W.alloc (.cells #[.int .i64 a1, .int .i64 a2, .int .i64 a3, .int .i64 a4] 156)) #[.int .i64 b1, .int .i64 b2, .int .i64 b3, .int .i64 b4])
  rw [World.size_alloc] at HB
  have HX := Lib.hid (ext_trans (ext_alloc W (.cells #[.int .i64 a1, .int .i64 a2, .int .i64 a3, .int .i64 a4] 156)) (ext_alloc _ (.cells #[.int .i64 b1, .int .i64 b2, .int .i64 b3, .int .i64 b4] 156)))
  go_enter Tryd.func131, Tryd.ntmps131
  go_upto_region 1 with (fail)
  obtain ⟨X, hX⟩ : ∃ X, X = (W.alloc (.cells #[.int .i64 a1, .int .i64 a2, .int .i64 a3, .int .i64 a4] 156)).alloc (.cells #[.int .i64 b1, .int .i64 b2, .int .i64 b3, .int .i64 b4] 156) := ⟨_, rfl⟩
  rw [← hX] at HA HB HX ⊢
  clear hX
  obtain ⟨f1, f2, f3⟩ := HA.out.facts
  obtain ⟨g1, g2, g3⟩ := HB.out.facts
  by_cases h1 : a1 ≤ b1
  · by_cases h2 : b1 ≤ a3
    · by_cases h3 : b2 ≤ a2
      · by_cases h4 : a2 ≤ b4
        · have HE := Lib.hid (show z = true from HM.out.trans (decide_eq_true ⟨h1, h2, h3, h4⟩))
          go_wp2
          go_ret
          exact ⟨by rw [HE.out]; rfl, HX.out⟩
        · have HE := Lib.hid (show z = false from HM.out.trans (decide_eq_false fun h => h4 h.2.2.2))
          go_wp2
          go_ret
          exact ⟨by rw [HE.out]; rfl, HX.out⟩
      · have HE := Lib.hid (show z = false from HM.out.trans (decide_eq_false fun h => h3 h.2.2.1))
        go_wp2
        go_ret
        exact ⟨by rw [HE.out]; rfl, HX.out⟩
    · have HE := Lib.hid (show z = false from HM.out.trans (decide_eq_false fun h => h2 h.2.1))
      go_wp2
      go_ret
      exact ⟨by rw [HE.out]; rfl, HX.out⟩
  · have HE := Lib.hid (show z = false from HM.out.trans (decide_eq_false fun h => h1 h.1))
    go_wp2
    go_ret
    exact ⟨by rw [HE.out]; rfl, HX.out⟩
end Go.Proofs.YtmgofdgbenfjmaaDoor
