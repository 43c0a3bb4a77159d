/- alike and same walked: two reports that read the same. No conditions. -/
import Derived.Test.YtbhjhajnhpohlaaEq
import Derived.Test.YtbhjhajnhpohlaaMrn
namespace Go.Proofs.Ytbhjhajnhpohlaa
open Go.RowKit

/-- a report read -/
def RepIs (w : World) (v : Value) (f s a h k : Int) (L U : List Int) : Prop :=
  ∃ A c B d, v = .agg #[.int .i64 f, .int .i64 s, .int .i64 a, .int .i64 h, .int .i64 k, .slice A L.length c, .slice B U.length d] ∧ ISl w A L ∧ ISl w B U
theorem RepIs.ext {w w' : World} {v : Value} {f s a h k : Int} {L U : List Int} (hr : RepIs w v f s a h k L U) (hb : Below w.heap.size w w') : RepIs w' v f s a h k L U := by
  obtain ⟨A, c, B, d, e, h1, h2⟩ := hr
  exact ⟨A, c, B, d, e, h1.ext hb, h2.ext hb⟩
/-- Run's answer in plain words -/
def rnT (N : Int) (l : List Sm) (ops : List Opr) (fuel : Int) : Int × Mc := exec fuel N l ops mc0
def rnE (N : Int) (l : List Sm) (ops : List Opr) (fuel : Int) : Int := if GOk N l ∧ 0 ≤ fuel ∧ fuel ≤ 100000 ∧ ops.length ≤ 4096 ∧ (∀ o ∈ ops, OpOk o) then 0 else rnErr N l ops fuel
def tabL (n : Nat) (d : Nat → Int) : List Int := (List.range n).map d
theorem tabL_length (n : Nat) (d : Nat → Int) : (tabL n d).length = n := by simp [tabL]
theorem tabL_isl {b n : Nat} {d : Nat → Int} {w : World} (h : Ow 3 b n d w) : ISl w (some ⟨b, 0, none⟩) (tabL n d) :=
  h.isl (tabL_length n d) (fun j hj => by simp [tabL])
/-- what Run answers, read -/
theorem RetRn.no {w : World} {N : Int} {l : List Sm} {ops : List Opr} {fuel : Int} {e : Ending} {w' : World} (h : RetRn w N l ops fuel e w') (hn : ¬ RnOk N l ops fuel) :
    Below w.heap.size w w' ∧ ∃ v, e = .returned (.tuple #[v, .int .i64 (rnErr N l ops fuel)]) ∧ RepIs w' v 0 0 0 0 0 [] [] := by
  obtain ⟨hb, h | ⟨h, _⟩⟩ := h
  · exact ⟨hb, rep0, h.2, none, 0, none, 0, rfl, .inl rfl, .inl rfl⟩
  · exact absurd h hn
theorem RetRn.yes {w : World} {N : Int} {l : List Sm} {ops : List Opr} {fuel : Int} {e : Ending} {w' : World} (h : RetRn w N l ops fuel e w') (hn : RnOk N l ops fuel) :
    Below w.heap.size w w' ∧ ∃ v, e = .returned (.tuple #[v, .int .i64 0]) ∧ RepIs w' v (rnT N l ops fuel).1 (rnT N l ops fuel).2.s (rnT N l ops fuel).2.a (rnT N l ops fuel).2.h (rnT N l ops fuel).2.k (tabL l.length (rnT N l ops fuel).2.sw) (tabL 8 (rnT N l ops fuel).2.us) := by
  obtain ⟨hb, ⟨h, _⟩ | ⟨_, bs, bu, he, h1, h2⟩⟩ := h
  · exact absurd hn h
  · refine ⟨hb, _, he, some ⟨bs, 0, none⟩, l.length, some ⟨bu, 0, none⟩, 8, ?_, tabL_isl h1, tabL_isl h2⟩
    rw [tabL_length, tabL_length]; rfl
theorem RetRn.cpd {w : World} {N : Int} {l l' : List Sm} {ops : List Opr} {fuel : Int} {e : Ending} {w' : World} (h : RetRn w N l' ops fuel e w') (h1 : GOk N l' ↔ GOk N l) (h2 : GOk N l → l' = l) : RetRn w N l ops fuel e w' := by
  by_cases hg : GOk N l
  · rw [h2 hg] at h; exact h
  · obtain ⟨hb, ⟨h3, h4⟩ | ⟨h3, _⟩⟩ := h
    · refine ⟨hb, .inl ⟨fun h => hg h.1, ?_⟩⟩
      rw [h4]
      have e1 : rnErr N l' ops fuel = 2 := by unfold rnErr; rw [if_pos (fun h => hg (h1.1 h.1))]
      have e2 : rnErr N l ops fuel = 2 := by unfold rnErr; rw [if_pos (fun h => hg h.1)]
      rw [e1, e2]
    · exact absurd (h1.1 h3.1) hg
set_option maxRecDepth 100000 in
set_option maxHeartbeats 4000000 in
theorem alike_any (f s a h k : Int) (L U : List Int) (v v' : Value) (w : World) (hL : L.length ≤ 9223372036854775807) (hU : U.length ≤ 9223372036854775807) (hv : RepIs w v f s a h k L U) (hv' : RepIs w v' f s a h k L U) :
    Calls Try.prog 44 #[v, v'] w fun e w' => e = .returned (.bool true) ∧ Below w.heap.size w w' := by
  obtain ⟨A, c, B, d, rfl, h1, h2⟩ := hv
  obtain ⟨A', c', B', d', rfl, h3, h4⟩ := hv'
  have HW := Lib.hid (fun W (hW : Below w.heap.size w W) => And.intro (And.intro (h1.ext hW) (h2.ext hW)) (And.intro (h3.ext hW) (h4.ext hW)))
  have HE1 := Lib.hid (fun W (hA : ISl W A L) (hB : ISl W A' L) => equal_same A A' c c' L W hL hA hB)
  have HE2 := Lib.hid (fun W (hA : ISl W B U) (hB : ISl W B' U) => equal_same B B' d d' U W hU hA hB)
  have HX := Lib.hid (ext_trans (ext_alloc w (.cells #[.int .i64 f, .int .i64 s, .int .i64 a, .int .i64 h, .int .i64 k, .slice A L.length c, .slice B U.length d] 76)) (ext_alloc _ (.cells #[.int .i64 f, .int .i64 s, .int .i64 a, .int .i64 h, .int .i64 k, .slice A' L.length c', .slice B' U.length d'] 81)))
  have HB := Lib.hid ((Bk.new 76 w #[.int .i64 f, .int .i64 s, .int .i64 a, .int .i64 h, .int .i64 k, .slice A L.length c, .slice B U.length d]).alloc (.cells #[.int .i64 f, .int .i64 s, .int .i64 a, .int .i64 h, .int .i64 k, .slice A' L.length c', .slice B' U.length d'] 81))
  have hb2 := Bk.new 81 (w.alloc (.cells #[.int .i64 f, .int .i64 s, .int .i64 a, .int .i64 h, .int .i64 k, .slice A L.length c, .slice B U.length d] 76)) #[.int .i64 f, .int .i64 s, .int .i64 a, .int .i64 h, .int .i64 k, .slice A' L.length c', .slice B' U.length d']
  rw [World.size_alloc] at hb2
  have HB2 := Lib.hid hb2
  clear h1 h2 h3 h4 hb2 hL hU
  go_enter Try.func44, Try.ntmps44
  go_wp2_with (first
    | (go_at_call_of 23 (Value.slice A L.length c); refine (HE1.out _ (HW.out _ HX.out).1.1 (HW.out _ HX.out).2.1).mono ?_; rintro e w1 ⟨rfl, hx1⟩; have B1 := bext HX.out hx1 HX.out.size; obtain ⟨f1, f2, f3⟩ := (HB.out.ext hx1).facts; obtain ⟨g1, g2, g3⟩ := (HB2.out.ext hx1).facts)
    | (go_at_call_of 23 (Value.slice B U.length d); refine (HE2.out _ (HW.out _ B1).1.2 (HW.out _ B1).2.2).mono ?_; rintro e w2 ⟨rfl, hx2⟩; have B2 := bext B1 hx2 B1.size))
  go_ret
  exact ⟨rfl, B2⟩
set_option maxRecDepth 100000 in
set_option maxHeartbeats 4000000 in
theorem same_any (f s a h k : Int) (L U : List Int) (v v' : Value) (w : World) (hL : L.length ≤ 9223372036854775807) (hU : U.length ≤ 9223372036854775807) (hv : RepIs w v f s a h k L U) (hv' : RepIs w v' f s a h k L U) :
    Calls Try.prog 46 #[v, v'] w fun e w' => e = .returned (.bool true) ∧ Below w.heap.size w w' := by
  obtain ⟨A, c, B, d, rfl, h1, h2⟩ := hv
  obtain ⟨A', c', B', d', rfl, h3, h4⟩ := hv'
  have HW := Lib.hid (fun W (hW : Below w.heap.size w W) => And.intro (And.intro (h1.ext hW) (h2.ext hW)) (And.intro (h3.ext hW) (h4.ext hW)))
  have HE1 := Lib.hid (fun W (hA : ISl W A L) (hB : ISl W A' L) => equal_same A A' c c' L W hL hA hB)
  have HE2 := Lib.hid (fun W (hA : ISl W B U) (hB : ISl W B' U) => equal_same B B' d d' U W hU hA hB)
  have HX := Lib.hid (ext_trans (ext_alloc w (.cells #[.int .i64 f, .int .i64 s, .int .i64 a, .int .i64 h, .int .i64 k, .slice A L.length c, .slice B U.length d] 76)) (ext_alloc _ (.cells #[.int .i64 f, .int .i64 s, .int .i64 a, .int .i64 h, .int .i64 k, .slice A' L.length c', .slice B' U.length d'] 76)))
  have HB := Lib.hid ((Bk.new 76 w #[.int .i64 f, .int .i64 s, .int .i64 a, .int .i64 h, .int .i64 k, .slice A L.length c, .slice B U.length d]).alloc (.cells #[.int .i64 f, .int .i64 s, .int .i64 a, .int .i64 h, .int .i64 k, .slice A' L.length c', .slice B' U.length d'] 76))
  have hb2 := Bk.new 76 (w.alloc (.cells #[.int .i64 f, .int .i64 s, .int .i64 a, .int .i64 h, .int .i64 k, .slice A L.length c, .slice B U.length d] 76)) #[.int .i64 f, .int .i64 s, .int .i64 a, .int .i64 h, .int .i64 k, .slice A' L.length c', .slice B' U.length d']
  rw [World.size_alloc] at hb2
  have HB2 := Lib.hid hb2
  clear h1 h2 h3 h4 hb2 hL hU
  go_enter Try.func46, Try.ntmps46
  go_wp2_with (first
    | (go_at_call_of 23 (Value.slice A L.length c); refine (HE1.out _ (HW.out _ HX.out).1.1 (HW.out _ HX.out).2.1).mono ?_; rintro e w1 ⟨rfl, hx1⟩; have B1 := bext HX.out hx1 HX.out.size; obtain ⟨f1, f2, f3⟩ := (HB.out.ext hx1).facts; obtain ⟨g1, g2, g3⟩ := (HB2.out.ext hx1).facts)
    | (go_at_call_of 23 (Value.slice B U.length d); refine (HE2.out _ (HW.out _ B1).1.2 (HW.out _ B1).2.2).mono ?_; rintro e w2 ⟨rfl, hx2⟩; have B2 := bext B1 hx2 B1.size))
  go_ret
  exact ⟨rfl, B2⟩
end Go.Proofs.Ytbhjhajnhpohlaa
