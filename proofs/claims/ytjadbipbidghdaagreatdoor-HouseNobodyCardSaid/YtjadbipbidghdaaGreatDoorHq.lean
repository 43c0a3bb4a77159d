/- The line 'kind 2 1 1 5 0' parsed. Conditions: the table of powers of ten is laid; the greatest length of an index is laid. -/
import Derived.Test.YtjadbipbidghdaaGreatDoorHp
namespace Go.Proofs.YtjadbipbidghdaaGreatDoor
open Go.RowKit

def kc : Nat → UInt8 | 0 => 50 | 1 => 49 | 2 => 49 | 3 => 53 | _ => 48
def kd : Nat → Nat | 0 => 2 | 1 => 1 | 2 => 1 | 3 => 5 | _ => 0
theorem kdig : ∀ j, j < 5 → Dig (kc j) (kd j)
  | 0, _ => dig2
  | 1, _ => dig1
  | 2, _ => dig1
  | 3, _ => dig5
  | 4, _ => dig0
/-- the kind's numbers in memory: cell p holds a row of five ints in block g -/
structure KC (w : World) (p g cap : Nat) : Prop where
  plt : p < w.heap.size
  glt : g < w.heap.size
  hcap : 5 ≤ cap
  cell : w.cell? ⟨p, 0, none⟩ = some (.slice (some ⟨g, 0, none⟩) 5 cap)
  num : ∀ j, j < 5 → w.cell? ⟨g, j, none⟩ = some (.int .i64 (kd j : Int))
theorem KC.ext {w w' : World} {p g cap : Nat} (h : KC w p g cap) (hb : Below w.heap.size w w') : KC w' p g cap :=
  ⟨Nat.lt_of_lt_of_le h.plt hb.size, Nat.lt_of_lt_of_le h.glt hb.size, h.hcap, (hb.cell (p := ⟨p, 0, none⟩) h.plt).trans h.cell, fun j hj => (hb.cell (p := ⟨g, j, none⟩) h.glt).trans (h.num j hj)⟩
theorem KC.keep {w w' : World} {p g cap : Nat} (h : KC w p g cap) (hs : w.heap.size ≤ w'.heap.size) (hp : w'.heap[p]? = w.heap[p]?) (hg : w'.heap[g]? = w.heap[g]?) : KC w' p g cap :=
  ⟨Nat.lt_of_lt_of_le h.plt hs, Nat.lt_of_lt_of_le h.glt hs, h.hcap, (by unfold World.cell?; rw [hp] : w'.cell? ⟨p, 0, none⟩ = w.cell? ⟨p, 0, none⟩).trans h.cell, fun j hj => (by unfold World.cell?; rw [hg] : w'.cell? ⟨g, j, none⟩ = w.cell? ⟨g, j, none⟩).trans (h.num j hj)⟩
theorem own_ow {b n : Nat} {d : Nat → Int} {w : World} (h : Ow 3 b n d w) {base : Nat} (hb : base ≤ b) (hn : n ≤ 1000000) : w.ownsRow base 3 1 (.slice (some ⟨b, 0, none⟩) n n) n ((List.range n).map fun j => Value.int .i64 (d j)) :=
  ⟨by simp, .inr ⟨b, n, cellsOf n d, rfl, hb, h, Nat.le_refl _, by unfold maxLen; omega, by rw [cellsOf_size]; omega, by rw [Nat.mul_one]; unfold cellsOf; rw [List.take_of_length_le (by simp)]⟩⟩
/-- 'append(n, more...)' of ints -/
theorem wpList_appI (w : World) {ops : Array Oper} {rest : List Oper} {o : Oper} {a : Act} {Q : Exit → Act → World → Prop} (hgd : o.guard = none) (s x : Operand)
    (ho : o.op = .call { callee := .builtin .append, args := #[s, x], argTypes := #[77, 77] })
    (B : Nat) {b n b2 m : Nat} {d e : Nat → Int} (h1 : Ow 3 b n d w) (h2 : Ow 3 b2 m e w) (hB : B ≤ b) (hs : a.eval s = .slice (some ⟨b, 0, none⟩) n n) (hx : a.eval x = .slice (some ⟨b2, 0, none⟩) m m)
    (hn : n ≤ 1000) (hm : m ≤ 1000) (hbase : B ≤ w.heap.size)
    (h : ∀ v' w', w'.ownsRow B 3 1 v' (n + m) (((List.range n).map fun j => Value.int .i64 (d j)) ++ (List.range m).map fun j => Value.int .i64 (e j)) → Below B w w' → (∀ k, k < w.heap.size → k ≠ b → w'.heap[k]? = w.heap[k]?) → wpList Tryz.prog ops Q rest (a.put o.dst v') w') :
    wpList Tryz.prog ops Q (o :: rest) a w := by
  obtain ⟨i, hi, hz, hsz, hby⟩ := info_parts info_int
  refine wpList_append_own w hgd s x _ ho B 3 i (.int .i64 0) 1 8 Tryz.underlying77 hi hz hsz hby rfl (by decide) _ n _ hs (own_ow h1 hB (by omega)) ⟨b2, 0, none⟩ m m ((List.range m).map fun j => Value.int .i64 (e j)) hx (by simp) (fun j u hu => ?_) (fun x hx => by simp at hx; obtain ⟨_, _, rfl⟩ := hx; rfl) (by unfold maxLen; omega) (by omega) hbase fun v' w' hv hgr _ => ?_
  · have e1 : (⟨b2, 0, none⟩ : Addr).add j = ⟨b2, j, none⟩ := by
      simp only [Addr.add]
      split <;> simp_all
    rw [e1]
    obtain ⟨hj, rfl⟩ := List.getElem?_eq_some_iff.1 hu
    simp at hj
    simp [h2.cell hj]
  · exact h v' w' hv ⟨hgr.os, hgr.tape, hgr.output, hgr.size, fun k hk => hgr.block k (by omega) fun e => by simp [Value.ownBlock] at e; omega⟩ fun k hk hn => hgr.block k hk fun e => by simp [Value.ownBlock] at e; exact hn e
set_option maxRecDepth 100000 in
set_option maxHeartbeats 8000000 in
theorem parse_kind (w : World) (ht : P10 w) (hm : MxI w) : Calls Tryz.prog 13 #[.string ⟨#[107, 105, 110, 100, 32, 50, 32, 49, 32, 49, 32, 53, 32, 48]⟩] w fun e w' => ∃ p g cap, e = .returned (.tuple #[.agg #[.func (.func 124) #[] #[.pointer (some ⟨p, 0, none⟩)], .nilFunc], .int .i64 0]) ∧ KC w' p g cap ∧ w.heap.size ≤ p ∧ w.heap.size ≤ g ∧ Below w.heap.size w w' := by
  have HX := Lib.hid (ext_alloc w (.cells #[.nilFunc, .nilFunc] 42))
  have HB := Lib.hid (Bk.new 42 w #[.nilFunc, .nilFunc])
  have HT := Lib.hid ht
  have HM := Lib.hid hm
  clear ht hm
  go_enter Tryz.func13, Tryz.ntmps13
  go_upto_region 1 with (fail)
  obtain ⟨X, hX⟩ : ∃ X, X = w.alloc (.cells #[.nilFunc, .nilFunc] 42) := ⟨_, rfl⟩
  obtain ⟨q, hq⟩ : ∃ q, q = w.heap.size := ⟨_, rfl⟩
  rw [← hX] at HX HB ⊢
  rw [← hq] at HB ⊢
  have hwq : w.heap.size ≤ q := by omega
  clear hX hq
  have HSP := Lib.hid (split_kind X (HM.out.ext HX.out))
  go_upto_region 4 with (go_at_call 33; refine (HSP.out).mono ?_; rintro e w1 ⟨rfl, hw1, hx1⟩; have HW1 := Lib.hid hw1; have HX1 := Lib.hid hx1; clear hw1 hx1)
  obtain ⟨b, hb⟩ : ∃ b, b = X.heap.size := ⟨_, rfl⟩
  rw [← hb] at HW1 ⊢
  have HBX := Lib.hid hb
  clear hb HSP
  obtain ⟨f1, f2, f3⟩ := HW1.out.facts
  go_quiet (fail)
  have HX2 := Lib.hid (ext_trans HX.out (ext_trans HX1.out (ext_drewN w1 nq)))
  have HQ2 := Lib.hid ((HB.out.ext HX1.out).ext (ext_drewN w1 nq))
  have HW2 := Lib.hid (HW1.out.ext (ext_drewN w1 nq))
  obtain ⟨V, hV⟩ : ∃ V, V = w1.drewN nq := ⟨_, rfl⟩
  rw [← hV] at HX2 HQ2 HW2 ⊢
  clear hV f1 f2 f3 HX HB HX1 HW1
  have HSH := Lib.hid (shapes_kind V)
  unfold fKind at HSH
  go_upto_region 16 with (go_at_call 43; refine (HSH.out).mono ?_; rintro e w2 ⟨rfl, hx2⟩; have HX3 := Lib.hid hx2; clear hx2)
  obtain ⟨p, hp⟩ : ∃ p, p = w2.heap.size := ⟨_, rfl⟩
  have HX4 := Lib.hid (ext_trans (ext_trans HX2.out HX3.out) (ext_alloc w2 (.cells #[.int .i64 5, .int .i64 0, .func (.func 78) #[] #[], .nilFunc] 120)))
  have HQ4 := Lib.hid ((HQ2.out.ext HX3.out).ext (ext_alloc w2 (.cells #[.int .i64 5, .int .i64 0, .func (.func 78) #[] #[], .nilFunc] 120)))
  have HW4 := Lib.hid ((HW2.out.ext HX3.out).ext (ext_alloc w2 (.cells #[.int .i64 5, .int .i64 0, .func (.func 78) #[] #[], .nilFunc] 120)))
  have HP4 := Lib.hid (Bk.new 120 w2 #[.int .i64 5, .int .i64 0, .func (.func 78) #[] #[], .nilFunc])
  obtain ⟨Y, hY⟩ : ∃ Y, Y = w2.alloc (.cells #[.int .i64 5, .int .i64 0, .func (.func 78) #[] #[], .nilFunc] 120) := ⟨_, rfl⟩
  rw [← hY] at HX4 HQ4 HW4 HP4 ⊢
  rw [← hp] at HP4 ⊢
  clear hY hp HX2 HQ2 HW2 HX3 HSH
  obtain ⟨f1, f2, f3⟩ := HP4.out.facts
  have HFI := Lib.hid (fits_any 5 (.func (.func 78) #[] #[]) .nilFunc (by rfl) (by rfl) Y)
  have hnn := nn_kind
  have HWW : ∀ W, Bk 9 W b #[.string ⟨#[107, 105, 110, 100]⟩, .string ⟨#[50]⟩, .string ⟨#[49]⟩, .string ⟨#[49]⟩, .string ⟨#[53]⟩, .string ⟨#[48]⟩] → ∀ j, j < 5 → W.cell? ⟨b, 1 + j, none⟩ = some (.string ⟨#[kc j]⟩) := fun W h j hj => by
    rw [h.cell]
    match j, hj with
    | 0, _ => rfl
    | 1, _ => rfl
    | 2, _ => rfl
    | 3, _ => rfl
    | 4, _ => rfl
  have HWH := Lib.hid HWW
  clear HWW
  go_upto_region 24 with (first
    | (go_at_call 44; refine (HFI.out).mono ?_; rintro e w3 ⟨rfl, hx3⟩; have HX5 := Lib.hid (ext_trans HX4.out hx3); have HQ5 := Lib.hid (HQ4.out.ext hx3); have HW5 := Lib.hid (HW4.out.ext hx3); have HP5 := Lib.hid (HP4.out.ext hx3); clear hx3 HQ4 HW4 HP4 HX4)
    | (go_at_call 39; refine (numbers_any b 1 3 5 kc kd (fun j h => kdig j (by omega)) false w3 (by decide) HW5.out.lt (fun j h => HWH.out _ HW5.out j (by omega)) (HT.out.ext HX5.out)).mono ?_; rintro e w4 ⟨rfl, ho4, hx4⟩; have HO6 := Lib.hid ho4; have hwb1 : w.heap.size ≤ w3.heap.size := HX5.out.size; have HX6 := Lib.hid (ext_trans HX5.out hx4); have HQ6 := Lib.hid (HQ5.out.ext hx4); have HW6 := Lib.hid (HW5.out.ext hx4); have HP6 := Lib.hid (HP5.out.ext hx4); clear hx4 ho4 HQ5 HW5 HP5 HX5)
    | (go_at_call 39; refine (numbers_any b 4 2 2 (fun j => kc (3 + j)) (fun j => kd (3 + j)) (fun j h => kdig _ (by omega)) false w4 (by decide) HW6.out.lt (fun j h => by have := HWH.out _ HW6.out (3 + j) (by omega); rw [show 4 + j = 1 + (3 + j) from by omega]; exact this) (HT.out.ext HX6.out)).mono ?_; rintro e w5 ⟨rfl, ho5, hx5⟩; have HO7 := Lib.hid ho5; have HO8 := Lib.hid (HO6.out.ext hx5); have HX7 := Lib.hid (ext_trans HX6.out hx5); have HQ7 := Lib.hid (HQ6.out.ext hx5); have HP7 := Lib.hid (HP6.out.ext hx5); clear hx5 ho5 HQ6 HW6 HP6 HX6 HO6))
  obtain ⟨b1, hb1⟩ : ∃ b1, b1 = w3.heap.size := ⟨_, rfl⟩
  obtain ⟨b2, hb2⟩ : ∃ b2, b2 = w4.heap.size := ⟨_, rfl⟩
  rw [← hb1] at HO8 ⊢
  rw [← hb2] at HO7 ⊢
  have HWB := Lib.hid hwb1
  have HB1 := Lib.hid (show w.heap.size ≤ b1 from by rw [hb1]; exact hwb1)
  have hq1 : q ≠ b1 := bk_ne HQ7.out HO8.out (by decide)
  have hp1 : p ≠ b1 := bk_ne HP7.out HO8.out (by decide)
  have HQ1 := Lib.hid hq1
  have HP1 := Lib.hid hp1
  have HWS := Lib.hid HX7.out.size
  clear hb1 hb2 hwb1 hq1 hp1 f1 f2 f3 HWH HFI
  go_wp2_with (first
    | (at_builtin; refine wpList_appI w5 rfl _ _ rfl w.heap.size HO8.out HO7.out HB1.out (by rfl) (by rfl) (by omega) (by omega) HWS.out ?_; intro v6 w6 hv6 hx6 hk6; have hq8 : Bk 42 w6 q _ := (hk6 q HQ7.out.lt HQ1.out).trans HQ7.out; have hne6 := own_ne hv6 hq8 (by decide); obtain ⟨A6, cap6, rfl, hc6, _, ho6⟩ := own_cells hv6; obtain ⟨g6, rfl, hg6, hg6l, hn6⟩ := ho6.resolve_left (by omega); have HX8 := Lib.hid (HX7.out.trans hx6); have HQ8 := Lib.hid hq8; have HNE := Lib.hid hne6; have HP8 := Lib.hid (show Bk 120 w6 p _ from (hk6 p HP7.out.lt HP1.out).trans HP7.out); have HN6 := Lib.hid hn6; have HC6 := Lib.hid hc6; have HG6 := Lib.hid hg6; have HGL := Lib.hid hg6l; obtain ⟨f1, f2, f3⟩ := HP8.out.facts; clear hq8 hne6 hx6 hk6 hv6 hc6 hg6 hg6l hn6 ho6)
    | (go_at_call 78; refine (kind_any _ (by rfl) _).mono ?_; rintro e w7 ⟨rfl, hc7, hx7, hl7⟩; have HC7 := Lib.hid hc7; have HX9 := Lib.hid hx7; have HL7 := Lib.hid hl7; have HQ9 := Lib.hid (HQ8.out.ext hx7); obtain ⟨g1, g2, g3⟩ := HQ9.out.facts; clear hc7 hx7 hl7))
  have HB7 := Lib.hid ((HQ9.out.set 0 (.func (.func 124) #[] #[.pointer (some ⟨w6.heap.size, 0, none⟩)])).set 1 .nilFunc)
  have c0 := HB7.out.cell 0
  have c1 := HB7.out.cell 1
  simp only [List.setIfInBounds_toArray, List.set_cons_zero, List.set_cons_succ, List.getElem?_toArray, List.getElem?_cons_zero, List.getElem?_cons_succ] at c0 c1
  refine bodyPost_ret (v := .tuple #[.agg #[.func (.func 124) #[] #[.pointer (some ⟨w6.heap.size, 0, none⟩)], .nilFunc], .int .i64 0]) (by simp [results, Tryz.results13, go_sem, c0, c1]) rfl ?_
  have hqp : w6.heap.size ≠ q := by have := HQ8.out.lt; omega
  have hqg : g6 ≠ q := fun e => HNE.out (by rw [← e]; rfl)
  have hk : KC w7 w6.heap.size g6 cap6 := ⟨HL7.out, Nat.lt_trans HGL.out HL7.out, HC6.out, HC7.out, fun j hj => (HX9.out.cell (p := ⟨g6, j, none⟩) HGL.out).trans (HN6.out j _ (by
    match j, hj with
    | 0, _ => rfl
    | 1, _ => rfl
    | 2, _ => rfl
    | 3, _ => rfl
    | 4, _ => rfl))⟩
  refine ⟨w6.heap.size, g6, cap6, rfl, ?_, ?_, HG6.out, ?_⟩
  · exact (hk.keep (by simp [World.setCell]) (Below.heap_setCell _ ⟨q, 0, none⟩ _ _ hqp) (Below.heap_setCell _ ⟨q, 0, none⟩ _ _ hqg)).keep (by simp [World.setCell]) (Below.heap_setCell _ ⟨q, 1, none⟩ _ _ hqp) (Below.heap_setCell _ ⟨q, 1, none⟩ _ _ hqg)
  · exact HX8.out.size
  · exact ((HX8.out.trans (HX9.out.mono HX8.out.size)).setCell (p := ⟨q, 0, none⟩) hwq _).setCell (p := ⟨q, 1, none⟩) hwq _
end Go.Proofs.YtjadbipbidghdaaGreatDoor
