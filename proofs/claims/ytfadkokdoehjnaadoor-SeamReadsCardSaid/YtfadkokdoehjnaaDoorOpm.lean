/- Ops in memory; right, program and the reference's Program walked; the law's copy of a program. Conditions: the slice reads as a list of ops. -/
import Derived.Test.YtfadkokdoehjnaaDoorWe
namespace Go.Proofs.YtfadkokdoehjnaaDoor
open Go.RowKit

/-- an op: its code, its number, its way -/
structure Opr where
  c : Int
  g : Int
  b : Bool
deriving DecidableEq
instance : Inhabited Opr := ⟨⟨0, 0, false⟩⟩
def Opr.val (o : Opr) : Value := .agg #[.int .i64 o.c, .int .i64 o.g, .bool o.b]
def Opr.cells (o : Opr) : List Value := [.int .i64 o.c, .int .i64 o.g, .bool o.b]
/-- the greatest number of an op -/
def most (c : Int) : Int := if c = 0 then 7 else if c = 1 then 15 else if c = 3 then 63 else if c = 5 then 99 else 0
/-- a valid op -/
def OpOk (o : Opr) : Prop := 0 ≤ o.c ∧ o.c ≤ 5 ∧ 0 ≤ o.g ∧ o.g ≤ most o.c ∧ (o.b = true → o.c = 3)
instance (o : Opr) : Decidable (OpOk o) := by unfold OpOk; infer_instance
/-- a slice of ops -/
def OSl (w : World) (A : Option Addr) (l : List Opr) : Prop :=
  l = [] ∨ ∃ b off, A = some ⟨b, off, none⟩ ∧ b < w.heap.size ∧ ∀ j (h : j < l.length), w.cell? ⟨b, off + j * 3, none⟩ = some (.int .i64 l[j].c) ∧ w.cell? ⟨b, off + j * 3 + 1, none⟩ = some (.int .i64 l[j].g) ∧ w.cell? ⟨b, off + j * 3 + 2, none⟩ = some (.bool l[j].b)
theorem OSl.ext {w w' : World} {A : Option Addr} {l : List Opr} (h : OSl w A l) (hb : Below w.heap.size w w') : OSl w' A l := by
  rcases h with h | ⟨b, off, hA, hlt, hc⟩
  · exact .inl h
  · refine .inr ⟨b, off, hA, Nat.lt_of_lt_of_le hlt hb.size, fun j hj => ?_⟩
    obtain ⟨c1, c2, c3⟩ := hc j hj
    exact ⟨(hb.cell (p := ⟨b, _, none⟩) hlt).trans c1, (hb.cell (p := ⟨b, _, none⟩) hlt).trans c2, (hb.cell (p := ⟨b, _, none⟩) hlt).trans c3⟩
/-- a row of ops of the call's own that grows; T: the type of an op -/
def Vo (T : TypeId) (base : Nat) (w : World) (v : Value) (l : List Opr) : Prop := w.ownsRow base T 3 v l.length (l.flatMap Opr.cells)
theorem Vo.nil (T : TypeId) (base : Nat) (w : World) : Vo T base w (.slice none 0 0) [] := own_nil w base T 3
theorem Vo.osl {T : TypeId} {base : Nat} {w : World} {v : Value} {l : List Opr} (h : Vo T base w v l) : ∃ A cap, v = .slice A l.length cap ∧ l.length ≤ cap ∧ cap ≤ maxLen ∧ OSl w A l := by
  obtain ⟨A, cap, hv, h1, h2, h3⟩ := own_cells h
  refine ⟨A, cap, hv, h1, h2, ?_⟩
  rcases h3 with h3 | ⟨g, rfl, _, hg, hc⟩
  · exact .inl (List.eq_nil_of_length_eq_zero h3)
  · refine .inr ⟨g, 0, rfl, hg, fun j hj => ?_⟩
    have hf : ∀ a : Opr, (Opr.cells a).length = 3 := fun _ => rfl
    refine ⟨?_, ?_, ?_⟩
    · rw [Nat.zero_add]
      exact hc (j * 3) _ (by rw [show j * 3 = j * 3 + 0 from rfl, flat_get hf l j 0 hj (by omega)]; rfl)
    · rw [Nat.zero_add]
      exact hc (j * 3 + 1) _ (by rw [flat_get hf l j 1 hj (by omega)]; rfl)
    · rw [Nat.zero_add]
      exact hc (j * 3 + 2) _ (by rw [flat_get hf l j 2 hj (by omega)]; rfl)
/-- 'append(out, Op{..})' -/
theorem wpList_pushO {M R : TypeId} (hR : Tryd.prog.underlying R = some (.slice M)) (hM : (Tryd.prog.info? M).map (fun i => (i.zero, i.size, i.bytes)) = some (some (.agg #[.int .i64 0, .int .i64 0, .bool false]), 3, 24))
    (w : World) {ops : Array Oper} {rest : List Oper} {o : Oper} {a : Act} {Q : Exit → Act → World → Prop} (hgd : o.guard = none) (s x : Operand)
    (ho : o.op = .call { callee := .builtin .append, args := #[s, x], argTypes := #[R, R] })
    (base : Nat) {v : Value} {l : List Opr} (hown : Vo M base w v l) (hs : a.eval s = v)
    {c g : Int} {r : Bool} {B : Nat} (hx : a.eval x = .slice (some ⟨B, 0, none⟩) 1 1) (hB : w.heap.size = B) (hn : l.length ≤ 1000000) (hbase : base ≤ w.heap.size)
    (h : ∀ v' w', Vo M base w' v' (l ++ [⟨c, g, r⟩]) → Below base w w' → (∀ k, k < w.heap.size → some k ≠ v.ownBlock → w'.heap[k]? = w.heap[k]?) → wpList Tryd.prog ops Q rest (a.put o.dst v') w') :
    wpList Tryd.prog ops Q (o :: rest) a (w.alloc (.cells #[.int .i64 c, .int .i64 g, .bool r] M)) := by
  refine wpList_push w hgd s x _ ho base M _ 3 24 hR hM rfl (by decide) hown hs (news := [.int .i64 c, .int .i64 g, .bool r]) hx hB rfl (by intro x hx; simp at hx; rcases hx with rfl | rfl | rfl <;> rfl) (by decide) (by unfold maxLen; omega) (by omega) hbase ?_
  intro v' w' h2 h3 h4 _
  refine h v' w' ?_ h3 h4
  have e : l.flatMap Opr.cells ++ [Value.int .i64 c, Value.int .i64 g, Value.bool r] = (l ++ [(⟨c, g, r⟩ : Opr)]).flatMap Opr.cells := by rw [List.flatMap_append]; rfl
  have e2 : (l ++ [(⟨c, g, r⟩ : Opr)]).length = l.length + 1 := by simp
  unfold Vo
  rw [← e, e2]
  exact h2
theorem info_op : (Tryd.prog.info? 49).map (fun i => (i.zero, i.size, i.bytes)) = some (some (.agg #[.int .i64 0, .int .i64 0, .bool false]), 3, 24) := by kernel_rfl
theorem info_rop : (Tryd.prog.info? 34).map (fun i => (i.zero, i.size, i.bytes)) = some (some (.agg #[.int .i64 0, .int .i64 0, .bool false]), 3, 24) := by kernel_rfl
theorem takeLen3 {α : Type} {l : List α} {k : Nat} (h : k ≤ l.length) : (l.take k).length = k := by rw [List.length_take]; omega

set_option maxRecDepth 100000 in
set_option maxHeartbeats 4000000 in
/-- the law's 'program' copies -/
theorem program_any (A : Option Addr) (cap : Nat) (l : List Opr) (w : World) (_hc : l.length ≤ cap) (_hcm : cap ≤ 9223372036854775807) (h5 : l.length ≤ 5000) (h : OSl w A l) :
    Calls Tryd.prog 7 #[.slice A l.length cap] w fun e w' => ∃ A' c', e = .returned (.slice A' l.length c') ∧ l.length ≤ c' ∧ c' ≤ 9223372036854775807 ∧ OSl w' A' l ∧ Below w.heap.size w w' := by
  have H := Lib.hid h
  clear h
  go_enter Tryd.func7, Tryd.ntmps7
  go_wp2
  go_loopg [8, 3] l.length (fun g i z wr => ∃ (k : Nat), i = .int .i64 k ∧ k ≤ l.length ∧ g = l.length - k ∧ Below w.heap.size w wr ∧ Vo 49 w.heap.size wr z (l.take k))
  case atStart => exact ⟨0, rfl, by omega, by omega, Below.refl _ _, Vo.nil _ _ _⟩
  case round =>
    obtain ⟨k, rfl, hk, hg, hb, hv⟩ := hrel
    have HG := Lib.hid hg
    have HV := Lib.hid hv
    obtain ⟨A2, c2, hz2, k1, k2, k3⟩ := hv.osl
    rw [takeLen3 hk] at hz2 k1
    subst hz2
    have K3 := Lib.hid k3
    clear hg hv k3
    by_cases hlt : k < l.length
    · rcases H.out.ext hb with hf | ⟨b, off, rfl, hblt, hcl⟩
      · rw [hf] at hlt; simp at hlt
      · obtain ⟨d1, d2, d3⟩ := hcl k hlt
        have htk : l.take (k + 1) = l.take k ++ [l[k]] := List.take_succ_eq_append_getElem hlt
        obtain ⟨m, hm⟩ : ∃ m, m = l[k] := ⟨_, rfl⟩
        rw [← hm] at d1 d2 d3 htk
        obtain ⟨oc, og, ob⟩ := m
        dsimp only at d1 d2 d3
        have HTK := Lib.hid htk
        have HX := Lib.hid (ext_alloc wr (.cells #[.int .i64 oc, .int .i64 og, .bool ob] 34))
        clear hm hcl htk
        go_wp2_with (at_builtin; refine wpList_pushO Tryd.underlying27 info_op _ rfl _ _ rfl w.heap.size (own_ext HV.out HX.out) (by rfl) (by rfl) (by simp) ?hn5 ?hb5 ?_; (case hn5 => rw [List.length_take]; omega); (case hb5 => have := hb.size; simp; omega); intro v5 w5 hv5 hb5 hk5; rw [← HTK.out] at hv5; obtain ⟨A5, c5, hz5, -, -, -⟩ := hv5.osl; rw [takeLen3 (by omega)] at hz5; subst hz5)
        go_roundg (l.length - (k + 1))
        case measure => have := HG.out; omega
        case rel => exact ⟨k + 1, by go_num, by omega, rfl, (bext hb HX.out hb.size).trans hb5, hv5⟩
    · obtain rfl : k = l.length := by omega
      rw [List.take_length] at K3
      unfold maxLen at k2
      go_wp2
      go_ret
      exact ⟨A2, c2, rfl, k1, by omega, K3.out, hb⟩

set_option maxRecDepth 100000 in
set_option maxHeartbeats 4000000 in
theorem right_any (o : Opr) (w : World) :
    Calls Tryd.prog 25 #[o.val] w fun e w' => e = .returned (.bool (decide (OpOk o))) ∧ Below w.heap.size w w' := by
  obtain ⟨c, g, b⟩ := o
  show Calls Tryd.prog 25 #[.agg #[.int .i64 c, .int .i64 g, .bool b]] w _
  have HB := Lib.hid (ext_alloc w (.cells #[.int .i64 c, .int .i64 g, .bool b] 49))
  have hret : ∀ x : Bool, (x = true ↔ OpOk ⟨c, g, b⟩) → ∀ w', Below w.heap.size w w' → (Ending.returned (.bool x) = .returned (.bool (decide (OpOk ⟨c, g, b⟩))) ∧ Below w.heap.size w w') := fun x hx w' hw => by
    refine ⟨ret_bool ?_, hw⟩
    cases x
    · exact (decide_eq_false (fun h => by have := hx.2 h; cases this)).symm
    · exact (decide_eq_true (hx.1 rfl)).symm
  have HRET := Lib.hid hret
  clear hret
  cases b
  all_goals
    go_enter Tryd.func25, Tryd.ntmps25
    go_wp2
    all_goals
      go_ret
      refine HRET.out _ ?_ _ HB.out
      clear HRET HB
      simp only [beq_iff_eq, beq_eq_false_iff_ne, bne_iff_ne, ne_eq] at *
      subst_vars
      first | (simp [OpOk, most, *]; done) | (simp [OpOk, most, *]; omega) | (simp [OpOk, most, *] at *; omega) | (refine ⟨fun h => by simp at h, ?_⟩; rintro ⟨h1, h2, h3, h4, h5⟩; dsimp only at h1 h2; omega)

/-- all ops are valid -/
def PrOk (l : List Opr) : Prop := ∀ o ∈ l, OpOk o
instance (l : List Opr) : Decidable (PrOk l) := by unfold PrOk; infer_instance
theorem pr_step {l : List Opr} {k : Nat} (hk : k < l.length) {o : Opr} (ho : o = l[k]) (h : ∀ j (hj : j < l.length), j < k → OpOk l[j]) (h2 : OpOk o) : ∀ j (hj : j < l.length), j < k + 1 → OpOk l[j] := by
  intro j hj hjk
  by_cases hlt : j < k
  · exact h j hj hlt
  · obtain rfl : j = k := by omega
    rw [← ho]; exact h2
theorem pr_all {l : List Opr} (h : ∀ j (hj : j < l.length), j < l.length → OpOk l[j]) : PrOk l := by
  intro o ho
  obtain ⟨j, hj, rfl⟩ := List.getElem_of_mem ho
  exact h j hj hj
theorem pr_no {l : List Opr} {k : Nat} (hk : k < l.length) {o : Opr} (ho : o = l[k]) (h2 : ¬ OpOk o) : ¬ PrOk l := fun h => h2 (by rw [ho]; exact h _ (List.getElem_mem hk))

set_option maxRecDepth 100000 in
set_option maxHeartbeats 4000000 in
/-- seam's 'program' -/
theorem prog_any (A : Option Addr) (cap : Nat) (l : List Opr) (w : World) (_hc : l.length ≤ cap) (_hcm : cap ≤ 9223372036854775807) (h : OSl w A l) :
    Calls Tryd.prog 14 #[.slice A l.length cap] w fun e w' => e = .returned (.int .i64 (if 4096 < l.length then 3 else if PrOk l then 0 else 2)) ∧ Below w.heap.size w w' := by
  have H := Lib.hid h
  clear h
  by_cases h4 : 4096 < l.length
  · rw [if_pos h4]
    have h5 : (4096 : Int) < (l.length : Int) := by omega
    go_enter Tryd.func14, Tryd.ntmps14
    go_wp2
    go_ret
    exact ⟨rfl, Below.refl _ _⟩
  · rw [if_neg h4]
    obtain ⟨z, hz⟩ : ∃ z : Int, z = if PrOk l then 0 else 2 := ⟨_, rfl⟩
    have HZ := Lib.hid hz
    rw [← hz]
    clear hz
    have h5 : ¬ (4096 : Int) < (l.length : Int) := by omega
    go_enter Tryd.func14, Tryd.ntmps14
    go_wp2
    go_loopg [10] l.length (fun g i wr => ∃ (k : Nat), i = .int .i64 k ∧ k ≤ l.length ∧ g = l.length - k ∧ Below w.heap.size w wr ∧ ∀ j (hj : j < l.length), j < k → OpOk l[j])
    case atStart => exact ⟨0, rfl, by omega, by omega, Below.refl _ _, fun j hj h => by omega⟩
    case round =>
      obtain ⟨k, rfl, hk, hg, hb, hv⟩ := hrel
      have HG := Lib.hid hg
      have HV := Lib.hid hv
      clear hg hv
      by_cases hlt : k < l.length
      · rcases H.out.ext hb with hf | ⟨b, off, rfl, hblt, hcl⟩
        · rw [hf] at hlt; simp at hlt
        · obtain ⟨d1, d2, d3⟩ := hcl k hlt
          have HST := Lib.hid (fun o ho => pr_step hlt (o := o) ho HV.out)
          have HNO := Lib.hid (fun o ho => pr_no hlt (o := o) ho)
          obtain ⟨m, hm⟩ : ∃ m, m = l[k] := ⟨_, rfl⟩
          rw [← hm] at d1 d2 d3
          have HST := Lib.hid (HST.out m hm)
          have HNO := Lib.hid (HNO.out m hm)
          clear hm hcl
          by_cases hok : OpOk m
          · have HOK := Lib.hid hok
            have HRT := Lib.hid (fun W => by have h := right_any m W; rw [decide_eq_true hok] at h; exact h)
            obtain ⟨oc, og, ob⟩ := m
            dsimp only at d1 d2 d3
            have HX := Lib.hid (bext hb (ext_alloc wr (.cells #[.int .i64 oc, .int .i64 og, .bool ob] 49)) hb.size)
            clear hok HNO
            go_wp2_with (go_at_call 25; refine (HRT.out _).mono ?_; rintro e w2 ⟨rfl, hx2⟩; have B2 := bext HX.out hx2 HX.out.size)
            go_roundg (l.length - (k + 1))
            case measure => have := HG.out; omega
            case rel => exact ⟨k + 1, by go_num, by omega, rfl, B2, HST.out HOK.out⟩
          · have hn := HNO.out hok
            have HN := Lib.hid (show (2 : Int) = z from by rw [HZ.out, if_neg hn])
            have HRT := Lib.hid (fun W => by have h := right_any m W; rw [decide_eq_false hok] at h; exact h)
            obtain ⟨oc, og, ob⟩ := m
            dsimp only at d1 d2 d3
            have HX := Lib.hid (bext hb (ext_alloc wr (.cells #[.int .i64 oc, .int .i64 og, .bool ob] 49)) hb.size)
            clear hok hn HNO HST
            go_wp2_with (go_at_call 25; refine (HRT.out _).mono ?_; rintro e w2 ⟨rfl, hx2⟩; have B2 := bext HX.out hx2 HX.out.size)
            go_ret
            exact ⟨ret_int HN.out, B2⟩
      · obtain rfl : k = l.length := by omega
        have HN := Lib.hid (show (0 : Int) = z from by rw [HZ.out, if_pos (pr_all HV.out)])
        go_wp2
        go_ret
        exact ⟨ret_int HN.out, hb⟩
end Go.Proofs.YtfadkokdoehjnaaDoor
