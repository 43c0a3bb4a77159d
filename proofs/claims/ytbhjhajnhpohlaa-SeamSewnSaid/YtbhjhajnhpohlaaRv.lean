/- Rows of moves and rows of such rows that grow; the law's long and runs walked. Conditions: the runs read as lists of moves, each slice within 2^47 bytes. -/
import Derived.Test.YtbhjhajnhpohlaaMv
namespace Go.Proofs.Ytbhjhajnhpohlaa
open Go.RowKit

def Mv.cells (m : Mv) : List Value := [.int .i64 m.k, .bool m.r]
/-- a row of moves of the call's own that grows; M: the type of a move -/
def Vm (M : TypeId) (base : Nat) (w : World) (v : Value) (l : List Mv) : Prop := w.ownsRow base M 2 v l.length (l.flatMap Mv.cells)
theorem Vm.nil (M : TypeId) (base : Nat) (w : World) : Vm M base w (.slice none 0 0) [] := own_nil w base M 2
theorem Vm.msl {M : TypeId} {base : Nat} {w : World} {v : Value} {l : List Mv} (h : Vm M base w v l) : ∃ A cap, v = .slice A l.length cap ∧ l.length ≤ cap ∧ cap ≤ maxLen ∧ MSl w A l := by
  obtain ⟨A, cap, hv, h1, h2, h3⟩ := own_cells h
  refine ⟨A, cap, hv, h1, h2, ?_⟩
  rcases h3 with h3 | ⟨g, rfl, _, hg, hc⟩
  · exact .inl (List.eq_nil_of_length_eq_zero h3)
  · refine .inr ⟨g, 0, rfl, hg, fun j hj => ?_⟩
    have hf : ∀ a : Mv, (Mv.cells a).length = 2 := fun _ => rfl
    refine ⟨?_, ?_⟩
    · rw [Nat.zero_add]
      exact hc (j * 2) _ (by rw [show j * 2 = j * 2 + 0 from rfl, flat_get hf l j 0 hj (by omega)]; rfl)
    · rw [Nat.zero_add]
      exact hc (j * 2 + 1) _ (by rw [flat_get hf l j 1 hj (by omega)]; rfl)
theorem Vm.base {M : TypeId} {b b' : Nat} {w : World} {v : Value} {l : List Mv} (h : Vm M b w v l) (hb : b' ≤ b) : Vm M b' w v l := own_base h hb
/-- 'append(row, Move{..})' -/
theorem wpList_pushM {M R : TypeId} (hR : Try.prog.underlying R = some (.slice M)) (hM : (Try.prog.info? M).map (fun i => (i.zero, i.size, i.bytes)) = some (some (.agg #[.int .i64 0, .bool false]), 2, 16))
    (w : World) {ops : Array Oper} {rest : List Oper} {o : Oper} {a : Act} {Q : Exit → Act → World → Prop} (hgd : o.guard = none) (s x : Operand)
    (ho : o.op = .call { callee := .builtin .append, args := #[s, x], argTypes := #[R, R] })
    (base : Nat) {v : Value} {l : List Mv} (hown : Vm M base w v l) (hs : a.eval s = v)
    {k : Int} {r : Bool} {B : Nat} (hx : a.eval x = .slice (some ⟨B, 0, none⟩) 1 1) (hB : w.heap.size = B) (hn : (l.length + 1) * 16 ≤ 140737488355328) (hbase : base ≤ w.heap.size)
    (h : ∀ v' w', Vm M base w' v' (l ++ [⟨k, r⟩]) → Below base w w' → (∀ k, k < w.heap.size → some k ≠ v.ownBlock → w'.heap[k]? = w.heap[k]?) → wpList Try.prog ops Q rest (a.put o.dst v') w') :
    wpList Try.prog ops Q (o :: rest) a (w.alloc (.cells #[.int .i64 k, .bool r] M)) := by
  refine wpList_push w hgd s x _ ho base M _ 2 16 hR hM rfl (by decide) hown hs (news := [.int .i64 k, .bool r]) hx hB rfl (by intro x hx; simp at hx; rcases hx with rfl | rfl <;> rfl) (by decide) (by unfold maxLen; omega) hn hbase ?_
  intro v' w' h2 h3 h4 _
  refine h v' w' ?_ h3 h4
  have e : l.flatMap Mv.cells ++ [Value.int .i64 k, Value.bool r] = (l ++ [(⟨k, r⟩ : Mv)]).flatMap Mv.cells := by rw [List.flatMap_append]; rfl
  have e2 : (l ++ [(⟨k, r⟩ : Mv)]).length = l.length + 1 := by simp
  unfold Vm
  rw [← e, e2]
  exact h2
theorem own_ne2 {w : World} {base base' n n' sz sz' : Nat} {e e' : TypeId} {v v' : Value} {xs xs' : List Value} (h : w.ownsRow base e sz v n xs) (h' : w.ownsRow base' e' sz' v' n' xs') (hT : e ≠ e') : ∀ k, v'.ownBlock = some k → some k ≠ v.ownBlock := by
  intro k hk
  obtain ⟨_, h'⟩ := h'
  rcases h' with ⟨rfl, _⟩ | ⟨g, cap, cur, rfl, hg, hh, hr⟩
  · cases hk
  · have : g = k := by simpa [Value.ownBlock] using hk
    subst this
    exact own_ne h (show Bk e' w g cur from hh) hT
/-- a row of rows of moves; R: the type of a row, M: of a move -/
def Vr (R M : TypeId) (base : Nat) (w : World) (v : Value) (ls : List (List Mv)) : Prop :=
  ∃ vs : List Value, vs.length = ls.length ∧ w.ownsRow base R 1 v ls.length vs ∧ ∀ j (h : j < vs.length) (h' : j < ls.length), Vm M base w vs[j] ls[j]
section
variable {R M : TypeId} {base : Nat} {w w' : World} {v : Value} {ls : List (List Mv)}
theorem Vr.nil (R M : TypeId) (base : Nat) (w : World) : Vr R M base w (.slice none 0 0) [] := ⟨[], rfl, own_nil w base R 1, fun j h => by simp at h⟩
theorem Vr.ext (h : Vr R M base w v ls) (hb : Below w.heap.size w w') : Vr R M base w' v ls := by
  obtain ⟨vs, h1, h2, h3⟩ := h
  exact ⟨vs, h1, own_ext h2 hb, fun j h h' => own_ext (h3 j h h') hb⟩
theorem Vr.rsl (h : Vr R M base w v ls) : ∃ A cap, v = .slice A ls.length cap ∧ ls.length ≤ cap ∧ cap ≤ maxLen ∧ RSl w A ls := by
  obtain ⟨vs, hl, h2, h3⟩ := h
  obtain ⟨A, cap, hv, h4, h5, h6⟩ := own_cells h2
  refine ⟨A, cap, hv, h4, h5, ?_⟩
  rcases h6 with h6 | ⟨g, rfl, _, hg, hc⟩
  · exact .inl (List.eq_nil_of_length_eq_zero h6)
  · refine .inr ⟨g, 0, rfl, hg, fun j hj => ?_⟩
    obtain ⟨A', c', e1, e2, e3, e4⟩ := (h3 j (by omega) hj).msl
    refine ⟨A', c', ?_, e2, by unfold maxLen at e3; omega, e4⟩
    rw [Nat.zero_add]
    exact hc j _ (by rw [List.getElem?_eq_getElem (by omega), e1])
theorem Vr.ne {k : Nat} {cs : Array Value} {T' : TypeId} (h : Vr R M base w v ls) (hk : Bk T' w k cs) (hT : R ≠ T') : some k ≠ v.ownBlock := by
  obtain ⟨vs, _, h2, _⟩ := h
  exact own_ne h2 hk hT
theorem Vr.keep (h : Vr R M base w v ls) (hRM : R ≠ M) (hk : ∀ k, k < w.heap.size → w'.heap[k]? = w.heap[k]?) : Vr R M base w' v ls := by
  have _ := hRM
  obtain ⟨vs, h1, h2, h3⟩ := h
  exact ⟨vs, h1, own_keep h2 fun k e => hk k (own_lt h2 k e).2, fun j h h' => own_keep (h3 j h h') fun k e => hk k (own_lt (h3 j h h') k e).2⟩
end
/-- 'append(rows, row)' -/
theorem wpList_pushR {R M RR : TypeId} (hRR : Try.prog.underlying RR = some (.slice R)) (hR : (Try.prog.info? R).map (fun i => (i.zero, i.size, i.bytes)) = some (some (.slice none 0 0), 1, 24)) (hRM : R ≠ M)
    (w : World) {ops : Array Oper} {rest : List Oper} {o : Oper} {a : Act} {Q : Exit → Act → World → Prop} (hgd : o.guard = none) (s x : Operand)
    (ho : o.op = .call { callee := .builtin .append, args := #[s, x], argTypes := #[RR, RR] })
    (base : Nat) {v : Value} {ls : List (List Mv)} (hown : Vr R M base w v ls) (hs : a.eval s = v)
    {u : Value} {l : List Mv} (hu : Vm M base w u l) {B : Nat} (hx : a.eval x = .slice (some ⟨B, 0, none⟩) 1 1) (hB : w.heap.size = B) (hn : (ls.length + 1) * 24 ≤ 140737488355328) (hbase : base ≤ w.heap.size)
    (h : ∀ v' w', Vr R M base w' v' (ls ++ [l]) → Below base w w' → (∀ k, k < w.heap.size → some k ≠ v.ownBlock → w'.heap[k]? = w.heap[k]?) → wpList Try.prog ops Q rest (a.put o.dst v') w') :
    wpList Try.prog ops Q (o :: rest) a (w.alloc (.cells #[u] R)) := by
  obtain ⟨vs, h1, h2, h3⟩ := hown
  have h1c : ∀ y ∈ [u], y.oneCell' = true := by
    intro y hy
    obtain rfl : y = u := by simpa using hy
    obtain ⟨A, c, rfl, _⟩ := hu.msl
    rfl
  refine wpList_push w hgd s x _ ho base R _ 1 24 hRR hR rfl (by decide) h2 hs (news := [u]) hx hB rfl h1c (by decide) (by unfold maxLen; omega) hn hbase ?_
  intro v' w' g2 g3 g4 _
  have e2 : (ls ++ [l]).length = ls.length + 1 := by simp
  refine h v' w' ⟨vs ++ [u], by simp [h1], by rw [e2]; exact g2, fun j hj hj' => ?_⟩ g3 g4
  have hkeep : ∀ (u : Value) (l : List Mv), Vm M base w u l → Vm M base w' u l := fun u l hl => own_keep hl fun k e => g4 k (own_lt hl k e).2 (own_ne2 h2 hl hRM k e)
  by_cases hjl : j < ls.length
  · rw [List.getElem_append_left (by omega), List.getElem_append_left hjl]
    exact hkeep _ _ (h3 j (by omega) hjl)
  · have : j = ls.length := by simp at hj'; omega
    subst this
    rw [List.getElem_append_right (by omega), List.getElem_append_right (by omega)]
    simp only [h1, Nat.sub_self, List.getElem_cons_zero]
    exact hkeep _ _ hu

theorem info_move : (Try.prog.info? 72).map (fun i => (i.zero, i.size, i.bytes)) = some (some (.agg #[.int .i64 0, .bool false]), 2, 16) := by kernel_rfl
theorem info_rmove : (Try.prog.info? 66).map (fun i => (i.zero, i.size, i.bytes)) = some (some (.agg #[.int .i64 0, .bool false]), 2, 16) := by kernel_rfl
theorem info_moves : (Try.prog.info? 57).map (fun i => (i.zero, i.size, i.bytes)) = some (some (.slice none 0 0), 1, 24) := by kernel_rfl
theorem info_rmoves : (Try.prog.info? 60).map (fun i => (i.zero, i.size, i.bytes)) = some (some (.slice none 0 0), 1, 24) := by kernel_rfl

/-- each slice is within 2^47 bytes -/
def RSz (ls : List (List Mv)) : Prop := ls.length * 24 ≤ 140737488355328 ∧ ∀ run ∈ ls, run.length * 16 ≤ 140737488355328

set_option maxRecDepth 100000 in
set_option maxHeartbeats 2000000 in
/-- 'long' answers, whatever the runs -/
theorem long_any (C : Option Addr) (cc : Nat) (ls : List (List Mv)) (w : World) (hcc : ls.length ≤ cc) (hcc2 : cc ≤ 9223372036854775807) (hr : RSl w C ls) :
    Calls Try.prog 24 #[.slice C ls.length cc] w fun e w' => (∃ b, e = .returned (.bool b)) ∧ Below w.heap.size w w' := by
  have HR := Lib.hid hr
  clear hr
  go_enter Try.func24, Try.ntmps24
  go_wp2
  go_loopg [10, 3] ls.length (fun g i z wr => ∃ (k : Nat) (x : Int), i = .int .i64 k ∧ z = .int .i64 x ∧ k ≤ ls.length ∧ g = ls.length - k ∧ Below w.heap.size w wr)
  case atStart => exact ⟨0, _, rfl, rfl, by omega, by omega, Below.refl _ _⟩
  case round =>
    obtain ⟨k, x, rfl, rfl, hk, hg, hb⟩ := hrel
    have HG := Lib.hid hg
    clear hg
    by_cases hlt : k < ls.length
    · have hf := HR.out.ext hb
      rcases hf with hf | ⟨b, off, rfl, hblt, hcl⟩
      · rw [hf] at hlt; simp at hlt
      · obtain ⟨A', c', c1, k1, k2, hm⟩ := hcl k hlt
        obtain ⟨n, hn⟩ : ∃ n, n = ls[k].length := ⟨_, rfl⟩
        rw [← hn] at c1 k1
        clear hn hcl hm
        go_wp2
        go_roundg (ls.length - (k + 1))
        case measure => have := HG.out; omega
        case rel => exact ⟨k + 1, _, by go_num, rfl, by omega, rfl, hb⟩
    · obtain rfl : k = ls.length := by omega
      go_wp2
      go_ret
      exact ⟨⟨_, rfl⟩, hb⟩

theorem takeLen {α : Type} {l : List α} {k : Nat} (h : k ≤ l.length) : (l.take k).length = k := by rw [List.length_take]; omega
theorem takeSnoc {α : Type} {l : List α} {k : Nat} (h : k < l.length) {x : α} (hx : x = l[k]) : l.take (k + 1) = l.take k ++ [x] := by rw [hx]; exact List.take_succ_eq_append_getElem h
set_option maxRecDepth 100000 in
set_option maxHeartbeats 4000000 in
/-- 'runs' copies -/
theorem runs_any (C : Option Addr) (cc : Nat) (ls : List (List Mv)) (w : World) (hcc : ls.length ≤ cc) (hcc2 : cc ≤ 9223372036854775807) (hz : RSz ls) (hr : RSl w C ls) :
    Calls Try.prog 26 #[.slice C ls.length cc] w fun e w' => ∃ A' c', e = .returned (.slice A' ls.length c') ∧ ls.length ≤ c' ∧ c' ≤ 9223372036854775807 ∧ RSl w' A' ls ∧ Below w.heap.size w w' := by
  have HR := Lib.hid hr
  have HZ := Lib.hid hz
  clear hr hz
  go_enter Try.func26, Try.ntmps26
  go_wp2
  go_loopg [11, 3] ls.length (fun g i z wr => ∃ (k : Nat), i = .int .i64 k ∧ k ≤ ls.length ∧ g = ls.length - k ∧ Below w.heap.size w wr ∧ Vr 57 72 w.heap.size wr z (ls.take k))
  case atStart => exact ⟨0, rfl, by omega, by omega, Below.refl _ _, Vr.nil _ _ _ _⟩
  case round =>
    obtain ⟨k, rfl, hk, hg, hb, hv⟩ := hrel
    rename_i z
    have HG := Lib.hid hg
    have HV := Lib.hid hv
    clear hg
    by_cases hlt : k < ls.length
    · have hf := HR.out.ext hb
      rcases hf with hf | ⟨b, off, rfl, hblt, hcl⟩
      · rw [hf] at hlt; simp at hlt
      · obtain ⟨A', c', c1, k1, k2, hm⟩ := hcl k hlt
        have HTK := Lib.hid (fun run hr => takeSnoc hlt (x := run) hr)
        have hrz := HZ.out.2 ls[k] (List.getElem_mem hlt)
        obtain ⟨run, hrun⟩ : ∃ run, run = ls[k] := ⟨_, rfl⟩
        rw [← hrun] at c1 k1 hm hrz
        have HTK := Lib.hid (HTK.out run hrun)
        have HM := Lib.hid hm
        have HRZ := Lib.hid hrz
        obtain ⟨A, c, hz0, -, -, -⟩ := hv.rsl
        rw [takeLen hk] at hz0
        subst hz0
        clear hrun hcl hm hrz hv
        obtain ⟨wo, rfl⟩ : ∃ wo : World, wo = wr := ⟨_, rfl⟩
        go_wp2
        go_loopg [17, 6] run.length (fun g j y wr => ∃ (i : Nat), j = .int .i64 i ∧ i ≤ run.length ∧ g = run.length - i ∧ Below wo.heap.size wo wr ∧ Vm 72 wo.heap.size wr y (run.take i))
        case atStart => exact ⟨0, rfl, by omega, by omega, Below.refl _ _, Vm.nil _ _ _⟩
        case round =>
          obtain ⟨i, rfl, hi, hg2, hb2, hv2⟩ := hrel
          have HG2 := Lib.hid hg2
          have HV2 := Lib.hid hv2
          obtain ⟨A2, c2, hz2, -, -, -⟩ := hv2.msl
          rw [takeLen hi] at hz2
          subst hz2
          clear hg2 hv2
          by_cases hli : i < run.length
          · rcases HM.out.ext hb2 with hf2 | ⟨b2, off2, rfl, hblt2, hcl2⟩
            · rw [hf2] at hli; simp at hli
            · obtain ⟨d1, d2⟩ := hcl2 i hli
              have htk := takeSnoc hli (x := run[i]) rfl
              obtain ⟨m, hm⟩ : ∃ m, m = run[i] := ⟨_, rfl⟩
              rw [← hm] at d1 d2 htk
              obtain ⟨mk, mr⟩ := m
              dsimp only at d1 d2
              have HTK2 := Lib.hid htk
              have HX2 := Lib.hid (ext_alloc wr (.cells #[.int .i64 mk, .bool mr] 66))
              clear hm hcl2 htk
              go_wp2_with (at_builtin; refine wpList_pushM Try.underlying57 info_move _ rfl _ _ rfl wo.heap.size (own_ext HV2.out HX2.out) (by rfl) (by rfl) (by simp) ?hn5 ?hb5 ?_; (case hn5 => have := HRZ.out; rw [List.length_take]; omega); (case hb5 => have := hb2.size; simp; omega); intro v5 w5 hv5 hb5 hk5; rw [← HTK2.out] at hv5; obtain ⟨A5, c5, hz5, -, -, -⟩ := hv5.msl; rw [takeLen (by omega)] at hz5; subst hz5)
              go_roundg (run.length - (i + 1))
              case measure => have := HG2.out; omega
              case rel => exact ⟨i + 1, by go_num, by omega, rfl, (bext hb2 HX2.out hb2.size).trans hb5, hv5⟩
          · obtain rfl : i = run.length := by omega
            have hv3 := HV2.out
            rw [List.take_length] at hv3
            have HV3 := Lib.hid (hv3.base hb.size)
            have HVR := Lib.hid (HV.out.ext hb2)
            have hb4 := bext hb hb2 hb.size
            clear hv3
            go_wp2_with (at_builtin; refine wpList_pushR Try.underlying47 info_moves (by decide) _ rfl _ _ rfl w.heap.size HVR.out (by rfl) HV3.out (by rfl) (by simp) ?hn6 ?hb6 ?_; (case hn6 => have := HZ.out.1; rw [List.length_take]; omega); (case hb6 => have := hb4.size; simp; omega); intro v5 w5 hv5 hb5 hk5; rw [← HTK.out] at hv5; obtain ⟨A5, c5, hz5, -, -, -⟩ := hv5.rsl; rw [takeLen (by omega)] at hz5; subst hz5)
            go_roundg (ls.length - (k + 1))
            case measure => have := HG.out; omega
            case rel => exact ⟨k + 1, by go_num, by omega, rfl, hb4.trans hb5, hv5⟩
    · obtain rfl : k = ls.length := by omega
      rw [List.take_length] at hv HV
      obtain ⟨A, c, rfl, h1, h2, h3⟩ := hv.rsl
      have H3 := Lib.hid h3
      unfold maxLen at h2
      clear h3 hv HV
      go_wp2
      go_ret
      exact ⟨A, c, rfl, h1, by omega, H3.out, hb⟩
end Go.Proofs.Ytbhjhajnhpohlaa
