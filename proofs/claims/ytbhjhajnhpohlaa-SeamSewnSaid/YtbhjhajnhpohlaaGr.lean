/- The laws' graph walked: the graph copied, at most 66 seams. Conditions: the slice reads as a list of seams. -/
import Derived.Test.YtbhjhajnhpohlaaWe
namespace Go.Proofs.Ytbhjhajnhpohlaa
open Go.RowKit

def Sm.cells (s : Sm) : List Value := [.int .i64 s.a, .int .i64 s.b, .int .i64 s.n, .int .i64 s.t]
/-- the copy of a list of seams -/
def cpy (l : List Sm) : List Sm := l.take 66
theorem cpy_ok {N : Int} {l : List Sm} : GOk N (cpy l) ↔ GOk N l := by
  unfold GOk cpy
  by_cases h : l.length ≤ 64
  · rw [List.take_of_length_le (by omega)]
  · rw [List.length_take]
    constructor
    · rintro ⟨_, _, h3, _⟩; omega
    · rintro ⟨_, _, h3, _⟩; omega
theorem cpy_eq {N : Int} {l : List Sm} (h : GOk N l) : cpy l = l := List.take_of_length_le (by have := h.2.2.1; omega)

/-- a row of seams of the call's own that grows -/
def Vs (base : Nat) (w : World) (v : Value) (l : List Sm) : Prop := w.ownsRow base 106 4 v l.length (l.flatMap Sm.cells)
theorem Vs.ssl {base : Nat} {w : World} {v : Value} {l : List Sm} (h : Vs base w v l) : ∃ A cap, v = .slice A l.length cap ∧ l.length ≤ cap ∧ cap ≤ maxLen ∧ SSl w A l := by
  obtain ⟨A, cap, hv, h1, h2, h3⟩ := own_cells h
  refine ⟨A, cap, hv, h1, h2, ?_⟩
  rcases h3 with h3 | ⟨g, rfl, _, hg, hc⟩
  · exact .inl (List.eq_nil_of_length_eq_zero h3)
  · refine .inr ⟨g, 0, rfl, hg, fun j hj => ?_⟩
    have hf : ∀ a : Sm, (Sm.cells a).length = 4 := fun _ => rfl
    refine ⟨?_, ?_, ?_, ?_⟩
    · rw [Nat.zero_add]
      exact hc (j * 4) _ (by rw [show j * 4 = j * 4 + 0 from rfl, flat_get hf l j 0 hj (by omega)]; rfl)
    · rw [Nat.zero_add]
      exact hc (j * 4 + 1) _ (by rw [flat_get hf l j 1 hj (by omega)]; rfl)
    · rw [Nat.zero_add]
      exact hc (j * 4 + 2) _ (by rw [flat_get hf l j 2 hj (by omega)]; rfl)
    · rw [Nat.zero_add]
      exact hc (j * 4 + 3) _ (by rw [flat_get hf l j 3 hj (by omega)]; rfl)
theorem info_seam : (Try.prog.info? 106).map (fun i => (i.zero, i.size, i.bytes)) = some (some (.agg #[.int .i64 0, .int .i64 0, .int .i64 0, .int .i64 0]), 4, 32) := by kernel_rfl
/-- 'append(out, Seam{..})' -/
theorem wpList_pushS (w : World) {ops : Array Oper} {rest : List Oper} {o : Oper} {a : Act} {Q : Exit → Act → World → Prop} (hgd : o.guard = none) (s x : Operand)
    (ho : o.op = .call { callee := .builtin .append, args := #[s, x], argTypes := #[28, 28] })
    (base : Nat) {v : Value} {l : List Sm} (hown : Vs base w v l) (hs : a.eval s = v)
    {p q r t : Int} {B : Nat} (hx : a.eval x = .slice (some ⟨B, 0, none⟩) 1 1) (hB : w.heap.size = B) (hn : l.length ≤ 1000000) (hbase : base ≤ w.heap.size)
    (h : ∀ v' w', Vs base w' v' (l ++ [⟨p, q, r, t⟩]) → Below base w w' → (∀ k, k < w.heap.size → some k ≠ v.ownBlock → w'.heap[k]? = w.heap[k]?) → wpList Try.prog ops Q rest (a.put o.dst v') w') :
    wpList Try.prog ops Q (o :: rest) a (w.alloc (.cells #[.int .i64 p, .int .i64 q, .int .i64 r, .int .i64 t] 106)) := by
  refine wpList_push w hgd s x _ ho base 106 _ 4 32 Try.underlying28 info_seam rfl (by decide) hown hs (news := [.int .i64 p, .int .i64 q, .int .i64 r, .int .i64 t]) hx hB rfl (by intro x hx; simp at hx; rcases hx with rfl | rfl | rfl | rfl <;> rfl) (by decide) (by unfold maxLen; omega) (by omega) hbase ?_
  intro v' w' h2 h3 h4 _
  refine h v' w' ?_ h3 h4
  have e : l.flatMap Sm.cells ++ [Value.int .i64 p, .int .i64 q, .int .i64 r, .int .i64 t] = (l ++ [(⟨p, q, r, t⟩ : Sm)]).flatMap Sm.cells := by rw [List.flatMap_append]; rfl
  have e2 : (l ++ [(⟨p, q, r, t⟩ : Sm)]).length = l.length + 1 := by simp
  unfold Vs
  rw [← e, e2]
  exact h2
/-- graph's own memory -/
def GrS (w : World) (N : Int) (v : Value) (l : List Sm) (wr : World) : Prop :=
  Below w.heap.size w wr ∧ Bk 30 wr (w.heap.size + 1) #[.int .i64 0, .slice none 0 0] ∧ Bk 30 wr (w.heap.size + 1 + 1) #[.int .i64 N, v] ∧ Vs (w.heap.size + 1 + 1 + 1) wr v l
theorem GrS.ext {w : World} {N : Int} {v : Value} {l : List Sm} {wr w' : World} (h : GrS w N v l wr) (hb : Below wr.heap.size wr w') : GrS w N v l w' := ⟨bext h.1 hb h.1.size, h.2.1.ext hb, h.2.2.1.ext hb, own_ext h.2.2.2 hb⟩
theorem GrS.push {w : World} {N : Int} {v v' : Value} {l l' : List Sm} {wr w' : World} (h : GrS w N v l wr) (hv : Vs (w.heap.size + 1 + 1 + 1) w' v' l') (hb : Below (w.heap.size + 1 + 1 + 1) wr w') : GrS w N v' l' (w'.setCell ⟨w.heap.size + 1 + 1, 1, none⟩ v') := by
  have h2 := (h.2.2.1.below hb (by omega)).set 1 v'
  refine ⟨(h.1.trans (hb.mono (by omega))).setCell (by show w.heap.size ≤ w.heap.size + 1 + 1; omega) _, (h.2.1.below hb (by omega)).set_ne (by omega) _, h2, own_set hv (fun e => ?_)⟩
  have := (own_lt hv _ e.symm).1
  omega
theorem GrS.start (w : World) (N : Int) (o : Obj) : GrS w N (.slice none 0 0) [] (((w.alloc o).alloc (.cells #[.int .i64 0, .slice none 0 0] 30)).alloc (.cells #[.int .i64 N, .slice none 0 0] 30)) := by
  have h1 := Bk.new 30 (w.alloc o) #[.int .i64 0, .slice none 0 0]
  have h2 := Bk.new 30 ((w.alloc o).alloc (.cells #[.int .i64 0, .slice none 0 0] 30)) #[.int .i64 N, .slice none 0 0]
  simp only [World.size_alloc] at h1 h2
  exact ⟨(((Below.refl _ _).alloc (Nat.le_refl _) _).alloc (by simp) _).alloc (by simp; omega) _, h1.alloc _, h2, own_nil _ _ _ _⟩

set_option maxRecDepth 100000 in
set_option maxHeartbeats 4000000 in
theorem graph_any (N : Int) (A : Option Addr) (cap : Nat) (l : List Sm) (w : World) (_hc : l.length ≤ cap) (_hcm : cap ≤ 9223372036854775807) (h : SSl w A l) :
    Calls Try.prog 16 #[.agg #[.int .i64 N, .slice A l.length cap]] w fun e w' => ∃ A' cap', e = .returned (.agg #[.int .i64 N, .slice A' (cpy l).length cap']) ∧ (cpy l).length ≤ cap' ∧ cap' ≤ 9223372036854775807 ∧ SSl w' A' (cpy l) ∧ Below w.heap.size w w' := by
  have H := Lib.hid h
  have HS0 := Lib.hid (GrS.start w N (.cells #[.int .i64 N, .slice A l.length cap] 24))
  have hb0 := Bk.new 24 w #[.int .i64 N, .slice A l.length cap]
  have HB0 := Lib.hid ((hb0.alloc (.cells #[.int .i64 0, .slice none 0 0] 30)).alloc (.cells #[.int .i64 N, .slice none 0 0] 30))
  clear h hb0
  go_enter Try.func16, Try.ntmps16
  go_wp2
  go_loopg [12] l.length (fun g i wr => ∃ (k : Nat) (v : Value), i = .int .i64 k ∧ k ≤ l.length ∧ k ≤ 66 ∧ g = l.length - k ∧ GrS w N v (l.take k) wr)
  case atStart => exact ⟨0, _, rfl, by omega, by omega, by omega, HS0.out⟩
  case round =>
    obtain ⟨k, v, rfl, hk, hk66, hg, hs⟩ := hrel
    have HG := Lib.hid hg
    have HS := Lib.hid hs
    have hb := hs.1
    obtain ⟨f1, f2, f3⟩ := hs.2.1.facts
    obtain ⟨g1, g2, g3⟩ := hs.2.2.1.facts
    clear hg hs HS0
    have hend : (k = l.length ∨ k = 66) → ∀ wx, GrS w N v (l.take k) wx → ∃ A' cap', v = .slice A' (cpy l).length cap' ∧ (cpy l).length ≤ cap' ∧ cap' ≤ 9223372036854775807 ∧ SSl ((wx.setCell ⟨w.heap.size + 1, 0, none⟩ (.int .i64 N)).setCell ⟨w.heap.size + 1, 1, none⟩ v) A' (cpy l) ∧ Below w.heap.size w ((wx.setCell ⟨w.heap.size + 1, 0, none⟩ (.int .i64 N)).setCell ⟨w.heap.size + 1, 1, none⟩ v) ∧ Bk 30 ((wx.setCell ⟨w.heap.size + 1, 0, none⟩ (.int .i64 N)).setCell ⟨w.heap.size + 1, 1, none⟩ v) (w.heap.size + 1) #[.int .i64 N, v] := by
      intro hkk wx hx
      have hcp : cpy l = l.take k := by
        unfold cpy
        rcases hkk with rfl | rfl
        · rw [List.take_length, List.take_of_length_le (by omega)]
        · rfl
      have hv := hx.2.2.2
      have hne : some (w.heap.size + 1) ≠ v.ownBlock := fun e => by have := (own_lt hv _ e.symm).1; omega
      have hv2 : Vs (w.heap.size + 1 + 1 + 1) ((wx.setCell ⟨w.heap.size + 1, 0, none⟩ (.int .i64 N)).setCell ⟨w.heap.size + 1, 1, none⟩ v) v (l.take k) := own_set (own_set hv hne) hne
      obtain ⟨A', cap', e1, e2, e3, e4⟩ := hv2.ssl
      rw [hcp]
      exact ⟨A', cap', e1, e2, by unfold maxLen at e3; omega, e4, (hx.1.setCell (by show w.heap.size ≤ w.heap.size + 1; omega) _).setCell (by show w.heap.size ≤ w.heap.size + 1; omega) _, (hx.2.1.set 0 _).set 1 _⟩
    have HEND := Lib.hid hend
    clear hend
    by_cases hlt : k < l.length
    · have hf := H.out.ext hb
      rcases hf with hf | ⟨b, off, rfl, hblt, hcl⟩
      · rw [hf] at hlt; simp at hlt
      · obtain ⟨c1, c2, c3, c4⟩ := hcl k hlt
        have htk : l.take (k + 1) = l.take k ++ [l[k]] := List.take_succ_eq_append_getElem hlt
        obtain ⟨s, hs⟩ : ∃ s, s = l[k] := ⟨_, rfl⟩
        rw [← hs] at c1 c2 c3 c4 htk
        obtain ⟨a, b', m, t⟩ := s
        dsimp only at c1 c2 c3 c4
        have HTK := Lib.hid htk
        clear hs hcl htk
        by_cases h66 : k = 66
        · obtain ⟨A', cap', rfl, z1, z2, z3, z4, z5⟩ := HEND.out (.inr h66) _ HS.out
          have HZ3 := Lib.hid (z3.ext (ext_alloc _ (.cells #[.int .i64 a, .int .i64 b', .int .i64 m, .int .i64 t] 69)))
          have HZ4 := Lib.hid (z4.alloc z4.size (.cells #[.int .i64 a, .int .i64 b', .int .i64 m, .int .i64 t] 69))
          obtain ⟨p1, p2, p3⟩ := (z5.alloc (.cells #[.int .i64 a, .int .i64 b', .int .i64 m, .int .i64 t] 69)).facts
          have h67 : (65 : Int) < (k : Int) := by omega
          have H66 := Lib.hid h66
          have P1 := Lib.hid p1
          clear z3 z4 z5 h66 p1 p2
          go_wp2
          have p1 := P1.out
          refine bodyPost_ret (v := .agg #[.int .i64 N, .slice A' (cpy l).length cap']) (by simp [results, Try.results16, go_sem, p1]) rfl ?_
          exact ⟨A', cap', rfl, z1, z2, HZ3.out, HZ4.out⟩
        · have HS2 := Lib.hid (HS.out.ext (ext_alloc wr (.cells #[.int .i64 a, .int .i64 b', .int .i64 m, .int .i64 t] 69)))
          have hlen : (l.take k).length ≤ 66 := by rw [List.length_take]; omega
          have hk65 : ¬ (65 : Int) < (k : Int) := by omega
          have hsz := HS2.out.2.2.1.lt
          go_wp2_with (at_builtin; refine wpList_pushS _ rfl _ _ rfl (w.heap.size + 1 + 1 + 1) HS2.out.2.2.2 (by rfl) (by rfl) (by simp) ?hn5 ?hb5 ?_; (case hn5 => omega); (case hb5 => have := HS2.out.2.2.1.lt; omega); intro v5 w5 hv5 hb5 hk5; have S5 := HS2.out.push hv5 hb5; obtain ⟨p1, p2, p3⟩ := (HS2.out.2.2.1.below hb5 (by omega)).facts; obtain ⟨A5, c5, rfl, -, -, -⟩ := hv5.ssl)
          go_roundg (l.length - (k + 1))
          case measure => have := HG.out; omega
          case rel => exact ⟨k + 1, _, by go_num, by omega, by omega, rfl, by rw [HTK.out]; have h := S5; rw [show (List.take k l ++ [(⟨a, b', m, t⟩ : Sm)]).length = k + 1 from by rw [List.length_append, List.length_take]; simp; omega] at h; exact h⟩
    · obtain rfl : k = l.length := by omega
      obtain ⟨A', cap', rfl, z1, z2, z3, z4, z5⟩ := HEND.out (.inl rfl) _ HS.out
      have HZ3 := Lib.hid z3
      have HZ4 := Lib.hid z4
      obtain ⟨p1, p2, p3⟩ := z5.facts
      have P1 := Lib.hid p1
      clear z3 z4 z5 p1 p2
      go_wp2
      have p1 := P1.out
      refine bodyPost_ret (v := .agg #[.int .i64 N, .slice A' (cpy l).length cap']) (by simp [results, Try.results16, go_sem, p1]) rfl ?_
      exact ⟨A', cap', rfl, z1, z2, HZ3.out, HZ4.out⟩
end Go.Proofs.Ytbhjhajnhpohlaa
