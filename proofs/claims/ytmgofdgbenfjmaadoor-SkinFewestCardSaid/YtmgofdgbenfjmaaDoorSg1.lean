/- Texts joined: Sg, ApP. Conditions: see each. -/
import Derived.Test.YtmgofdgbenfjmaaDoorFn1
namespace Go.Proofs.YtmgofdgbenfjmaaDoor
open Go.RowKit

set_option maxRecDepth 100000 in
set_option maxHeartbeats 4000000 in
theorem containsI_any (A : Option Addr) (cap : Nat) (xs : List Int) (x : Int) (w : World) (hn : xs.length ≤ 1000000) (h : ISl w A xs) :
    Calls Tryd.prog 161 #[.slice A xs.length cap, .int .i64 x] w fun e w' => e = .returned (.bool (decide (x ∈ xs))) ∧ Below w.heap.size w w' := by
  have H := Lib.hid h
  have hix : Calls Tryd.prog 178 #[.slice A xs.length cap, .int .i64 x] w fun e w' => (∃ z : Int, e = .returned (.int .i64 z) ∧ decide (0 ≤ z) = decide (x ∈ xs)) ∧ Below w.heap.size w w' := by
    clear h
    go_enter Tryd.func178, Tryd.ntmps178
    go_wp2
    go_loopg [8] xs.length (fun g i wr => ∃ k : Nat, i = .int .i64 k ∧ k ≤ xs.length ∧ g = xs.length - k ∧ Below w.heap.size w wr ∧ x ∉ xs.take k)
    case atStart => exact ⟨0, rfl, by omega, by omega, Below.refl _ _, by simp⟩
    case round =>
      obtain ⟨k, rfl, hk, hg, hb, hnot⟩ := hrel
      have HG := Lib.hid hg
      have HN := Lib.hid hnot
      clear hg hnot
      by_cases hlt : k < xs.length
      · rcases H.out.ext hb with hf | ⟨b, off, rfl, hblt, hcl⟩
        · rw [hf] at hlt; simp at hlt
        · have c1 := hcl k hlt
          obtain ⟨y, hy⟩ : ∃ y, y = xs[k] := ⟨_, rfl⟩
          rw [← hy] at c1
          have HY := Lib.hid hy
          clear hy hcl
          by_cases e : x = y
          · have e2 : (x == y) = true := by simpa using e
            have HE := Lib.hid (show x ∈ xs from by rw [e, HY.out]; exact List.getElem_mem hlt)
            clear e
            go_wp2
            go_ret
            exact ⟨⟨k, rfl, by rw [decide_eq_true HE.out]; exact decide_eq_true (by omega)⟩, hb⟩
          · have e2 : (x == y) = false := by simpa using e
            have HE := Lib.hid (show x ∉ xs.take (k + 1) from by
              rw [List.take_succ_eq_append_getElem hlt, List.mem_append]
              rintro (h | h)
              · exact HN.out h
              · rw [← HY.out] at h
                exact e (by simpa using h))
            clear e
            go_wp2
            go_roundg (xs.length - (k + 1))
            case measure => have := HG.out; omega
            case rel => exact ⟨k + 1, by go_num, by omega, rfl, hb, HE.out⟩
      · obtain rfl : k = xs.length := by omega
        have HE := Lib.hid (show x ∉ xs from by have h := HN.out; rwa [List.take_length] at h)
        go_wp2
        go_ret
        exact ⟨⟨-1, rfl, by rw [decide_eq_false HE.out]; decide⟩, hb⟩
  have HIX := Lib.hid hix
  clear h hix
  go_enter Tryd.func161, Tryd.ntmps161
  go_wp2_with (go_at_call 178; refine HIX.out.mono ?_; rintro e w1 ⟨⟨z, rfl, hz⟩, hx1⟩; have HZ := Lib.hid hz; clear hz)
  go_ret
  exact ⟨by rw [← HZ.out]; rfl, hx1⟩

/-- those below N that stand nowhere in a row -/
def sngK (m : Nat → Int) (n N : Nat) : List Nat := (List.range N).filter fun i : Nat => decide (cntI m (i : Int) n = 0)
def sngI (m : Nat → Int) (n N : Nat) : List Int := (sngK m n N).map fun i : Nat => (i : Int)
theorem sng_yes {m : Nat → Int} {n k : Nat} (h : cntI m (k : Int) n = 0) : sngI m n (k + 1) = sngI m n k ++ [(k : Int)] := by
  unfold sngI sngK
  rw [List.range_succ, List.filter_append, List.map_append]
  simp [h]
theorem sng_no {m : Nat → Int} {n k : Nat} (h : ¬ cntI m (k : Int) n = 0) : sngI m n (k + 1) = sngI m n k := by
  unfold sngI sngK
  rw [List.range_succ, List.filter_append, List.map_append]
  simp [h]
theorem sng_len (m : Nat → Int) (n k : Nat) : (sngI m n k).length ≤ k := by
  unfold sngI sngK
  rw [List.length_map]
  exact Nat.le_trans (List.length_filter_le _ _) (by rw [List.length_range]; omega)
theorem row_mem {m : Nat → Int} {n : Nat} {x : Int} : x ∈ (List.range n).map m ↔ cntI m x n ≠ 0 := by
  rw [List.mem_map]
  constructor
  · rintro ⟨j, hj, e⟩
    have := cntI_pos n (List.mem_range.1 hj) e
    omega
  · intro h
    obtain ⟨j, hj, e⟩ := cntI_mem n h
    exact ⟨j, List.mem_range.2 hj, e⟩
/-- a slice of ints in a block from base on -/
def ISb (base : Nat) (w : World) (A : Option Addr) (l : List Int) : Prop :=
  l = [] ∨ ∃ b off, A = some ⟨b, off, none⟩ ∧ base ≤ b ∧ b < w.heap.size ∧ ∀ j (h : j < l.length), w.cell? ⟨b, off + j, none⟩ = some (.int .i64 l[j])
theorem Vi.isb {base : Nat} {w : World} {v : Value} {l : List Int} (h : Vi base w v l) : ∃ A cap, v = .slice A l.length cap ∧ l.length ≤ cap ∧ cap ≤ maxLen ∧ ISb base w A l := by
  obtain ⟨A, cap, hv, h1, h2, h3⟩ := own_cells h
  refine ⟨A, cap, hv, h1, h2, ?_⟩
  rcases h3 with h3 | ⟨g, rfl, hb, hg, hc⟩
  · exact .inl (List.eq_nil_of_length_eq_zero h3)
  · refine .inr ⟨g, 0, rfl, hb, hg, fun j hj => ?_⟩
    rw [Nat.zero_add]
    exact hc j _ (by simp [ints, hj])
set_option maxRecDepth 100000 in
set_option maxHeartbeats 4000000 in
theorem single_any (mb n N : Nat) (m : Nat → Int) (W : World) (hn : n ≤ 100000) (hN : N ≤ 100000) (h : Ow 3 mb n m W) :
    Calls Tryd.prog 133 #[.slice (some ⟨mb, 0, none⟩) n n, .int .i64 (N : Int)] W fun e w' => ∃ A cap, e = .returned (.slice A (sngI m n N).length cap) ∧ (sngI m n N).length ≤ cap ∧ cap ≤ 9223372036854775807 ∧ ISb W.heap.size w' A (sngI m n N) ∧ Below W.heap.size W w' := by
  have HC := Lib.hid (fun V (hV : Below W.heap.size W V) x => (show Calls Tryd.prog 161 #[.slice (some ⟨mb, 0, none⟩) n n, .int .i64 x] V fun e w' => e = .returned (.bool (decide (x ∈ (List.range n).map m))) ∧ Below V.heap.size V w' from by
    have hl : ((List.range n).map m).length = n := by rw [List.length_map, List.length_range]
    have := containsI_any (some ⟨mb, 0, none⟩) n ((List.range n).map m) x V (by rw [hl]; omega) ((h.ext hV).isl hl fun j hj => by simp)
    rwa [hl] at this))
  clear h
  go_enter Tryd.func133, Tryd.ntmps133
  go_wp2_with (fail)
  go_loopg [8, 5] N (fun gg z v wr => ∃ k : Nat, z = .int .i64 k ∧ k ≤ N ∧ gg = N - k ∧ Vi W.heap.size wr v (sngI m n k) ∧ Below W.heap.size W wr)
  case atStart => exact ⟨0, rfl, by omega, by omega, Vi.nil _ _, Below.refl _ _⟩
  case round =>
    obtain ⟨k, rfl, hk, hgg, hv, hb⟩ := hrel
    have HG := Lib.hid hgg
    have HB := Lib.hid hb
    have HV := Lib.hid hv
    obtain ⟨A, cap, rfl, k1, k2, hi⟩ := hv.isb
    have HI := Lib.hid hi
    unfold maxLen at k2
    have hlen := sng_len m n k
    have hbase : W.heap.size ≤ wr.heap.size := hb.size
    clear hgg hb hv hi
    by_cases hlt : k < N
    · have HCK := Lib.hid (HC.out wr HB.out (k : Int))
      by_cases h0 : cntI m (k : Int) n = 0
      · rw [decide_eq_false (fun h => row_mem.1 h h0)] at HCK
        have HE := Lib.hid (sng_yes h0)
        clear h0
        go_upto_region 6 with (go_at_call 161; refine HCK.out.mono ?_; rintro e w1 ⟨rfl, hx1⟩)
        have HV1 := Lib.hid (show Vi W.heap.size w1 _ _ from HV.out.ext hx1)
        have HB1 := Lib.hid (ext_trans HB.out hx1)
        have hbase1 : W.heap.size ≤ w1.heap.size := HB1.out.size
        clear hx1
        go_wp2_with (at_builtin; refine wpList_pushI _ rfl _ _ rfl W.heap.size HV1.out (by rfl) (by rfl) rfl (by omega) hbase1 ?_; intro v5 w5 hv5 hb5 hk5 _; have HV5 := Lib.hid hv5; have HB5 := Lib.hid (HB1.out.trans hb5); clear hv5 hb5 hk5)
        go_roundg (N - (k + 1))
        case measure => have := HG.out; omega
        case rel => exact ⟨k + 1, by go_num, by omega, rfl, by rw [HE.out]; exact HV5.out, HB5.out⟩
      · rw [decide_eq_true (row_mem.2 h0)] at HCK
        have HE := Lib.hid (sng_no h0)
        clear h0
        go_wp2_with (go_at_call 161; refine HCK.out.mono ?_; rintro e w1 ⟨rfl, hx1⟩; have HV1 := Lib.hid (show Vi W.heap.size w1 _ _ from HV.out.ext hx1); have HB1 := Lib.hid (ext_trans HB.out hx1); clear hx1)
        go_roundg (N - (k + 1))
        case measure => have := HG.out; omega
        case rel => exact ⟨k + 1, by go_num, by omega, rfl, by rw [HE.out]; exact HV1.out, HB1.out⟩
    · obtain rfl : k = N := by omega
      go_wp2
      go_ret
      exact ⟨A, cap, rfl, k1, k2, HI.out, HB.out⟩

theorem pk_app {α : Type} (f : Nat → Bool) : ∀ (l : List α) (a : α) (k : Nat), pk f (l ++ [a]) k = pk f l k ++ if f (k + l.length) then [a] else []
  | [], a, k => by simp [pk]
  | b :: l, a, k => by
    have ih := pk_app f l a (k + 1)
    simp only [List.cons_append, pk, List.length_cons]
    rw [ih, show k + 1 + l.length = k + (l.length + 1) by omega]
    split <;> simp
theorem pk_take {α : Type} (f : Nat → Bool) (l : List α) {k : Nat} (h : k < l.length) : pk f (l.take (k + 1)) 0 = pk f (l.take k) 0 ++ if f k then [l[k]] else [] := by
  rw [List.take_succ_eq_append_getElem h, pk_app]
  rw [List.length_take, Nat.zero_add, Nat.min_eq_left (by omega)]
theorem pk_len {α : Type} (f : Nat → Bool) (l : List α) (k : Nat) : (pk f l k).length ≤ l.length := (sub_pk f l k).length_le
section
variable (X : World) (T1 T2 T3 T4 : TypeId) (c1 c2 c3 c4 : Array Value)
theorem four1 : Bk T1 ((((X.alloc (.cells c1 T1)).alloc (.cells c2 T2)).alloc (.cells c3 T3)).alloc (.cells c4 T4)).drew X.heap.size c1 := ((((Bk.new T1 X c1).alloc _).alloc _).alloc _).ext (ext_drew _)
theorem four2 : Bk T2 ((((X.alloc (.cells c1 T1)).alloc (.cells c2 T2)).alloc (.cells c3 T3)).alloc (.cells c4 T4)).drew (X.heap.size + 1) c2 := by
  have h := Bk.new T2 (X.alloc (.cells c1 T1)) c2
  rw [World.size_alloc] at h
  exact ((h.alloc _).alloc _).ext (ext_drew _)
theorem four3 : Bk T3 ((((X.alloc (.cells c1 T1)).alloc (.cells c2 T2)).alloc (.cells c3 T3)).alloc (.cells c4 T4)).drew (X.heap.size + 1 + 1) c3 := by
  have h := Bk.new T3 ((X.alloc (.cells c1 T1)).alloc (.cells c2 T2)) c3
  rw [World.size_alloc, World.size_alloc] at h
  exact (h.alloc _).ext (ext_drew _)
theorem four4 : Bk T4 ((((X.alloc (.cells c1 T1)).alloc (.cells c2 T2)).alloc (.cells c3 T3)).alloc (.cells c4 T4)).drew (X.heap.size + 1 + 1 + 1) c4 := by
  have h := Bk.new T4 (((X.alloc (.cells c1 T1)).alloc (.cells c2 T2)).alloc (.cells c3 T3)) c4
  rw [World.size_alloc, World.size_alloc, World.size_alloc] at h
  exact h.ext (ext_drew _)
theorem four5 : Below X.heap.size X ((((X.alloc (.cells c1 T1)).alloc (.cells c2 T2)).alloc (.cells c3 T3)).alloc (.cells c4 T4)).drew := ext_trans (ext_trans (ext_trans (ext_trans (ext_alloc X _) (ext_alloc _ _)) (ext_alloc _ _)) (ext_alloc _ _)) (ext_drew _)
end
theorem info_bool1 : (Tryd.prog.info? 4).map (fun i => (i.zero, i.size, i.bytes)) = some (some (.bool false), 1, 1) := by kernel_rfl
theorem made_cellsB (n : Nat) : madeCells #[Value.bool false] n = cellsB n fun _ => false := by
  apply Array.ext'
  rw [toList_madeCells_one]
  simp [cellsB]
  apply List.ext_getElem <;> simp
theorem run_falses1 (n : Nat) (h : n ≤ 1000000) (W : World) : (Instr.makeSlice 58 (.int .i64 (n : Int)) (.int .i64 (n : Int))).run Tryd.prog W = .ok (.slice (some ⟨W.heap.size, 0, none⟩) n n) (W.alloc (.cells (cellsB n fun _ => false) 4)) := by
  obtain ⟨i, hi, hz, hsz, hby⟩ := info_parts info_bool1
  have hr := run_make (P := Tryd.prog) W 58 4 i (.bool false) Tryd.underlying58 hi hz .i64 .i64 n n (by omega) (by omega) (by rw [hby]; omega) (by omega)
  rw [hr, hsz, Nat.mul_one, Int.toNat_natCast]
  rw [show (Value.bool false).cells = #[Value.bool false] from rfl, made_cellsB]
end Go.Proofs.YtmgofdgbenfjmaaDoor
