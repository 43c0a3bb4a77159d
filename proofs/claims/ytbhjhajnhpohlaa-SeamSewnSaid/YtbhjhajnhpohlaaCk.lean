/- slices.Chunk at ints, by two: its closure's contract for a range over it. Conditions: an even number of ints. -/
import Derived.Test.YtbhjhajnhpohlaaRfW
namespace Go.Proofs.Ytbhjhajnhpohlaa
open Go.RowKit Go.Shelf
attribute [local go_sem] Oper.semAt_some

/-- blocks p and q lie as they lay -/
def KpB (p q : Nat) (W W' : World) : Prop := W'.heap[p]? = W.heap[p]? ∧ W'.heap[q]? = W.heap[q]?
theorem KpB.t {p q : Nat} {A B C : World} (h : KpB p q A B) (k : KpB p q B C) : KpB p q A C := ⟨k.1.trans h.1, k.2.trans h.2⟩
theorem KpB.b {p q : Nat} {w : World} (hp : p < w.heap.size) (hq : q < w.heap.size) (W : World) (l : Nat) (o o' : Obj) (hl : w.heap.size ≤ l) (_ : W.heap[l]? = some o) (_ : o.isCells = false) (_ : o.isWalk = false) : KpB p q W (W.putObj l o') :=
  ⟨World.putObj_heap_other (by omega), World.putObj_heap_other (by omega)⟩
theorem grown_drewN (W : World) (n : Nat) : W.grownBy (W.drewN n) none := ⟨rfl, rfl, rfl, Nat.le_refl _, fun _ _ _ => rfl⟩
theorem cell_of_heap {W W' : World} {p : Nat} {i : Nat} (h : W'.heap[p]? = W.heap[p]?) : W'.cell? ⟨p, i, none⟩ = W.cell? ⟨p, i, none⟩ := by
  unfold World.cell?
  rw [h]
theorem enters95 : Enters 95 := fun _ _ => by kernel_rfl
/-- the first m of a kind -/
def firstN (e : List Int) : (m : Nat) → 2 * m ≤ e.length → List { i : Nat // 2 * i + 1 < e.length }
  | 0, _ => []
  | m + 1, h => firstN e m (by omega) ++ [⟨m, by omega⟩]
theorem firstN_len (e : List Int) : ∀ m h, (firstN e m h).length = m
  | 0, _ => rfl
  | m + 1, h => by unfold firstN; rw [List.length_append, firstN_len e m]; rfl

set_option maxRecDepth 100000 in
set_option maxHeartbeats 2000000 in
theorem chunk1_in (n : Nat) (l b2 b3 b off cap : Nat) (A : Option Addr) (e : List Int) (hc : e.length ≤ cap) (hcm : cap ≤ 9223372036854775807) (hl : e.length ≤ 16) (hev : e.length % 2 = 0) (hA : e = [] ∨ A = some ⟨b, off, none⟩)
    (J Jx : List { i : Nat // 2 * i + 1 < e.length } → World → Prop) (W : World) (hJ : AbidesFrom W.heap.size J)
    (hY : ∀ pre x W1, J pre W1 → pre.length < e.length / 2 → YieldAt Fence.wide (n - 1) Try.prog l #[.slice (some ⟨b, off + 2 * x.1, none⟩) 2 2] W1 fun e' W' =>
      (e' = .returned (.bool true) ∧ J (pre ++ [x]) W' ∧ KpB b2 b3 W1 W') ∨ (e' = .returned (.bool false) ∧ Jx (pre ++ [x]) W'))
    (c2 : W.cell? ⟨b2, 0, none⟩ = some (.slice A e.length cap)) (c3 : W.cell? ⟨b3, 0, none⟩ = some (.int .i64 2)) (h0 : J [] W) :
    CallsIn Fence.wide n Try.prog 95 #[.func (.yield l) #[] #[], .pointer (some ⟨b2, 0, none⟩), .pointer (some ⟨b3, 0, none⟩)] W fun e' W' => (∃ v, e' = .returned v) ∧
      ((∃ xs, (∃ h, xs = firstN e (e.length / 2) h) ∧ J xs W') ∨ (∃ pre, True ∧ Jx pre W')) := by
  refine callsIn_of_wp Try.func95 rfl trivial ?_ rfl
  simp only [Try.ntmps95, List.size_toArray, List.length_cons, List.length_nil, Nat.reduceAdd, Nat.reduceSub, Array.replicate_succ, Array.replicate_zero, List.push_toArray, List.append_toArray, List.nil_append, List.cons_append]
  gi_wp2
  gi_loopw [4] (fun i wr => ∃ (k : Nat) (h : 2 * k ≤ e.length), i = .int .i64 ((2 * k : Nat) : Int) ∧ J (firstN e k h) wr ∧ KpB b2 b3 W wr)
    (fun i _ => e.length - (intOf i).toNat)
  case atStart => exact ⟨0, by omega, rfl, h0, rfl, rfl⟩
  case round =>
    obtain ⟨k, hk, rfl, hJs, hkp⟩ := hrel
    have d2 := (cell_of_heap (i := 0) hkp.1).trans c2
    have d3 := (cell_of_heap (i := 0) hkp.2).trans c3
    by_cases hlt : 2 * k < e.length
    · obtain rfl : A = some ⟨b, off, none⟩ := by
        rcases hA with hA | hA
        · rw [hA] at hlt; simp at hlt
        · exact hA
      have i1 : (0 : Int) ≤ ((2 * k : Nat) : Int) := by omega
      have i2 : ((2 * k : Nat) : Int) ≤ (e.length : Int) := by omega
      have i3 : ((2 * k : Nat) : Int) ≤ (cap : Int) := by omega
      have i4 : ¬ cap = 2 * k := by omega
      have HJ := Lib.hid hJs
      have HK := Lib.hid hk
      gi_wp2
      refine wpIn_wide.2 ?_
      go_quiet (fail)
      have HJ2 := Lib.hid (hJ _ _ _ none HJ.out (grown_drewN wr nq) (fun r h => by cases h))
      obtain ⟨fn, tmps, assign, body, hy, hR⟩ := hY _ ⟨k, by omega⟩ (wr.drewN nq) HJ2.out (by rw [firstN_len]; omega)
      dsimp only at hy hR
      have i5 : ((2 * k : Nat) : Int) + 2 ≤ (e.length : Int) := by omega
      have i6 : ((2 * k : Nat) : Int) + 2 ≤ (cap : Int) := by omega
      clear HJ2 hJs
      gi_wp2
      refine ⟨fun h => (by cases h), hR.mono ?_⟩
      rintro e2 W3 (⟨rfl, hJ3, hk3⟩ | ⟨rfl, hJx3⟩)
      · have HJ3 := Lib.hid hJ3
        have HK3 := Lib.hid hk3
        clear hJ3 hk3 hy hR hY
        have d4 := (cell_of_heap (i := 0) HK3.out.2).trans (show (wr.drewN nq).cell? ⟨b3, 0, none⟩ = some (.int .i64 2) from d3)
        gi_wp2
        go_roundw
        case rel => exact ⟨k + 1, by omega, by go_num, HJ3.out, HK3.out.1.trans hkp.1, HK3.out.2.trans hkp.2⟩
        case measure => simp [intOf]; omega
      · gi_wp2
        refine bodyPost_ret (results_none rfl _ _ _) rfl ?_
        exact ⟨⟨_, rfl⟩, .inr ⟨_, trivial, hJx3⟩⟩
    · obtain rfl : k = e.length / 2 := by omega
      have HJ := Lib.hid hJs
      clear hJs
      gi_wp2
      go_end0
      exact ⟨⟨_, rfl⟩, .inl ⟨_, ⟨hk, rfl⟩, HJ.out⟩⟩
/-- a slice of an even number of ints, by two -/
theorem chunk1_stops (n : Nat) (b2 b3 b off cap : Nat) (A : Option Addr) (e : List Int) (w : World) (h2 : b2 < w.heap.size) (h3 : b3 < w.heap.size) (hc : e.length ≤ cap) (hcm : cap ≤ 9223372036854775807) (hl : e.length ≤ 16) (hev : e.length % 2 = 0) (hA : e = [] ∨ A = some ⟨b, off, none⟩)
    (c2 : w.cell? ⟨b2, 0, none⟩ = some (.slice A e.length cap)) (c3 : w.cell? ⟨b3, 0, none⟩ = some (.int .i64 2)) :
    SeqStopsK Fence.wide n Try.prog 95 #[.pointer (some ⟨b2, 0, none⟩), .pointer (some ⟨b3, 0, none⟩)] (fun x : { i : Nat // 2 * i + 1 < e.length } => #[.slice (some ⟨b, off + 2 * x.1, none⟩) 2 2]) (KpB b2 b3) (fun xs => ∃ h, xs = firstN e (e.length / 2) h) (fun _ => True) (e.length / 2) w :=
  fun l J Jx W hW hJ _ hY h0 => chunk1_in n l b2 b3 b off cap A e hc hcm hl hev hA J Jx W hJ hY ((hW.cell (p := ⟨b2, 0, none⟩) h2).trans c2) ((hW.cell (p := ⟨b3, 0, none⟩) h3).trans c3) h0
set_option maxHeartbeats 1000000 in
/-- slices.Chunk(e, 2): the slice and the number are boxed; the closure captures the boxes -/
theorem chunk_any (A : Option Addr) (len cap : Nat) (w : World) :
    Calls Try.prog 88 #[.slice A len cap, .int .i64 2] w fun e w' => e = .returned (.func (.func 95) #[] #[.pointer (some ⟨w.heap.size, 0, none⟩), .pointer (some ⟨w.heap.size + 1, 0, none⟩)]) ∧ w' = (w.alloc (.cells #[.slice A len cap] 35)).alloc (.cells #[.int .i64 2] 3) := by
  go_enter Try.func88, Try.ntmps88
  go_wp2
  go_ret
  exact ⟨rfl, rfl⟩
end Go.Proofs.Ytbhjhajnhpohlaa
