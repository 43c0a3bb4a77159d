/- The disk walked: at, spend, Clear, Append, Sync, Read, NewDisk. Conditions: a disk with power whose second area is empty. -/
import Derived.Test.YtjadbipbidghdaaGreatDoorHa
import Derived.Deep.CutBlock
namespace Go.Proofs.YtjadbipbidghdaaGreatDoor
open Go.RowKit

/-- all blocks but those of S are as they were -/
structure Chg (S : Nat → Prop) (w w' : World) : Prop where
  os : w'.os = w.os
  tape : w'.tape = w.tape
  output : w'.output = w.output
  size : w.heap.size ≤ w'.heap.size
  block : ∀ k, k < w.heap.size → ¬ S k → w'.heap[k]? = w.heap[k]?
section
variable {S S' : Nat → Prop} {w w' w'' : World}
theorem Chg.refl (S : Nat → Prop) (w : World) : Chg S w w := ⟨rfl, rfl, rfl, Nat.le_refl _, fun _ _ _ => rfl⟩
theorem Chg.of (h : Below w.heap.size w w') : Chg S w w' := ⟨h.os, h.tape, h.output, h.size, fun k hk _ => h.block k hk⟩
theorem Chg.mono (h : Chg S w w') (hs : ∀ k, S k → S' k) : Chg S' w w' := ⟨h.os, h.tape, h.output, h.size, fun k hk hn => h.block k hk fun e => hn (hs k e)⟩
/-- changes of blocks that are new behind the first world do not count -/
theorem Chg.trans (h : Chg S w w') (h' : Chg S' w' w'') (hs : ∀ k, k < w.heap.size → S' k → S k) : Chg S w w'' :=
  ⟨h'.os.trans h.os, h'.tape.trans h.tape, h'.output.trans h.output, Nat.le_trans h.size h'.size, fun k hk hn => (h'.block k (Nat.lt_of_lt_of_le hk h.size) fun e => hn (hs k hk e)).trans (h.block k hk hn)⟩
theorem Chg.ext (h : Chg S w w') (h' : Below w'.heap.size w' w'') : Chg S w w'' := h.trans (Chg.of (S := S) h') fun _ _ e => e
theorem Chg.bk {T : TypeId} {b : Nat} {cs : Array Value} (h : Chg S w w') (hb : Bk T w b cs) (hn : ¬ S b) : Bk T w' b cs := (h.block b hb.lt hn).trans hb
theorem Chg.cell {b i : Nat} {v : Value} (h : Chg S w w') (hc : w.cell? ⟨b, i, none⟩ = some v) (hn : ¬ S b) : w'.cell? ⟨b, i, none⟩ = some v := by
  have e := h.block b (World.block_lt_of_cell? w ⟨b, i, none⟩ hc) hn
  rw [← hc]; unfold World.cell?; rw [e]
theorem Chg.below {B : Nat} (h : Chg S w w') (hB : B ≤ w.heap.size) (hn : ∀ k, k < B → ¬ S k) : Below B w w' := ⟨h.os, h.tape, h.output, h.size, fun k hk => h.block k (Nat.lt_of_lt_of_le hk hB) (hn k hk)⟩
theorem Chg.by_ {B : Nat} {v : Value} {n : Nat} (h : Chg S w w') (hb : By B w v n) (hn : ∀ k, v.ownBlock = some k → ¬ S k) : By B w' v n := by
  obtain ⟨xs, hb, hx⟩ := hb
  exact ⟨xs, own_keep hb fun k hk => h.block k (own_lt hb k hk).2 (hn k hk), hx⟩
theorem Chg.set (S : Nat → Prop) (w : World) {b j : Nat} (hb : S b) (v : Value) : Chg S w (w.setCell ⟨b, j, none⟩ v) := by
  have h := (Below.refl b w).setCell (p := ⟨b, j, none⟩) (Nat.le_refl _) v
  refine ⟨h.os, h.tape, h.output, h.size, fun k hk hn => ?_⟩
  exact Below.heap_setCell _ _ _ _ fun e => hn (by subst e; exact hb)
end
def dkC (v : Value) (s : Int) : Array Value := #[.bool false, .bool false, .int .i64 0, v, .int .i64 s, .slice none 0 0, .int .i64 0, .int .i64 1048576]
/-- the disk in its block -/
def Dk (w : World) (D : Nat) (v : Value) (s : Int) : Prop := Bk 160 w D (dkC v s)
set_option maxRecDepth 100000 in
set_option maxHeartbeats 4000000 in
theorem newdisk_any (w : World) : Calls Tryz.prog 71 #[.int .i64 1048576] w fun e w' => e = .returned (.tuple #[.pointer (some ⟨w.heap.size, 0, none⟩), .int .i64 0]) ∧ Dk w' w.heap.size (.slice none 0 0) 0 ∧ Below w.heap.size w w' := by
  have HX := Lib.hid (ext_alloc w (.cells (dkC (.slice none 0 0) 0) 160))
  have HB := Lib.hid (Bk.new 160 w (dkC (.slice none 0 0) 0))
  go_enter Tryz.func71, Tryz.ntmps71
  go_wp2
  refine bodyPost_ret (v := .tuple #[.pointer (some ⟨w.heap.size, 0, none⟩), .int .i64 0]) (by simp [results, Tryz.results71, go_sem]) rfl ?_
  exact ⟨rfl, HB.out, HX.out⟩
set_option maxRecDepth 100000 in
set_option maxHeartbeats 4000000 in
theorem at_any (D : Nat) (v : Value) (s : Int) (n : Nat) (hn : n ≤ 1) (w : World) (h : Dk w D v s) : Calls Tryz.prog 100 #[.pointer (some ⟨D, 0, none⟩), .int .i64 (n : Int)] w fun e w' => e = .returned (.tuple #[.pointer (some ⟨D, 3 + n * 2, none⟩), .int .i64 0]) ∧ w' = w := by
  unfold Dk dkC at h
  obtain ⟨f1, f2, f3⟩ := h.facts
  have hn0 : ¬ (n : Int) < 0 := by omega
  have hn1 : ¬ (1 : Int) < (n : Int) := by omega
  have hn2 : n < 2 := by omega
  clear h
  go_enter Tryz.func100, Tryz.ntmps100
  go_wp2
  refine bodyPost_ret (v := .tuple #[.pointer (some ⟨D, 3 + n * 2, none⟩), .int .i64 0]) (by simp [results, Tryz.results100, go_sem]) rfl ?_
  exact ⟨rfl, rfl⟩
set_option maxRecDepth 100000 in
set_option maxHeartbeats 4000000 in
theorem spend_any (D : Nat) (v : Value) (s : Int) (w : World) (h : Dk w D v s) : Calls Tryz.prog 101 #[.pointer (some ⟨D, 0, none⟩)] w fun e w' => e = .returned (.bool true) ∧ w' = w := by
  unfold Dk dkC at h
  obtain ⟨f1, f2, f3⟩ := h.facts
  clear h
  go_enter Tryz.func101, Tryz.ntmps101
  go_wp2
  go_ret
  exact ⟨rfl, rfl⟩
theorem Dk.set {w : World} {D : Nat} {v : Value} {s : Int} (h : Dk w D v s) (v' : Value) : Dk (w.setCell ⟨D, 3, none⟩ v') D v' s := Bk.set h 3 v'
theorem Dk.set4 {w : World} {D : Nat} {v : Value} {s : Int} (h : Dk w D v s) (s' : Int) : Dk (w.setCell ⟨D, 4, none⟩ (.int .i64 s')) D v s' := Bk.set h 4 _
set_option maxRecDepth 100000 in
set_option maxHeartbeats 4000000 in
theorem clear_any (D : Nat) (v : Value) (s : Int) (w : World) (h : Dk w D v s) : Calls Tryz.prog 108 #[.pointer (some ⟨D, 0, none⟩), .int .i64 0] w fun e w' => e = .returned (.int .i64 0) ∧ Dk w' D (.slice none 0 0) 0 ∧ Chg (· = D) w w' := by
  have HA := Lib.hid (at_any D v s 0 (by omega) w h)
  have HS := Lib.hid (spend_any D v s w h)
  have HD := Lib.hid ((Dk.set h (.slice none 0 0)).set4 0)
  have HC := Lib.hid ((Chg.set (· = D) w rfl (j := 3) (.slice none 0 0)).trans (Chg.set (· = D) (w.setCell ⟨D, 3, none⟩ (.slice none 0 0)) rfl (j := 4) (.int .i64 0)) fun _ _ e => e)
  unfold Dk dkC at h
  obtain ⟨f1, f2, f3⟩ := h.facts
  clear h
  go_enter Tryz.func108, Tryz.ntmps108
  go_wp2_with (first
    | (go_at_call 100; refine (HA.out).mono ?_; rintro e w1 ⟨rfl, rfl⟩)
    | (go_at_call 101; refine (HS.out).mono ?_; rintro e w2 ⟨rfl, rfl⟩))
  go_ret
  exact ⟨rfl, HD.out, HC.out⟩
set_option maxRecDepth 100000 in
set_option maxHeartbeats 4000000 in
theorem sync_any (D : Nat) (v : Value) (n : Nat) (s : Int) (B : Nat) (w : World) (h : Dk w D v s) (hb : By B w v n) : Calls Tryz.prog 56 #[.pointer (some ⟨D, 0, none⟩), .int .i64 0] w fun e w' => e = .returned (.int .i64 0) ∧ Dk w' D v (n : Int) ∧ Chg (· = D) w w' := by
  obtain ⟨A, c, rfl, _, _⟩ := hb.sl
  have HA := Lib.hid (at_any D _ s 0 (by omega) w h)
  have HS := Lib.hid (spend_any D _ s w h)
  have HD := Lib.hid (h.set4 (n : Int))
  have HC := Lib.hid (Chg.set (· = D) w rfl (j := 4) (.int .i64 (n : Int)))
  unfold Dk dkC at h
  obtain ⟨f1, f2, f3⟩ := h.facts
  clear h hb
  go_enter Tryz.func56, Tryz.ntmps56
  go_wp2_with (first
    | (go_at_call 100; refine (HA.out).mono ?_; rintro e w1 ⟨rfl, rfl⟩)
    | (go_at_call 101; refine (HS.out).mono ?_; rintro e w2 ⟨rfl, rfl⟩))
  go_ret
  exact ⟨rfl, HD.out, HC.out⟩
set_option maxRecDepth 100000 in
set_option maxHeartbeats 4000000 in
theorem appendD_any (D : Nat) (v : Value) (n : Nat) (s : Int) (B : Nat) (p : Value) (m B2 : Nat) (w : World) (h : Dk w D v s) (hb : By B w v n) (hB : B ≤ w.heap.size) (hp : Rd B2 w p m) (hn : n ≤ 100000) (hm : m ≤ 100000) :
    Calls Tryz.prog 53 #[.pointer (some ⟨D, 0, none⟩), .int .i64 0, p] w fun e w' => e = .returned (.int .i64 0) ∧ ∃ v', Dk w' D v' s ∧ By B w' v' (n + m) ∧ Chg (fun k => k = D ∨ v.ownBlock = some k) w w' := by
  obtain ⟨A, c, rfl, _, _⟩ := hb.sl
  obtain ⟨A1, c1, rfl⟩ : ∃ A1 c1, p = .slice A1 m c1 := by
    rcases hp with ⟨rfl, rfl⟩ | ⟨g, off, c, rfl, _⟩
    · exact ⟨none, 0, rfl⟩
    · exact ⟨_, c, rfl⟩
  have HA := Lib.hid (at_any D _ s 0 (by omega) w h)
  have HS := Lib.hid (spend_any D _ s w h)
  have HBY := Lib.hid hb
  have HP := Lib.hid hp
  have HDK := Lib.hid h
  unfold Dk dkC at h
  obtain ⟨f1, f2, f3⟩ := h.facts
  have hge : (m : Int) ≤ 1048576 - (n : Int) := by omega
  have hge2 : ¬ (1048576 - (n : Int)) < (m : Int) := by omega
  clear h hb hp
  go_enter Tryz.func53, Tryz.ntmps53
  go_upto_region 4 with (go_at_call 100; refine (HA.out).mono ?_; rintro e w1 ⟨rfl, rfl⟩)
  go_quiet (fail)
  have HDQ := Lib.hid (show Dk (w1.drewN nq) D (.slice A n c) s from Bk.ext HDK.out (ext_drewN _ _))
  have HBQ := Lib.hid (HBY.out.ext (ext_drewN w1 nq))
  have HPQ := Lib.hid (show Rd B2 (w1.drewN nq) (.slice A1 m c1) m from by
    rcases HP.out with k | ⟨g, off, c', k1, k2, k3, k4⟩
    · exact .inl k
    · exact .inr ⟨g, off, c', k1, k2, k3, k4⟩)
  have HCQ := Lib.hid (Chg.of (S := fun k => k = D ∨ (Value.slice A n c).ownBlock = some k) (ext_drewN w1 nq))
  have hBq : B ≤ (w1.drewN nq).heap.size := hB
  obtain ⟨V, hV⟩ : ∃ V, V = w1.drewN nq := ⟨_, rfl⟩
  rw [← hV] at HDQ HBQ HPQ HCQ hBq ⊢
  clear hV f1 f2 f3
  have HSQ := Lib.hid (spend_any D _ s V HDQ.out)
  have hdq := HDQ.out
  unfold Dk dkC at hdq
  obtain ⟨f1, f2, f3⟩ := hdq.facts
  clear hdq
  go_upto_region 8 with (go_at_call 101; refine (HSQ.out).mono ?_; rintro e w2 ⟨rfl, rfl⟩)
  have HFR := Lib.hid (show ∀ k, (Value.slice A n c).ownBlock = some k → k ≠ D from fun k hk e => by
    obtain ⟨xs, hx, _⟩ := HBQ.out
    exact own_ne hx HDQ.out (by decide) (by rw [← e]; exact hk.symm))
  go_wp2_with (at_builtin; refine wpList_app _ rfl _ _ rfl B B2 HBQ.out (by rfl) HPQ.out (by rfl) (by omega) (by omega) hBq ?_; intro v5 w5 hv5 hb5 hk5; obtain ⟨A5, c5, hv5e, _, _⟩ := hv5.sl; subst hv5e; have HV5 := Lib.hid hv5; have HB5 := Lib.hid hb5; have HK5 := Lib.hid hk5; have HD5 := Lib.hid (show Dk w5 D (.slice A n c) s from (hk5 D (by exact HDQ.out.lt) (fun e => HFR.out D e rfl)).trans HDQ.out); have hd5 := HD5.out; unfold Dk dkC at hd5; obtain ⟨g1, g2, g3⟩ := hd5.facts; clear hd5 hv5 hb5 hk5)
  go_ret
  have hne : ∀ k, (Value.slice A5 (n + m) c5).ownBlock = some k → k ≠ D := fun k hk e => by
    obtain ⟨xs, hx, _⟩ := HV5.out
    exact own_ne hx HD5.out (by decide) (by rw [← e]; exact hk.symm)
  have hc := Chg.set (· = D) w5 rfl (j := 3) (.slice A5 (n + m) c5)
  refine ⟨rfl, .slice A5 (n + m) c5, HD5.out.set _, hc.by_ HV5.out (fun k hk => hne k hk), HCQ.out.trans (Chg.trans (S := fun k => k = D ∨ (Value.slice A n c).ownBlock = some k) ⟨HB5.out.os, HB5.out.tape, HB5.out.output, HB5.out.size, fun k hk hn => HK5.out k hk fun e => hn (.inr e)⟩ hc fun k _ e => .inl e) fun k _ e => e⟩
set_option maxRecDepth 100000 in
set_option maxHeartbeats 4000000 in
theorem nil_nil (W : World) : (binOp .eql 47 (.slice none 0 0) (.slice none 0 0)).run Tryz.prog W = .ok (.bool true) W := by kernel_rfl
set_option maxRecDepth 100000 in
set_option maxHeartbeats 4000000 in
theorem clone0_any (w : World) : Calls Tryz.prog 57 #[.slice none 0 0] w fun e w' => e = .returned (.slice none 0 0) ∧ w' = w := by
  have hnn := nil_nil
  go_enter Tryz.func57, Tryz.ntmps57
  go_wp2
  go_ret
  exact ⟨rfl, rfl⟩
set_option maxRecDepth 100000 in
set_option maxHeartbeats 4000000 in
theorem read0_any (D : Nat) (s : Int) (w : World) (h : Dk w D (.slice none 0 0) s) : Calls Tryz.prog 65 #[.pointer (some ⟨D, 0, none⟩), .int .i64 0] w fun e w' => e = .returned (.tuple #[.slice none 0 0, .int .i64 0]) ∧ w' = w := by
  have HA := Lib.hid (at_any D _ s 0 (by omega) w h)
  have HC := Lib.hid (clone0_any w)
  unfold Dk dkC at h
  obtain ⟨f1, f2, f3⟩ := h.facts
  clear h
  go_enter Tryz.func65, Tryz.ntmps65
  go_wp2_with (first
    | (go_at_call 100; refine (HA.out).mono ?_; rintro e w1 ⟨rfl, rfl⟩)
    | (go_at_call 57; refine (HC.out).mono ?_; rintro e w2 ⟨rfl, rfl⟩))
  refine bodyPost_ret (v := .tuple #[.slice none 0 0, .int .i64 0]) (by simp [results, Tryz.results65, go_sem]) rfl ?_
  exact ⟨rfl, rfl⟩
set_option maxRecDepth 100000 in
set_option maxHeartbeats 4000000 in
theorem read1_any (D : Nat) (s : Int) (w : World) (h : Dk w D (.slice none 0 0) s) : Calls Tryz.prog 65 #[.pointer (some ⟨D, 0, none⟩), .int .i64 1] w fun e w' => e = .returned (.tuple #[.slice none 0 0, .int .i64 0]) ∧ w' = w := by
  have HA := Lib.hid (at_any D _ s 1 (by omega) w h)
  have HC := Lib.hid (clone0_any w)
  unfold Dk dkC at h
  obtain ⟨f1, f2, f3⟩ := h.facts
  clear h
  go_enter Tryz.func65, Tryz.ntmps65
  go_wp2_with (first
    | (go_at_call 100; refine (HA.out).mono ?_; rintro e w1 ⟨rfl, rfl⟩)
    | (go_at_call 57; refine (HC.out).mono ?_; rintro e w2 ⟨rfl, rfl⟩))
  refine bodyPost_ret (v := .tuple #[.slice none 0 0, .int .i64 0]) (by simp [results, Tryz.results65, go_sem]) rfl ?_
  exact ⟨rfl, rfl⟩
set_option maxRecDepth 100000 in
set_option maxHeartbeats 4000000 in
theorem frames0_any (w : World) : Calls Tryz.prog 109 #[.slice none 0 0] w fun e w' => e = .returned (.tuple #[.slice none 0 0, .int .i64 0]) ∧ w' = w := by
  go_enter Tryz.func109, Tryz.ntmps109
  go_wp2_with (fail)
  go_loopg [0, 2] 1 (fun gg z v wr => z = .slice none 0 0 ∧ v = .slice none 0 0 ∧ gg = 1 ∧ wr = w)
  case atStart => exact ⟨rfl, rfl, rfl, rfl⟩
  case round =>
    obtain ⟨rfl, rfl, rfl, rfl⟩ := hrel
    have h8 : ¬ (8 : Int) ≤ ((0 : Nat) : Int) := by omega
    go_wp2
    refine bodyPost_ret (v := .tuple #[.slice none 0 0, .int .i64 0]) (by simp [results, Tryz.results109, go_sem]) rfl ?_
    exact ⟨rfl, rfl⟩
set_option maxRecDepth 100000 in
set_option maxHeartbeats 4000000 in
theorem sparse0_any (w : World) : Calls Tryz.prog 66 #[.slice none 0 0] w fun e w' => e = .returned (.tuple #[.agg #[.int .i64 0, .slice none 0 0, .slice none 0 0], .bool false, .bool false]) ∧ Below w.heap.size w w' := by
  have HX := Lib.hid (ext_alloc w (.cells #[.int .i64 0, .slice none 0 0, .slice none 0 0] 132))
  have HB := Lib.hid (Bk.new 132 w #[.int .i64 0, .slice none 0 0, .slice none 0 0])
  go_enter Tryz.func66, Tryz.ntmps66
  go_upto_region 1 with (fail)
  obtain ⟨X, hX⟩ : ∃ X, X = w.alloc (.cells #[.int .i64 0, .slice none 0 0, .slice none 0 0] 132) := ⟨_, rfl⟩
  obtain ⟨q, hq⟩ : ∃ q, q = w.heap.size := ⟨_, rfl⟩
  rw [← hX] at HX HB ⊢
  rw [← hq] at HB ⊢
  have hwq : w.heap.size ≤ q := by omega
  clear hX hq
  have HF := Lib.hid (frames0_any X)
  obtain ⟨f1, f2, f3⟩ := HB.out.facts
  have HW7 := Lib.hid (((HX.out.setCell (p := ⟨q, 0, none⟩) hwq (.int .i64 0)).setCell (p := ⟨q, 1, none⟩) hwq (.slice none 0 0)).setCell (p := ⟨q, 2, none⟩) hwq (.slice none 0 0))
  have HB7 := Lib.hid (((HB.out.set 0 (.int .i64 0)).set 1 (.slice none 0 0)).set 2 (.slice none 0 0))
  go_wp2_with (go_at_call 109; refine (HF.out).mono ?_; rintro e w1 ⟨rfl, rfl⟩)
  have c0 := HB7.out.cell 0
  have c1 := HB7.out.cell 1
  have c2 := HB7.out.cell 2
  simp only [List.setIfInBounds_toArray, List.set_cons_zero, List.set_cons_succ, List.getElem?_toArray, List.getElem?_cons_zero, List.getElem?_cons_succ] at c0 c1 c2
  refine bodyPost_ret (v := .tuple #[.agg #[.int .i64 0, .slice none 0 0, .slice none 0 0], .bool false, .bool false]) (by simp [results, Tryz.results66, go_sem, c0, c1, c2]) rfl ?_
  exact ⟨rfl, HW7.out⟩
end Go.Proofs.YtjadbipbidghdaaGreatDoor
