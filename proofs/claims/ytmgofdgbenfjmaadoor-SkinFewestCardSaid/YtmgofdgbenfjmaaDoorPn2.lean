/- The plane's concave walked. Conditions: a skin; the plane's cells laid. -/
import Derived.Test.YtmgofdgbenfjmaaDoorPl
import Derived.Test.YtmgofdgbenfjmaaDoorDv1
namespace Go.Proofs.YtmgofdgbenfjmaaDoor
open Go.RowKit

def bN : Bool → Nat
  | true => 1
  | false => 0
def c4 (z1 z2 z3 z4 : Bool) : Nat → Nat
  | 0 => 0
  | 1 => bN z1
  | 2 => bN z1 + bN z2
  | 3 => bN z1 + bN z2 + bN z3
  | _ => bN z1 + bN z2 + bN z3 + bN z4
theorem bN_le (z : Bool) : bN z ≤ 1 := by cases z <;> decide
theorem c4_le (z1 z2 z3 z4 : Bool) (k : Nat) : c4 z1 z2 z3 z4 k ≤ k := by
  have h1 := bN_le z1
  have h2 := bN_le z2
  have h3 := bN_le z3
  have h4 := bN_le z4
  match k with
  | 0 => exact Nat.le_refl _
  | 1 => exact h1
  | 2 => show bN z1 + bN z2 ≤ 2; omega
  | 3 => show bN z1 + bN z2 + bN z3 ≤ 3; omega
  | k + 4 => show bN z1 + bN z2 + bN z3 + bN z4 ≤ k + 4; omega
set_option maxRecDepth 100000 in
set_option maxHeartbeats 4000000 in
theorem concave_any (x y : Int) (b : Nat) (l : List ByteArray) (g : Int) (m1 m2 : Value) (W : World) (h : PlW W b l g m1 m2) (hx : -1000 ≤ x ∧ x ≤ 1000) (hy : -1000 ≤ y ∧ y ≤ 1000) :
    Calls Tryd.prog 105 #[.pointer (some ⟨b, 0, none⟩), .agg #[.int .i64 x, .int .i64 y]] W fun e w' => e = .returned (.bool (decide (c4 (us l g (x - 1) (y - 1)) (us l g x (y - 1)) (us l g (x - 1) y) (us l g x y) 4 = 3))) ∧ Below W.heap.size W w' := by
  obtain ⟨p, q, hf, hu⟩ := h.use
  have hx1 := ext_alloc W (.cells #[.int .i64 x, .int .i64 y] 71)
  have HB := Lib.hid (Bk.new 71 W #[.int .i64 x, .int .i64 y])
  have hlb : b < W.heap.size := World.block_lt_of_cell? W ⟨b, 2, none⟩ hf
  have HF := Lib.hid (fun V (hV : Below W.heap.size W V) => (hV.cell (p := ⟨b, 2, none⟩) hlb).trans hf)
  obtain ⟨hxa, hxb⟩ := hx
  obtain ⟨hya, hyb⟩ := hy
  obtain ⟨x1, hx1'⟩ : ∃ x1, x - 1 = x1 := ⟨_, rfl⟩
  obtain ⟨y1, hy1⟩ : ∃ y1, y - 1 = y1 := ⟨_, rfl⟩
  have hxw : IntKind.i64.wrap x1 = x1 := IntWalk.i64_in _ ⟨by omega, by omega⟩
  have hyw : IntKind.i64.wrap y1 = y1 := IntWalk.i64_in _ ⟨by omega, by omega⟩
  rw [hx1', hy1]
  have HU := Lib.hid hu
  have HX := Lib.hid hx1
  clear hu hf hx1 h
  go_enter Tryd.func105, Tryd.ntmps105
  go_upto_region 2 with (fail)
  obtain ⟨X, hX⟩ : ∃ X, X = W.alloc (.cells #[.int .i64 x, .int .i64 y] 71) := ⟨_, rfl⟩
  rw [← hX] at HB HX ⊢
  clear hX
  obtain ⟨f1, f2, f3⟩ := HB.out.facts
  have HB0 := Lib.hid (Below.refl X.heap.size X)
  go_wp2_with (fail)
  go_loopg [33, 5] 4 (fun gg z v wr => ∃ (k : Nat), z = .int .i64 k ∧ v = .int .i64 (c4 (us l g x1 y1) (us l g x y1) (us l g x1 y) (us l g x y) k : Nat) ∧ k ≤ 4 ∧ gg = 4 - k ∧ Below X.heap.size X wr)
  case atStart => exact ⟨0, rfl, rfl, by omega, rfl, HB0.out⟩
  case round =>
    obtain ⟨k, rfl, rfl, hk, hgg, hb⟩ := hrel
    have HG := Lib.hid hgg
    have HBX := Lib.hid hb
    have HFW := Lib.hid (HF.out wr (ext_trans HX.out hb))
    have HCW := Lib.hid (Bk.ext HB.out hb)
    clear hgg hb HB0 f1 f2 f3
    obtain ⟨V0, hV0⟩ : ∃ V0, V0 = wr := ⟨_, rfl⟩
    subst hV0
    obtain ⟨n, hn⟩ : ∃ n, n = c4 (us l g x1 y1) (us l g x y1) (us l g x1 y) (us l g x y) k := ⟨_, rfl⟩
    rw [← hn]
    have HN := Lib.hid hn
    have hnk : n ≤ k := by rw [hn]; exact c4_le _ _ _ _ k
    clear hn
    have hk5 : k = 0 ∨ k = 1 ∨ k = 2 ∨ k = 3 ∨ k = 4 := by omega
    rcases hk5 with rfl | rfl | rfl | rfl | rfl
    · have hI : ∀ V : World, (Instr.index 128 (.agg #[.int .i64 x1, .int .i64 y1, .int .i64 x, .int .i64 y1, .int .i64 x1, .int .i64 y, .int .i64 x, .int .i64 y]) (.int .i64 0)).run Tryd.prog V = .ok (.agg #[.int .i64 x1, .int .i64 y1]) V := fun V => by kernel_rfl
      have HB1 := Lib.hid (Bk.new 71 V0 #[.int .i64 x1, .int .i64 y1])
      have HX1 := Lib.hid (ext_trans HBX.out (ext_alloc V0 (.cells #[.int .i64 x1, .int .i64 y1] 71)))
      obtain ⟨z, hz⟩ : ∃ z, z = us l g x1 y1 := ⟨_, rfl⟩
      have H1 := Lib.hid (fun V hV => HU.out x1 y1 V hV)
      rw [← hz] at H1
      have HZ := Lib.hid (show c4 (us l g x1 y1) (us l g x y1) (us l g x1 y) (us l g x y) 1 = n + bN z from by rw [HN.out, hz]; first | rfl | simp [c4])
      clear hz
      go_upto_region 5 with (fail)
      obtain ⟨X1, hX1⟩ : ∃ X1, X1 = V0.alloc (.cells #[.int .i64 x1, .int .i64 y1] 71) := ⟨_, rfl⟩
      rw [← hX1] at HB1 HX1 ⊢
      clear hX1 hI
      have hf5 := HF.out X1 (ext_trans HX.out HX1.out)
      obtain ⟨q1, q2, q3⟩ := HB1.out.facts
      cases z with
      | true =>
        go_quiet ((go_at_call_of 70 (Value.int .i64 y1); exact Calls.quiet_of (H1.out _ (ext_trans HX.out (ext_trans HX1.out (by first | exact ext_drewN _ _ | exact Below.refl _ _))))))
        go_wp2
        go_roundg (4 - 1)
        case measure => have := HG.out; omega
        case rel => exact ⟨1, by go_num, by rw [HZ.out]; simp only [bN]; go_num, by omega, rfl, ext_trans HX1.out (ext_drewN _ _)⟩
      | false =>
        go_quiet ((go_at_call_of 70 (Value.int .i64 y1); exact Calls.quiet_of (H1.out _ (ext_trans HX.out (ext_trans HX1.out (by first | exact ext_drewN _ _ | exact Below.refl _ _))))))
        go_wp2
        go_roundg (4 - 1)
        case measure => have := HG.out; omega
        case rel => exact ⟨1, by go_num, by rw [HZ.out]; simp only [bN]; go_num, by omega, rfl, ext_trans HX1.out (ext_drewN _ _)⟩
    · have hI : ∀ V : World, (Instr.index 128 (.agg #[.int .i64 x1, .int .i64 y1, .int .i64 x, .int .i64 y1, .int .i64 x1, .int .i64 y, .int .i64 x, .int .i64 y]) (.int .i64 1)).run Tryd.prog V = .ok (.agg #[.int .i64 x, .int .i64 y1]) V := fun V => by kernel_rfl
      have HB1 := Lib.hid (Bk.new 71 V0 #[.int .i64 x, .int .i64 y1])
      have HX1 := Lib.hid (ext_trans HBX.out (ext_alloc V0 (.cells #[.int .i64 x, .int .i64 y1] 71)))
      obtain ⟨z, hz⟩ : ∃ z, z = us l g x y1 := ⟨_, rfl⟩
      have H1 := Lib.hid (fun V hV => HU.out x y1 V hV)
      rw [← hz] at H1
      have HZ := Lib.hid (show c4 (us l g x1 y1) (us l g x y1) (us l g x1 y) (us l g x y) 2 = n + bN z from by rw [HN.out, hz]; first | rfl | simp [c4])
      clear hz
      go_upto_region 5 with (fail)
      obtain ⟨X1, hX1⟩ : ∃ X1, X1 = V0.alloc (.cells #[.int .i64 x, .int .i64 y1] 71) := ⟨_, rfl⟩
      rw [← hX1] at HB1 HX1 ⊢
      clear hX1 hI
      have hf5 := HF.out X1 (ext_trans HX.out HX1.out)
      obtain ⟨q1, q2, q3⟩ := HB1.out.facts
      cases z with
      | true =>
        go_quiet ((go_at_call_of 70 (Value.int .i64 y1); exact Calls.quiet_of (H1.out _ (ext_trans HX.out (ext_trans HX1.out (by first | exact ext_drewN _ _ | exact Below.refl _ _))))))
        go_wp2
        go_roundg (4 - 2)
        case measure => have := HG.out; omega
        case rel => exact ⟨2, by go_num, by rw [HZ.out]; simp only [bN]; go_num, by omega, rfl, ext_trans HX1.out (ext_drewN _ _)⟩
      | false =>
        go_quiet ((go_at_call_of 70 (Value.int .i64 y1); exact Calls.quiet_of (H1.out _ (ext_trans HX.out (ext_trans HX1.out (by first | exact ext_drewN _ _ | exact Below.refl _ _))))))
        go_wp2
        go_roundg (4 - 2)
        case measure => have := HG.out; omega
        case rel => exact ⟨2, by go_num, by rw [HZ.out]; simp only [bN]; go_num, by omega, rfl, ext_trans HX1.out (ext_drewN _ _)⟩
    · have hI : ∀ V : World, (Instr.index 128 (.agg #[.int .i64 x1, .int .i64 y1, .int .i64 x, .int .i64 y1, .int .i64 x1, .int .i64 y, .int .i64 x, .int .i64 y]) (.int .i64 2)).run Tryd.prog V = .ok (.agg #[.int .i64 x1, .int .i64 y]) V := fun V => by kernel_rfl
      have HB1 := Lib.hid (Bk.new 71 V0 #[.int .i64 x1, .int .i64 y])
      have HX1 := Lib.hid (ext_trans HBX.out (ext_alloc V0 (.cells #[.int .i64 x1, .int .i64 y] 71)))
      obtain ⟨z, hz⟩ : ∃ z, z = us l g x1 y := ⟨_, rfl⟩
      have H1 := Lib.hid (fun V hV => HU.out x1 y V hV)
      rw [← hz] at H1
      have HZ := Lib.hid (show c4 (us l g x1 y1) (us l g x y1) (us l g x1 y) (us l g x y) 3 = n + bN z from by rw [HN.out, hz]; first | rfl | simp [c4])
      clear hz
      go_upto_region 5 with (fail)
      obtain ⟨X1, hX1⟩ : ∃ X1, X1 = V0.alloc (.cells #[.int .i64 x1, .int .i64 y] 71) := ⟨_, rfl⟩
      rw [← hX1] at HB1 HX1 ⊢
      clear hX1 hI
      have hf5 := HF.out X1 (ext_trans HX.out HX1.out)
      obtain ⟨q1, q2, q3⟩ := HB1.out.facts
      cases z with
      | true =>
        go_quiet ((go_at_call_of 70 (Value.int .i64 y); exact Calls.quiet_of (H1.out _ (ext_trans HX.out (ext_trans HX1.out (by first | exact ext_drewN _ _ | exact Below.refl _ _))))))
        go_wp2
        go_roundg (4 - 3)
        case measure => have := HG.out; omega
        case rel => exact ⟨3, by go_num, by rw [HZ.out]; simp only [bN]; go_num, by omega, rfl, ext_trans HX1.out (ext_drewN _ _)⟩
      | false =>
        go_quiet ((go_at_call_of 70 (Value.int .i64 y); exact Calls.quiet_of (H1.out _ (ext_trans HX.out (ext_trans HX1.out (by first | exact ext_drewN _ _ | exact Below.refl _ _))))))
        go_wp2
        go_roundg (4 - 3)
        case measure => have := HG.out; omega
        case rel => exact ⟨3, by go_num, by rw [HZ.out]; simp only [bN]; go_num, by omega, rfl, ext_trans HX1.out (ext_drewN _ _)⟩
    · have hI : ∀ V : World, (Instr.index 128 (.agg #[.int .i64 x1, .int .i64 y1, .int .i64 x, .int .i64 y1, .int .i64 x1, .int .i64 y, .int .i64 x, .int .i64 y]) (.int .i64 3)).run Tryd.prog V = .ok (.agg #[.int .i64 x, .int .i64 y]) V := fun V => by kernel_rfl
      have HB1 := Lib.hid (Bk.new 71 V0 #[.int .i64 x, .int .i64 y])
      have HX1 := Lib.hid (ext_trans HBX.out (ext_alloc V0 (.cells #[.int .i64 x, .int .i64 y] 71)))
      obtain ⟨z, hz⟩ : ∃ z, z = us l g x y := ⟨_, rfl⟩
      have H1 := Lib.hid (fun V hV => HU.out x y V hV)
      rw [← hz] at H1
      have HZ := Lib.hid (show c4 (us l g x1 y1) (us l g x y1) (us l g x1 y) (us l g x y) 4 = n + bN z from by rw [HN.out, hz]; first | rfl | simp [c4])
      clear hz
      go_upto_region 5 with (fail)
      obtain ⟨X1, hX1⟩ : ∃ X1, X1 = V0.alloc (.cells #[.int .i64 x, .int .i64 y] 71) := ⟨_, rfl⟩
      rw [← hX1] at HB1 HX1 ⊢
      clear hX1 hI
      have hf5 := HF.out X1 (ext_trans HX.out HX1.out)
      obtain ⟨q1, q2, q3⟩ := HB1.out.facts
      cases z with
      | true =>
        go_quiet ((go_at_call_of 70 (Value.int .i64 y); exact Calls.quiet_of (H1.out _ (ext_trans HX.out (ext_trans HX1.out (by first | exact ext_drewN _ _ | exact Below.refl _ _))))))
        go_wp2
        go_roundg (4 - 4)
        case measure => have := HG.out; omega
        case rel => exact ⟨4, by go_num, by rw [HZ.out]; simp only [bN]; go_num, by omega, rfl, ext_trans HX1.out (ext_drewN _ _)⟩
      | false =>
        go_quiet ((go_at_call_of 70 (Value.int .i64 y); exact Calls.quiet_of (H1.out _ (ext_trans HX.out (ext_trans HX1.out (by first | exact ext_drewN _ _ | exact Below.refl _ _))))))
        go_wp2
        go_roundg (4 - 4)
        case measure => have := HG.out; omega
        case rel => exact ⟨4, by go_num, by rw [HZ.out]; simp only [bN]; go_num, by omega, rfl, ext_trans HX1.out (ext_drewN _ _)⟩
    · have HE := Lib.hid (show decide (c4 (us l g x1 y1) (us l g x y1) (us l g x1 y) (us l g x y) 4 = 3) = ((n : Int) == 3) from by rw [← HN.out, Bool.eq_iff_iff, decide_eq_true_iff, beq_iff_eq]; omega)
      go_wp2
      go_ret
      exact ⟨by rw [HE.out]; rfl, ext_trans HX.out HBX.out⟩
theorem c4_q3 (u : Int → Int → Bool) (x y : Int) : decide (c4 (u (x - 1) (y - 1)) (u x (y - 1)) (u (x - 1) y) (u x y) 4 = 3) = q3 u x y := by
  unfold q3
  generalize u (x - 1) (y - 1) = a
  generalize u x (y - 1) = b
  generalize u (x - 1) y = c
  generalize u x y = d
  revert a b c d; decide
theorem con_any (x y : Int) (b : Nat) (l : List ByteArray) (g : Int) (m1 m2 : Value) (W : World) (h : PlW W b l g m1 m2) (hx : -1000 ≤ x ∧ x ≤ 1000) (hy : -1000 ≤ y ∧ y ≤ 1000) :
    Calls Tryd.prog 105 #[.pointer (some ⟨b, 0, none⟩), .agg #[.int .i64 x, .int .i64 y]] W fun e w' => e = .returned (.bool (q3 (us l g) x y)) ∧ Below W.heap.size W w' := by
  rw [← c4_q3]
  exact concave_any x y b l g m1 m2 W h hx hy
end Go.Proofs.YtmgofdgbenfjmaaDoor
