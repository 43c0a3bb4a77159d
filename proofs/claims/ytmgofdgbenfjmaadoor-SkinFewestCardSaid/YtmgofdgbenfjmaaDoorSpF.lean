/- split's flood: by the plane's open and its closure. Conditions: the plane and its maps in memory. -/
import Derived.Test.YtmgofdgbenfjmaaDoorOpn
import Derived.Test.YtmgofdgbenfjmaaDoorFl2
import Derived.Test.YtmgofdgbenfjmaaDoorPs
import Derived.Test.YtmgofdgbenfjmaaDoorWa1
namespace Go.Proofs.YtmgofdgbenfjmaaDoor
open Go.RowKit

theorem But2.below2 {g h k : Nat} {w w' X : World} (a : But2 g h X w) (b : But1 k w w') (hk : X.heap.size ≤ k) : But2 g h X w' := ⟨b.os.trans a.os, b.tape.trans a.tape, b.output.trans a.output, Nat.le_trans a.size b.size, fun i hi h1 h2 => (b.block i (Nat.lt_of_lt_of_le hi a.size) (by omega)).trans (a.block i hi h1 h2)⟩
set_option maxRecDepth 100000 in
set_option maxHeartbeats 4000000 in
theorem is_any (x y : Int) (b p1 : Nat) (l : List ByteArray) (g : Int) (m1 m2 : Value) (W : World) (h : PlW W b l g m1 m2) (hp : W.cell? ⟨p1, 0, none⟩ = some (.pointer (some ⟨b, 0, none⟩))) :
    Calls Tryd.prog 112 #[.agg #[.int .i64 x, .int .i64 y], .pointer (some ⟨p1, 0, none⟩)] W fun e w' => e = .returned (.bool (us l g x y)) ∧ Below W.heap.size W w' := by
  obtain ⟨p, q, hf, hu⟩ := h.use
  have hx1 := ext_alloc W (.cells #[.int .i64 x, .int .i64 y] 71)
  have HB := Lib.hid (Bk.new 71 W #[.int .i64 x, .int .i64 y])
  have hlb : b < W.heap.size := World.block_lt_of_cell? W ⟨b, 2, none⟩ hf
  have hf2 := (hx1.cell (p := ⟨b, 2, none⟩) hlb).trans hf
  have hp2 := (hx1.cell (p := ⟨p1, 0, none⟩) (World.block_lt_of_cell? W ⟨p1, 0, none⟩ hp)).trans hp
  obtain ⟨z, hz⟩ : ∃ z, z = us l g x y := ⟨_, rfl⟩
  have H2 := Lib.hid (fun V hV => hu x y V hV)
  rw [← hz] at H2 ⊢
  have HX := Lib.hid hx1
  clear hz hu hf hx1 h hp
  go_enter Tryd.func112, Tryd.ntmps112
  go_upto_region 1 with (fail)
  obtain ⟨X, hX⟩ : ∃ X, X = W.alloc (.cells #[.int .i64 x, .int .i64 y] 71) := ⟨_, rfl⟩
  rw [← hX] at hf2 hp2 HB HX ⊢
  have hlb2 : b < X.heap.size := Nat.lt_of_lt_of_le hlb HX.out.size
  clear hX
  obtain ⟨f1, f2, f3⟩ := HB.out.facts
  go_quiet ((go_at_call_of 70 (Value.int .i64 y); exact Calls.quiet_of (H2.out _ (ext_trans HX.out (by first | exact ext_drewN _ _ | exact Below.refl _ _)))))
  go_wp2
  go_ret
  exact ⟨rfl, ext_trans HX.out (ext_drewN _ _)⟩
set_option maxRecDepth 100000 in
theorem spl_flood (b : Nat) (l : List ByteArray) (g : Int) (b1 b2 mk p1 : Nat) (fa fb : Cel → Bool) (X V : World) (S : List Cel) (hP : PlQ X b l g b1 b2) (hp1 : X.cell? ⟨p1, 0, none⟩ = some (.pointer (some ⟨b, 0, none⟩))) (hne : p1 ≠ b1 ∧ p1 ≠ b2) (hX : But2 b1 b2 X V) (hA : Mf b1 fa V) (hB : Mf b2 fb V) (hm : Mp mk S V) (hmk : X.heap.size ≤ mk) (hbb : b1 < X.heap.size ∧ b2 < X.heap.size)
    (x y : Int) (hn : (x, y) ∉ S) (hu : us l g x y = true) (hg : 1 ≤ g) :
    Calls Tryd.prog 47 #[.agg #[.int .i64 x, .int .i64 y], .map (some mk), .func (.func 111) #[.pointer (some ⟨b, 0, none⟩)] #[], .func (.func 112) #[] #[.pointer (some ⟨p1, 0, none⟩)]] V (RetFl mk V (fld (openL fa fb) (fun c => us l g c.1 c.2) 3000 S (x, y))) := by
  have hr := us_in hP.ok hg hu
  have h1 : wid l ≤ 48 := hP.ok.2.2.2.1
  have h2 : l.length ≤ 48 := hP.ok.2.1
  have hin : ∀ c, c ∈ (x, y) :: boxCells (grid l) → 0 ≤ c.1 ∧ c.1 ≤ 47 ∧ 0 ≤ c.2 ∧ c.2 ≤ 47 := fun c hc => by
    rcases List.mem_cons.1 hc with rfl | hc
    · exact ⟨by omega, by omega, by omega, by omega⟩
    · have := mem_box.1 hc
      unfold grid at this
      dsimp only at this
      omega
  refine flood2_any x y S mk 111 112 b #[.pointer (some ⟨p1, 0, none⟩)] (openL fa fb) (fun c => us l g c.1 c.2) (boxCells (grid l)) 3000 V hm hn ⟨⟨by show -9223372036854775808 ≤ x; omega, by show x ≤ 9223372036854775807; omega⟩, ⟨by show -9223372036854775808 ≤ y; omega, by show y ≤ 9223372036854775807; omega⟩⟩ (fun _ _ => rfl) (fun _ _ => rfl) (fun W' hb x' y' hmem => ?_) (fun W' hb x' y' _ => ?_) (fun c hc => usb_grid hg hc) (fun c hc d hd => ?_) (by have := grid_len hP.ok; omega) (by omega) (fun c => ?_)
  · have hr2 := hin _ hmem
    dsimp only at hr2
    exact open_any b l g b1 b2 fa fb x' y' W' (hP.but (hX.below2 hb hmk)) (hA.keep (hb.block b1 hA.lt (by omega))) (hB.keep (hb.block b2 hB.lt (by omega))) ⟨by omega, by omega⟩ ⟨by omega, by omega⟩
  · have hX2 := hX.below2 hb hmk
    exact is_any x' y' b p1 l g _ _ W' (hP.but hX2).plw (hX2.cell hp1 hne.1 hne.2)
  · have hc2 := hin _ hc
    have hd2 := (List.mem_filter.1 hd).1
    simp only [sidesL, List.mem_cons, List.not_mem_nil, or_false] at hd2
    rcases hd2 with rfl | rfl | rfl | rfl <;> exact ⟨by dsimp only; omega, by dsimp only; omega, by dsimp only; omega, by dsimp only; omega⟩
  · unfold openL
    refine Nat.le_trans (List.length_filter_le _ _) (show (4 : Nat) ≤ 8 by decide)
end Go.Proofs.YtmgofdgbenfjmaaDoor
