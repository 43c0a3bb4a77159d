/- Texts joined: Aw, LNobody. Conditions: see each. -/
import Derived.Test.YtmgofdgbenfjmaaDoorPs
namespace Go.Proofs.YtmgofdgbenfjmaaDoor
open Go.RowKit

def ringL : List ByteArray := [⟨#[49, 49, 49]⟩, ⟨#[49, 48, 49]⟩, ⟨#[49, 49, 49]⟩]
theorem ring_ok : PsOk ringL 1 := ⟨by decide +kernel, by decide, by decide⟩
set_option maxRecDepth 100000 in
theorem ring_parts : partsL (usb ringL 1) (wid ringL) ringL.length 3000 = [⟨8, 16, 1, ⟨0, 0, 2, 2⟩⟩] := by kernel_rfl
set_option maxRecDepth 100000 in
set_option maxHeartbeats 4000000 in
theorem awake_any (w : World) : Calls Tryd.prog 14 #[] w fun e w' => e = .returned (.bool true) ∧ Below w.heap.size w w' := by
  have HP := Lib.hid (fun A W (h : TSl W A ringL) => (parts_any A 3 ringL 1 W (by decide) (by decide) h (by intro r hr; simp [ringL] at hr; rcases hr with rfl | rfl | rfl <;> decide)).mono (R' := fun e W' => Below W.heap.size W W' ∧ ∃ A cap, e = .returned (.tuple #[.slice A 1 cap, .int .i64 0]) ∧ PSl W' A [⟨8, 16, 1, ⟨0, 0, 2, 2⟩⟩]) fun e W' h => by
    obtain ⟨hb, ⟨hn, _⟩ | ⟨_, A', cap', he, _, _, hp⟩⟩ := h
    · exact absurd ring_ok hn
    · rw [ring_parts] at he hp
      exact ⟨hb, A', cap', he, hp⟩)
  have hb := Bk.new 9 w #[.string ⟨#[49, 49, 49]⟩, .string ⟨#[49, 48, 49]⟩, .string ⟨#[49, 49, 49]⟩]
  have HR := Lib.hid (show Calls Tryd.prog 52 #[] w fun e w' => ∃ A, e = .returned (.slice A 3 3) ∧ TSl w' A ringL ∧ Below w.heap.size w w' from by
    go_enter Tryd.func52, Tryd.ntmps52
    go_wp2
    go_ret
    refine ⟨_, rfl, .inr ⟨w.heap.size, 0, rfl, hb.lt, fun j hj => ?_⟩, ext_alloc _ _⟩
    have hj : j < 3 := hj
    rw [hb.cell]
    rcases (by omega : j = 0 ∨ j = 1 ∨ j = 2) with rfl | rfl | rfl <;> rfl)
  clear hb
  go_enter Tryd.func14, Tryd.ntmps14
  go_wp2_with (first
    | (go_at_call 52; refine (HR.out).mono ?_; rintro e w1 ⟨A, rfl, ht, hx1⟩)
    | (go_at_call 12; refine (HP.out _ _ ht).mono ?_; rintro e w2 ⟨hx2, A2, cap2, rfl, hp2⟩; obtain ⟨b, off, hA2, hb2, c1, c2⟩ : ∃ b off, A2 = some ⟨b, off, none⟩ ∧ b < w2.heap.size ∧ w2.cell? ⟨b, off, none⟩ = some (.int .i64 8) ∧ w2.cell? ⟨b, off + 2, none⟩ = some (.int .i64 1) := (by
        rcases hp2 with h | ⟨b, off, h1, h2, h3⟩
        · simp at h
        · exact ⟨b, off, h1, h2, h3 0 (by decide) 0 (by decide), h3 0 (by decide) 2 (by decide)⟩); subst hA2))
  go_ret
  exact ⟨rfl, ext_trans hx1 hx2⟩

theorem nil_is (W : World) : (binOp .eql 94 (.slice none 0 0) (.slice none 0 0)).run Tryd.prog W = .ok (.bool true) W := by kernel_rfl
end Go.Proofs.YtmgofdgbenfjmaaDoor
