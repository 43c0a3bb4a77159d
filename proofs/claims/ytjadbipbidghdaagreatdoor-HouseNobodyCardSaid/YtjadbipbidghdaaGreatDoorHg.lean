/- A house opened on an empty disk, and on none. Conditions: an empty disk with power. -/
import Derived.Test.YtjadbipbidghdaaGreatDoorHf
import Derived.Test.YtjadbipbidghdaaGreatDoorHe
namespace Go.Proofs.YtjadbipbidghdaaGreatDoor
open Go.RowKit

theorem bk_ne {T T' : TypeId} {w : World} {a b : Nat} {cs cs' : Array Value} (h : Bk T w a cs) (h' : Bk T' w b cs') (hT : T ≠ T') : a ≠ b := fun e => by
  subst e
  have h1 : w.heap[a]? = some (.cells cs T (0, 0)) := h
  have h2 : w.heap[a]? = some (.cells cs' T' (0, 0)) := h'
  rw [h1] at h2
  injection h2 with h2
  injection h2 with _ h2 _
  exact hT h2
/-- the house in its block -/
def Hs (w : World) (h s L : Nat) (ls : Value) : Prop := Bk 27 w h #[.pointer (some ⟨s, 0, none⟩), .pointer (some ⟨L, 0, none⟩), ls, .bool false]
theorem nils (W : World) : (convert 47 9 (.slice none 0 0)).run Tryz.prog W = .ok (.string ⟨#[]⟩) W := by kernel_rfl
set_option maxRecDepth 100000 in
set_option maxHeartbeats 8000000 in
theorem none_any (h s L : Nat) (ls : Value) (w : World) (hh : Hs w h s L ls) : Calls Tryz.prog 12 #[.pointer (some ⟨h, 0, none⟩)] w fun e w' => e = .returned (.bool false) ∧ w' = w := by
  unfold Hs at hh
  obtain ⟨f1, f2, f3⟩ := hh.facts
  clear hh
  go_enter Tryz.func12, Tryz.ntmps12
  go_wp2
  go_ret
  exact ⟨rfl, rfl⟩
set_option maxRecDepth 100000 in
set_option maxHeartbeats 8000000 in
theorem none_nil (w : World) : Calls Tryz.prog 12 #[.pointer none] w fun e w' => e = .returned (.bool true) ∧ w' = w := by
  go_enter Tryz.func12, Tryz.ntmps12
  go_wp2
  go_ret
  exact ⟨rfl, rfl⟩
set_option maxRecDepth 100000 in
set_option maxHeartbeats 8000000 in
theorem none_zero (h : Nat) (w : World) (hh : w.cell? ⟨h, 0, none⟩ = some (.pointer none)) : Calls Tryz.prog 12 #[.pointer (some ⟨h, 0, none⟩)] w fun e w' => e = .returned (.bool true) ∧ w' = w := by
  go_enter Tryz.func12, Tryz.ntmps12
  go_wp2
  go_ret
  exact ⟨rfl, rfl⟩
set_option maxRecDepth 100000 in
set_option maxHeartbeats 8000000 in
theorem opennil_any (w : World) : Calls Tryz.prog 10 #[.pointer none] w fun e w' => e = .returned (.tuple #[.pointer none, .int .i64 1]) ∧ w' = w := by
  have HS := Lib.hid (sopennil_any w)
  go_enter Tryz.func10, Tryz.ntmps10
  go_wp2_with (go_at_call 29; refine (HS.out).mono ?_; rintro e w1 ⟨rfl, rfl⟩)
  refine bodyPost_ret (v := .tuple #[.pointer none, .int .i64 1]) (by simp [results, Tryz.results10, go_sem]) rfl ?_
  exact ⟨rfl, rfl⟩
set_option maxRecDepth 100000 in
set_option maxHeartbeats 16000000 in
theorem open_any (D : Nat) (w : World) (hd : Dk w D (.slice none 0 0) 0) :
    Calls Tryz.prog 10 #[.pointer (some ⟨D, 0, none⟩)] w fun e w' => ∃ h s L b v, ∃ n : Nat, e = .returned (.tuple #[.pointer (some ⟨h, 0, none⟩), .int .i64 0]) ∧ w.heap.size ≤ h ∧ w.heap.size ≤ L ∧ Hs w' h s L (.slice none 0 0) ∧ St w' s (.slice none 0 0) b ∧ Bo w' b ∧ Lg w' L (.slice none 0 0) D ∧ Dk w' D v (n : Int) ∧ By w.heap.size w' v n ∧ n ≤ 100 ∧ Chg (· = D) w w' := by
  have hnl := nils
  have HSO := Lib.hid (sopen_any D w hd)
  clear hd
  go_enter Tryz.func10, Tryz.ntmps10
  go_upto_region 4 with (go_at_call 29; refine (HSO.out).mono ?_; rintro e w1 ⟨L, rfl, hwL, hl1, v, n, hd1, hv1, hn1, hc1⟩; have HL := Lib.hid hl1; have HD := Lib.hid hd1; have HV := Lib.hid hv1; have HC := Lib.hid hc1; have HWL := Lib.hid hwL; clear hwL hl1 hd1 hv1 hc1)
  have HFI := Lib.hid (first_any w1)
  go_upto_region 5 with (first
    | (go_at_call 30; refine (HFI.out).mono ?_; rintro e w2 ⟨b, rfl, hb2, hx2⟩; have HB2 := Lib.hid hb2; have HX2 := Lib.hid hx2; clear hb2 hx2)
    | (refine wpList_store_row rfl 72 _ _ rfl w2.heap.size (stC (.slice none 0 0) b) (by rfl) (by rfl) 72 _ (heap_alloc_last w2 _) (by kernel_rfl) (by rfl) (stC_one b) ?_; rw [World.setRow_alloc_new]))
  have HXS := Lib.hid (ext_alloc w2 (.cells (stC (.slice none 0 0) b) 72))
  have HSB := Lib.hid (show St (w2.alloc (.cells (stC (.slice none 0 0) b) 72)) w2.heap.size (.slice none 0 0) b from Bk.new _ _ _)
  obtain ⟨X, hX⟩ : ∃ X, X = w2.alloc (.cells (stC (.slice none 0 0) b) 72) := ⟨_, rfl⟩
  obtain ⟨s, hs⟩ : ∃ s, s = w2.heap.size := ⟨_, rfl⟩
  rw [← hX] at HXS HSB ⊢
  rw [← hs] at HSB ⊢
  have HBX := Lib.hid (ext_trans HX2.out HXS.out)
  clear hX hs HSO HFI
  have HXH := Lib.hid (ext_alloc X (.cells #[.pointer (some ⟨s, 0, none⟩), .pointer (some ⟨L, 0, none⟩), .slice none 0 0, .bool false] 27))
  have HHB := Lib.hid (show Hs (X.alloc (.cells #[.pointer (some ⟨s, 0, none⟩), .pointer (some ⟨L, 0, none⟩), .slice none 0 0, .bool false] 27)) X.heap.size s L (.slice none 0 0) from Bk.new _ _ _)
  go_upto_region 6 with (fail)
  obtain ⟨Y, hY⟩ : ∃ Y, Y = X.alloc (.cells #[.pointer (some ⟨s, 0, none⟩), .pointer (some ⟨L, 0, none⟩), .slice none 0 0, .bool false] 27) := ⟨_, rfl⟩
  obtain ⟨h, hh⟩ : ∃ h, h = X.heap.size := ⟨_, rfl⟩
  rw [← hY] at HXH HHB ⊢
  rw [← hh] at HHB ⊢
  have HLT := Lib.hid (show w.heap.size ≤ h from by have h1 := HC.out.size; have h2 := HBX.out.size; omega)
  have HBY := Lib.hid (ext_trans HBX.out HXH.out)
  have HLY := Lib.hid (show Lg Y L (.slice none 0 0) D from Bk.ext HL.out HBY.out)
  have HDY := Lib.hid (show Dk Y D v (n : Int) from Bk.ext HD.out HBY.out)
  have HVY := Lib.hid (HV.out.ext HBY.out)
  have HSY := Lib.hid (HSB.out.ext HXH.out)
  have HOY := Lib.hid (HB2.out.ext (ext_trans HXS.out HXH.out))
  have HCY := Lib.hid (HC.out.ext HBY.out)
  clear hY hh HL HD HV HSB HB2 HC HBX HXS HXH HX2 HBY
  have HSN := Lib.hid (snapshot_any L _ D Y HLY.out)
  have HRE := Lib.hid (records_any L D Y HLY.out)
  go_wp2_with (first
    | (go_at_call 31; refine (HSN.out).mono ?_; rintro e w3 ⟨rfl, rfl⟩)
    | (go_at_call 34; refine (HRE.out).mono ?_; rintro e w4 ⟨rfl, rfl⟩))
  obtain ⟨Z, hZ⟩ : ∃ Z, Z = w4 := ⟨_, rfl⟩
  rw [← hZ] at HLY HDY HVY HSY HOY HCY HHB ⊢
  clear hZ HSN HRE
  go_loopg [47, 8] 1 (fun gg z v wr => z = .int .i64 0 ∧ v = .slice none 0 0 ∧ gg = 1 ∧ wr = Z)
  case atStart => exact ⟨rfl, rfl, rfl, rfl⟩
  case round =>
    obtain ⟨rfl, rfl, rfl, rfl⟩ := hrel
    have h8 : ¬ (0 : Int) < ((0 : Nat) : Int) := by omega
    go_wp2_with (fail)
    go_loopg [59] 1 (fun gg z w' => z = .int .i64 0 ∧ gg = 1 ∧ w' = wr)
    case atStart => exact ⟨rfl, rfl, rfl⟩
    case round =>
      obtain ⟨rfl, rfl, rfl⟩ := hrel
      have hhb := HHB.out
      unfold Hs at hhb
      obtain ⟨f1, f2, f3⟩ := hhb.facts
      go_wp2
      refine bodyPost_ret (v := .tuple #[.pointer (some ⟨h, 0, none⟩), .int .i64 0]) (by simp [results, Tryz.results10, go_sem]) rfl ?_
      have hs := Chg.set (fun k => k = h) wr rfl (j := 2) (.slice none 0 0)
      have n1 : s ≠ h := bk_ne HSY.out HHB.out (by decide)
      have n2 : L ≠ h := bk_ne HLY.out HHB.out (by decide)
      have n3 : D ≠ h := bk_ne HDY.out HHB.out (by decide)
      have n4 : b ≠ h := by obtain ⟨cs, q, _⟩ := HOY.out; exact bk_ne q HHB.out (by decide)
      have n5 : ∀ k, v.ownBlock = some k → ¬ k = h := fun k hk e => by
        obtain ⟨xs, hx, _⟩ := HVY.out
        exact own_ne hx HHB.out (by decide) (by rw [← e]; exact hk.symm)
      refine ⟨h, s, L, b, v, n, rfl, HLT.out, HWL.out, Bk.set HHB.out 2 _, hs.bk HSY.out n1, ?_, hs.bk HLY.out n2, hs.bk HDY.out n3, hs.by_ HVY.out n5, hn1, HCY.out.trans hs fun k hk e => by have := HLT.out; omega⟩
      obtain ⟨cs, q1, q2, q3⟩ := HOY.out
      exact ⟨cs, hs.bk q1 n4, q2, q3⟩
end Go.Proofs.YtjadbipbidghdaaGreatDoor
