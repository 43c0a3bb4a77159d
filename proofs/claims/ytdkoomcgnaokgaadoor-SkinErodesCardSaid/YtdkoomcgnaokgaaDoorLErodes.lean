/- SkinErodes walked. Conditions: the arguments read as lists. -/
import Derived.Test.YtdkoomcgnaokgaaDoorEv
import Derived.Test.YtdkoomcgnaokgaaDoorLTurns
namespace Go.Proofs.YtdkoomcgnaokgaaDoor
open Go.RowKit

set_option maxRecDepth 100000 in
set_option maxHeartbeats 4000000 in
theorem law_erodes (A : Option Addr) (cap : Nat) (l : List ByteArray) (k : Int) (w : World) (hc : l.length ≤ cap) (hcm : cap ≤ 9223372036854775807) (h : TSl w A l) (hz : TSz l) :
    Calls Tryd.prog 8 #[.slice A l.length cap, .int .i64 k] w fun e w' => e = .returned (.bool true) ∧ Below w.heap.size w w' := by
  obtain ⟨z1, t1, hl1, h1⟩ := s2_same (ok := MoOk l k) (er := 2) (morP true l k.toNat) (fun hok => (morP_ok hok.1 true _).2.1)
  obtain ⟨z2, t2, hl2, h2⟩ := s2_same (ok := MoOk l k) (er := 2) (morP false l k.toNat) (fun hok => (morP_ok hok.1 false _).2.1)
  obtain ⟨z3, t3, hl3, h3⟩ := s2_same (ok := MoOk l k) (er := 2) (morP false (morP true l k.toNat) k.toNat) (fun hok => (morP_ok (morP_ok hok.1 true _) false _).2.1)
  have HT := Lib.hid (fun W (h : TSl W A l) => (erode_any A cap l k W hc hcm h hz).mono fun e w' hr => h1 W e w' hr)
  have HRT := Lib.hid (fun W (h : TSl W A l) => (rerode_any A cap l k W hc hcm h hz).mono fun e w' hr => h1 W e w' hr)
  have HM := Lib.hid (fun W (h : TSl W A l) => (dilate_any A cap l k W hc hcm h hz).mono fun e w' hr => h2 W e w' hr)
  have HRM := Lib.hid (fun W (h : TSl W A l) => (rdilate_any A cap l k W hc hcm h hz).mono fun e w' hr => h2 W e w' hr)
  have HO := Lib.hid (fun W (h : TSl W A l) => (open_any A cap l k W hc hcm h hz).mono fun e w' hr => h3 W e w' hr)
  have HRO := Lib.hid (fun W (h : TSl W A l) => (ropen_any A cap l k W hc hcm h hz).mono fun e w' hr => h3 W e w' hr)
  have HE1 := Lib.hid (fun A' B' c c' W (hA : TSl W A' t1) (hB : TSl W B' t1) => equal_strs A' B' c c' t1 W hl1 hA hB)
  have HE2 := Lib.hid (fun A' B' c c' W (hA : TSl W A' t2) (hB : TSl W B' t2) => equal_strs A' B' c c' t2 W hl2 hA hB)
  have HE3 := Lib.hid (fun A' B' c c' W (hA : TSl W A' t3) (hB : TSl W B' t3) => equal_strs A' B' c c' t3 W hl3 hA hB)
  have HX := Lib.hid (fun W (hW : Below w.heap.size w W) => h.ext hW)
  clear h hz h1 h2 h3 hl1 hl2 hl3
  go_enter Tryd.func8, Tryd.ntmps8
  go_wp2_with (first
    | (go_at_call 33; refine (HT.out _ (HX.out _ (Below.refl _ _))).mono ?_; rintro e w1 ⟨hx1, A1, c1, rfl, ht1⟩)
    | (go_at_call 34; refine (HRT.out _ (HX.out _ hx1)).mono ?_; rintro e w2 ⟨hx2, A2, c2, rfl, ht2⟩; have B2 := bext hx1 hx2 hx1.size)
    | (go_at_call_of 32 (Value.slice A1 t1.length c1); refine (HE1.out _ _ _ _ _ (ht1.ext hx2) ht2).mono ?_; rintro e w3 ⟨rfl, hx3⟩; have B3 := bext B2 hx3 B2.size)
    | (go_at_call 14; refine (awake_any _).mono ?_; rintro e w4 ⟨rfl, hx4⟩; have B4 := bext B3 hx4 B3.size)
    | (go_at_call 35; refine (HM.out _ (HX.out _ B4)).mono ?_; rintro e w5 ⟨hx5, A5, c5, rfl, ht5⟩; have B5 := bext B4 hx5 B4.size)
    | (go_at_call 36; refine (HRM.out _ (HX.out _ B5)).mono ?_; rintro e w6 ⟨hx6, A6, c6, rfl, ht6⟩; have B6 := bext B5 hx6 B5.size)
    | (go_at_call_of 32 (Value.slice A5 t2.length c5); refine (HE2.out _ _ _ _ _ (ht5.ext hx6) ht6).mono ?_; rintro e w7 ⟨rfl, hx7⟩; have B7 := bext B6 hx7 B6.size)
    | (go_at_call 37; refine (HO.out _ (HX.out _ B7)).mono ?_; rintro e w8 ⟨hx8, A8, c8, rfl, ht8⟩; have B8 := bext B7 hx8 B7.size)
    | (go_at_call 38; refine (HRO.out _ (HX.out _ B8)).mono ?_; rintro e w9 ⟨hx9, A9, c9, rfl, ht9⟩; have B9 := bext B8 hx9 B8.size)
    | (go_at_call_of 32 (Value.slice A8 t3.length c8); refine (HE3.out _ _ _ _ _ (ht8.ext hx9) ht9).mono ?_; rintro e w10 ⟨rfl, hx10⟩; have B10 := bext B9 hx10 B9.size))
  go_ret
  exact ⟨rfl, B10⟩
end Go.Proofs.YtdkoomcgnaokgaaDoor
