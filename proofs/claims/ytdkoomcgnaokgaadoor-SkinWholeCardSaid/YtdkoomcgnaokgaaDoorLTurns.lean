/- SkinTurns walked. Conditions: the arguments read as lists. -/
import Derived.Test.YtdkoomcgnaokgaaDoorTn
import Derived.Test.YtdkoomcgnaokgaaDoorAw
namespace Go.Proofs.YtdkoomcgnaokgaaDoor
open Go.RowKit

/-- both answer the same -/
theorem s2_same {ok : Prop} {er : Int} (s : List ByteArray) (hs : ok → s.length ≤ 48) : ∃ (z : Int) (t : List ByteArray), t.length ≤ 9223372036854775807 ∧ ∀ (w : World) e w', RetS2 w ok er s e w' → Below w.heap.size w w' ∧ ∃ A cap, e = .returned (.tuple #[.slice A t.length cap, .int .i64 z]) ∧ TSl w' A t := by
  by_cases h : ok
  · refine ⟨0, s, by have := hs h; omega, fun w e w' hr => ?_⟩
    obtain ⟨hb, ⟨hn, he⟩ | ⟨ho, A, cap, he, _, _, ht⟩⟩ := hr
    · exact absurd h hn
    · exact ⟨hb, A, cap, he, ht⟩
  · refine ⟨er, [], by simp, fun w e w' hr => ?_⟩
    obtain ⟨hb, ⟨hn, he⟩ | ⟨ho, A, cap, he, _, _, ht⟩⟩ := hr
    · exact ⟨hb, none, 0, he, .inl rfl⟩
    · exact absurd ho h
set_option maxRecDepth 100000 in
set_option maxHeartbeats 4000000 in
theorem law_turns (A : Option Addr) (cap : Nat) (l : List ByteArray) (k : Int) (w : World) (hc : l.length ≤ cap) (hcm : cap ≤ 9223372036854775807) (h : TSl w A l) (hz : TSz l) :
    Calls Tryd.prog 7 #[.slice A l.length cap, .int .i64 k] w fun e w' => e = .returned (.bool true) ∧ Below w.heap.size w w' := by
  obtain ⟨z1, t1, hl1, h1⟩ := s2_same (ok := SkOk l) (er := 2) (turnK l (qn k)) (fun hok => (turnK_ok hok _).2.1)
  obtain ⟨z2, t2, hl2, h2⟩ := s2_same (ok := SkOk l) (er := 2) (mirP l) (fun hok => by unfold mirP; rw [skF_len]; exact hok.2.1)
  have HT := Lib.hid (fun W (h : TSl W A l) => (turn_any A cap l k W hc hcm h hz).mono fun e w' hr => h1 W e w' hr)
  have HRT := Lib.hid (fun W (h : TSl W A l) => (rturn_any A cap l k W hc hcm h hz).mono fun e w' hr => h1 W e w' hr)
  have HM := Lib.hid (fun W (h : TSl W A l) => (mirror_any A cap l W hc hcm h hz).mono fun e w' hr => h2 W e w' hr)
  have HRM := Lib.hid (fun W (h : TSl W A l) => (rmirror_any A cap l W hc hcm h hz).mono fun e w' hr => h2 W e w' hr)
  have HE1 := Lib.hid (fun A' B' c c' W (hA : TSl W A' t1) (hB : TSl W B' t1) => equal_strs A' B' c c' t1 W hl1 hA hB)
  have HE2 := Lib.hid (fun A' B' c c' W (hA : TSl W A' t2) (hB : TSl W B' t2) => equal_strs A' B' c c' t2 W hl2 hA hB)
  have HX := Lib.hid (fun W (hW : Below w.heap.size w W) => h.ext hW)
  clear h hz h1 h2 hl1 hl2
  go_enter Tryd.func7, Tryd.ntmps7
  go_wp2_with (first
    | (go_at_call 28; refine (HT.out _ (HX.out _ (Below.refl _ _))).mono ?_; rintro e w1 ⟨hx1, A1, c1, rfl, ht1⟩)
    | (go_at_call 29; refine (HRT.out _ (HX.out _ hx1)).mono ?_; rintro e w2 ⟨hx2, A2, c2, rfl, ht2⟩; have B2 := bext hx1 hx2 hx1.size)
    | (go_at_call 30; refine (HM.out _ (HX.out _ B2)).mono ?_; rintro e w3 ⟨hx3, A3, c3, rfl, ht3⟩; have B3 := bext B2 hx3 B2.size)
    | (go_at_call 31; refine (HRM.out _ (HX.out _ B3)).mono ?_; rintro e w4 ⟨hx4, A4, c4, rfl, ht4⟩; have B4 := bext B3 hx4 B3.size)
    | (go_at_call_of 32 (Value.slice A1 t1.length c1); refine (HE1.out _ _ _ _ _ (((ht1.ext hx2).ext hx3).ext hx4) ((ht2.ext hx3).ext hx4)).mono ?_; rintro e w5 ⟨rfl, hx5⟩; have B5 := bext B4 hx5 B4.size)
    | (go_at_call_of 32 (Value.slice A3 t2.length c3); refine (HE2.out _ _ _ _ _ ((ht3.ext hx4).ext hx5) (ht4.ext hx5)).mono ?_; rintro e w6 ⟨rfl, hx6⟩; have B6 := bext B5 hx6 B5.size)
    | (go_at_call 14; refine (awake_any _).mono ?_; rintro e w8 ⟨rfl, hx8⟩; have B8 := bext B6 hx8 B6.size))
  go_ret
  exact ⟨rfl, B8⟩
end Go.Proofs.YtdkoomcgnaokgaaDoor
