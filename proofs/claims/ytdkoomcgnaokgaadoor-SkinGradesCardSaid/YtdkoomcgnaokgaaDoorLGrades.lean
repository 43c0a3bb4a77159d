/- SkinGrades walked. Conditions: the arguments read as lists. -/
import Derived.Test.YtdkoomcgnaokgaaDoorWo
import Derived.Test.YtdkoomcgnaokgaaDoorAw
import Derived.Test.YtdkoomcgnaokgaaDoorEq
namespace Go.Proofs.YtdkoomcgnaokgaaDoor
open Go.RowKit

def tenL (l : List ByteArray) : List Int := (List.range 10).map (tlK l l.length)
theorem tenL_len (l : List ByteArray) : (tenL l).length = 10 := by simp [tenL]
theorem tenL_isl {T : TypeId} {g : Nat} {l : List ByteArray} {w : World} (h : Ow T g 10 (tlK l l.length) w) : ISl w (some ⟨g, 0, none⟩) (tenL l) :=
  h.isl (tenL_len l) (fun j hj => by simp [tenL])
set_option maxRecDepth 100000 in
set_option maxHeartbeats 4000000 in
theorem law_grades (A : Option Addr) (cap : Nat) (l : List ByteArray) (C : Option Addr) (cc : Nat) (ps : List Int) (w : World) (hc : l.length ≤ cap) (hcm : cap ≤ 9223372036854775807) (h : TSl w A l) (hz : TSz l) (hcc : ps.length ≤ cc) (hcc2 : cc ≤ 9223372036854775807) (hp : ISl w C ps) (_hi : ∀ p ∈ ps, IsI p) :
    Calls Tryd.prog 6 #[.slice A l.length cap, .slice C ps.length cc] w fun e w' => e = .returned (.bool true) ∧ Below w.heap.size w w' := by
  have HV := Lib.hid (fun W (h : TSl W A l) => valid_any A cap l W hc hcm h hz)
  have HRV := Lib.hid (fun W (h : TSl W A l) => rvalid_any A cap l W hc hcm h hz)
  have HW1 := Lib.hid (fun W (h : TSl W A l) (hp : ISl W C ps) => worth_any A cap l C cc ps W hc hcm h hz hcc hcc2 hp)
  have HW2 := Lib.hid (fun W (h : TSl W A l) (hp : ISl W C ps) => rworth_any A cap l C cc ps W hc hcm h hz hcc hcc2 hp)
  unfold RetWo at HW1 HW2
  obtain ⟨wv, hwv⟩ : ∃ wv, wv = if WoOk l ps then woK l ps 10 else 0 := ⟨_, rfl⟩
  obtain ⟨we, hwe⟩ : ∃ we : Int, we = if WoOk l ps then 0 else 2 := ⟨_, rfl⟩
  rw [← hwv, ← hwe] at HW1 HW2
  have HE := Lib.hid (fun A' B' W (hA : ISl W A' (tenL l)) (hB : ISl W B' (tenL l)) => equal_same A' B' 10 10 (tenL l) W (by rw [tenL_len]; decide) hA hB)
  rw [tenL_len] at HE
  have HG := Lib.hid (fun W (h : TSl W A l) => grades_any A cap l W hc hcm h hz)
  have HRG := Lib.hid (fun W (h : TSl W A l) => rgrades_any A cap l W hc hcm h hz)
  have HX := Lib.hid (fun W (hW : Below w.heap.size w W) => And.intro (h.ext hW) (hp.ext hW))
  have HN := Lib.hid (fun W => equal_same none none 0 0 [] W (by decide) (.inl rfl) (.inl rfl))
  clear hwv hwe h hp hz
  by_cases hok : SkOk l
  · rw [decide_eq_true hok] at HV HRV
    have HG2 := Lib.hid (fun W h => (HG.out W h).mono (R' := fun e w' => Below W.heap.size W w' ∧ ∃ g, e = .returned (.tuple #[.slice (some ⟨g, 0, none⟩) 10 10, .int .i64 0]) ∧ ISl w' (some ⟨g, 0, none⟩) (tenL l)) fun e w' hr => by
      obtain ⟨hb, ⟨hn, _⟩ | ⟨_, g, he, _, T, ho⟩⟩ := hr
      · exact absurd hok hn
      · exact ⟨hb, g, he, tenL_isl ho⟩)
    have HRG2 := Lib.hid (fun W h => (HRG.out W h).mono (R' := fun e w' => Below W.heap.size W w' ∧ ∃ g, e = .returned (.tuple #[.slice (some ⟨g, 0, none⟩) 10 10, .int .i64 0]) ∧ ISl w' (some ⟨g, 0, none⟩) (tenL l)) fun e w' hr => by
      obtain ⟨hb, ⟨hn, _⟩ | ⟨_, g, he, _, T, ho⟩⟩ := hr
      · exact absurd hok hn
      · exact ⟨hb, g, he, tenL_isl ho⟩)
    clear HG HRG hok
    go_enter Tryd.func6, Tryd.ntmps6
    go_wp2_with (first
      | (go_at_call 21; refine (HG2.out _ (HX.out _ (Below.refl _ _)).1).mono ?_; rintro e w1 ⟨hx1, g1, rfl, ho1⟩)
      | (go_at_call 22; refine (HRG2.out _ (HX.out _ hx1).1).mono ?_; rintro e w2 ⟨hx2, g2, rfl, ho2⟩; have B2 := bext hx1 hx2 hx1.size)
      | (go_at_call 23; refine (HW1.out _ (HX.out _ B2).1 (HX.out _ B2).2).mono ?_; rintro e w3 ⟨hx3, rfl⟩; have B3 := bext B2 hx3 B2.size)
      | (go_at_call 24; refine (HW2.out _ (HX.out _ B3).1 (HX.out _ B3).2).mono ?_; rintro e w4 ⟨hx4, rfl⟩; have B4 := bext B3 hx4 B3.size)
      | (go_at_call 25; refine (HV.out _ (HX.out _ B4).1).mono ?_; rintro e w5 ⟨rfl, hx5⟩; have B5 := bext B4 hx5 B4.size)
      | (go_at_call 26; refine (HRV.out _ (HX.out _ B5).1).mono ?_; rintro e w6 ⟨rfl, hx6⟩; have B6 := bext B5 hx6 B5.size)
      | (go_at_call 27; refine (HE.out _ _ _ (((((ho1.ext hx2).ext hx3).ext hx4).ext hx5).ext hx6) ((((ho2.ext hx3).ext hx4).ext hx5).ext hx6)).mono ?_; rintro e w7 ⟨rfl, hx7⟩; have B7 := bext B6 hx7 B6.size)
      | (go_at_call 14; refine (awake_any _).mono ?_; rintro e w8 ⟨rfl, hx8⟩; have B8 := bext B7 hx8 B7.size))
    go_ret
    exact ⟨rfl, B8⟩
  · rw [decide_eq_false hok] at HV HRV
    have HG2 := Lib.hid (fun W h => (HG.out W h).mono (R' := fun e w' => Below W.heap.size W w' ∧ e = .returned (.tuple #[.slice none 0 0, .int .i64 2])) fun e w' hr => by
      obtain ⟨hb, ⟨_, he⟩ | ⟨hn, _⟩⟩ := hr
      · exact ⟨hb, he⟩
      · exact absurd hn hok)
    have HRG2 := Lib.hid (fun W h => (HRG.out W h).mono (R' := fun e w' => Below W.heap.size W w' ∧ e = .returned (.tuple #[.slice none 0 0, .int .i64 2])) fun e w' hr => by
      obtain ⟨hb, ⟨_, he⟩ | ⟨hn, _⟩⟩ := hr
      · exact ⟨hb, he⟩
      · exact absurd hn hok)
    clear HG HRG hok
    go_enter Tryd.func6, Tryd.ntmps6
    go_wp2_with (first
      | (go_at_call 21; refine (HG2.out _ (HX.out _ (Below.refl _ _)).1).mono ?_; rintro e w1 ⟨hx1, rfl⟩)
      | (go_at_call 22; refine (HRG2.out _ (HX.out _ hx1).1).mono ?_; rintro e w2 ⟨hx2, rfl⟩; have B2 := bext hx1 hx2 hx1.size)
      | (go_at_call 23; refine (HW1.out _ (HX.out _ B2).1 (HX.out _ B2).2).mono ?_; rintro e w3 ⟨hx3, rfl⟩; have B3 := bext B2 hx3 B2.size)
      | (go_at_call 24; refine (HW2.out _ (HX.out _ B3).1 (HX.out _ B3).2).mono ?_; rintro e w4 ⟨hx4, rfl⟩; have B4 := bext B3 hx4 B3.size)
      | (go_at_call 25; refine (HV.out _ (HX.out _ B4).1).mono ?_; rintro e w5 ⟨rfl, hx5⟩; have B5 := bext B4 hx5 B4.size)
      | (go_at_call 26; refine (HRV.out _ (HX.out _ B5).1).mono ?_; rintro e w6 ⟨rfl, hx6⟩; have B6 := bext B5 hx6 B5.size)
      | (go_at_call 27; refine (HN.out _).mono ?_; rintro e w7 ⟨rfl, hx7⟩; have B7 := bext B6 hx7 B6.size)
      | (go_at_call 14; refine (awake_any _).mono ?_; rintro e w8 ⟨rfl, hx8⟩; have B8 := bext B7 hx8 B7.size))
    go_ret
    exact ⟨rfl, B8⟩
end Go.Proofs.YtdkoomcgnaokgaaDoor
