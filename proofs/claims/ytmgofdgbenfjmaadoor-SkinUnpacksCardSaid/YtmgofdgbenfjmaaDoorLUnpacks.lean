/- SkinUnpacks walked. Conditions: the string's length is an int; tables laid. -/
import Derived.Test.YtmgofdgbenfjmaaDoorUn
import Derived.Test.YtmgofdgbenfjmaaDoorRn
import Derived.Test.YtmgofdgbenfjmaaDoorAw
import Derived.Test.YtmgofdgbenfjmaaDoorMi
namespace Go.Proofs.YtmgofdgbenfjmaaDoor
open Go.RowKit

/-- both answer the same -/
theorem un_one (t : ByteArray) : ∃ (z : Int) (s : List ByteArray), s.length ≤ 9223372036854775807 ∧ ∀ (w : World) e w', RetUn w t e w' → Below w.heap.size w w' ∧ ∃ A cap, e = .returned (.tuple #[.slice A s.length cap, .int .i64 z]) ∧ TSl w' A s := by
  by_cases hex : ∃ s, SkOk s ∧ BS (packL s) = t
  · obtain ⟨s, h1, h2⟩ := hex
    refine ⟨0, s, by have := h1.2.1; omega, ?_⟩
    rintro w e w' ⟨hb, ⟨A, cap, s', k1, k2, rfl, _, _, k3, _⟩ | ⟨k1, _⟩⟩
    · have e1 : s' = s := pack_inj k1 h1 (BS_inj (by rw [k2, h2]))
      subst e1
      exact ⟨hb, A, cap, rfl, k3⟩
    · exact absurd h2 (k1 s h1)
  · refine ⟨6, [], by simp, ?_⟩
    rintro w e w' ⟨hb, ⟨A, cap, s', k1, k2, _⟩ | ⟨_, rfl⟩⟩
    · exact absurd ⟨s', k1, k2⟩ hex
    · exact ⟨hb, none, 0, rfl, .inl rfl⟩
set_option maxRecDepth 100000 in
set_option maxHeartbeats 4000000 in
theorem law_unpacks (t : ByteArray) (w : World) (ht : t.size ≤ 9223372036854775807) (hp : P10 w) (hm : MxI w) :
    Calls Tryd.prog 10 #[.string t] w fun e w' => e = .returned (.bool true) ∧ Below w.heap.size w w' := by
  obtain ⟨z, s, hs, hone⟩ := un_one t
  have HU := Lib.hid (fun W (hW : Below w.heap.size w W) => (unpack_any t W ht (hp.ext hW) (hm.ext hW)).mono fun e w' hr => hone W e w' hr)
  have HR := Lib.hid (fun W (hW : Below w.heap.size w W) => (runpack_any t W ht (hp.ext hW)).mono fun e w' hr => hone W e w' hr)
  clear hp hm hone
  go_enter Tryd.func10, Tryd.ntmps10
  go_wp2_with (first
    | (go_at_call 28; refine (HU.out _ (Below.refl _ _)).mono ?_; rintro e w1 ⟨hx1, A1, c1, rfl, ht1⟩; have HT1 := Lib.hid ht1; have HB1 := Lib.hid hx1; clear hx1 ht1)
    | (go_at_call 36; refine (HR.out _ HB1.out).mono ?_; rintro e w2 ⟨hx2, A2, c2, rfl, ht2⟩; have HT2 := Lib.hid ht2; have HT1 := Lib.hid (HT1.out.ext hx2); have HB2 := Lib.hid (bext HB1.out hx2 HB1.out.size); clear hx2 ht2)
    | (go_at_call 29; refine (equal_strs _ _ _ _ s _ hs HT1.out HT2.out).mono ?_; rintro e w5 ⟨rfl, hx5⟩; have HB5 := Lib.hid (bext HB2.out hx5 HB2.out.size); clear hx5)
    | (go_at_call 14; refine (awake_any _).mono ?_; rintro e w3 ⟨rfl, hx3⟩; have HB3 := Lib.hid (bext HB5.out hx3 HB5.out.size); clear hx3))
  go_ret
  exact ⟨rfl, HB3.out⟩
end Go.Proofs.YtmgofdgbenfjmaaDoor
