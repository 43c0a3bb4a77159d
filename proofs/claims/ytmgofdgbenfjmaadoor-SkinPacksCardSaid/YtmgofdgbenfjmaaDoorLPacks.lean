/- SkinPacks walked. Conditions: the arguments read as lists; tables laid. -/
import Derived.Test.YtmgofdgbenfjmaaDoorUn
import Derived.Test.YtmgofdgbenfjmaaDoorPr2
import Derived.Test.YtmgofdgbenfjmaaDoorAw
import Derived.Test.YtmgofdgbenfjmaaDoorMi
namespace Go.Proofs.YtmgofdgbenfjmaaDoor
open Go.RowKit

set_option maxRecDepth 100000 in
set_option maxHeartbeats 4000000 in
theorem law_packs (A : Option Addr) (cap : Nat) (l : List ByteArray) (w : World) (hc : l.length ≤ cap) (hcm : cap ≤ 9223372036854775807) (h : TSl w A l) (hz : TSz l) (hp : P10 w) (hm : MxI w) :
    Calls Tryd.prog 7 #[.slice A l.length cap] w fun e w' => e = .returned (.bool true) ∧ Below w.heap.size w w' := by
  have HP := Lib.hid (fun W (hW : Below w.heap.size w W) => pack_any A cap l W hc hcm (h.ext hW) hz (hp.ext hW))
  have HR := Lib.hid (fun W (hW : Below w.heap.size w W) => rpack_any A cap l W hc hcm (h.ext hW) hz (hp.ext hW))
  have HU := Lib.hid (fun t W (ht : t.size ≤ 9223372036854775807) (hW : Below w.heap.size w W) => unpack_any t W ht (hp.ext hW) (hm.ext hW))
  have HH := Lib.hid (fun W (hW : Below w.heap.size w W) => h.ext hW)
  clear h hz hp hm
  by_cases hok : SkOk l
  · obtain ⟨sp, hsp⟩ : ∃ sp, sp = BS (packL l) := ⟨_, rfl⟩
    have hsz : sp.size ≤ 2352 := by rw [hsp, BS_size]; exact pack_len hok
    have hl48 := hok.2.1
    have HQ := Lib.hid (fun W (hW : Below w.heap.size w W) => (HP.out W hW).mono (R' := fun e w' => Below W.heap.size W w' ∧ e = .returned (.tuple #[.string sp, .int .i64 0])) (fun e w' hr => ⟨hr.1, hr.2.elim (fun h => absurd hok h.1) (fun h => by rw [hsp]; exact h.2)⟩))
    have HS := Lib.hid (fun W (hW : Below w.heap.size w W) => (HR.out W hW).mono (R' := fun e w' => Below W.heap.size W w' ∧ e = .returned (.tuple #[.string sp, .int .i64 0])) (fun e w' hr => ⟨hr.1, hr.2.elim (fun h => absurd hok h.1) (fun h => by rw [hsp]; exact h.2)⟩))
    have HV := Lib.hid (fun W (hW : Below w.heap.size w W) => (HU.out sp W (by omega) hW).mono (R' := fun e w' => Below W.heap.size W w' ∧ ∃ A3 c3, e = .returned (.tuple #[.slice A3 l.length c3, .int .i64 0]) ∧ TSl w' A3 l) (fun e w' hr => ⟨hr.1, hr.2.elim (fun h => by
      obtain ⟨A3, c3, s, h1, h2, h3, _, _, h4, _⟩ := h
      have e1 : s = l := pack_inj h1 hok (BS_inj (by rw [h2, hsp]))
      subst e1
      exact ⟨A3, c3, h3, h4⟩) (fun h => absurd hsp.symm (h.1 l hok))⟩))
    clear hsp hok HP HR HU
    go_enter Tryd.func7, Tryd.ntmps7
    go_wp2_with (first
      | (go_at_call 26; refine (HQ.out _ (Below.refl _ _)).mono ?_; rintro e w1 ⟨hx1, rfl⟩; have HB1 := Lib.hid hx1; clear hx1)
      | (go_at_call 27; refine (HS.out _ HB1.out).mono ?_; rintro e w2 ⟨hx2, rfl⟩; have HB2 := Lib.hid (bext HB1.out hx2 HB1.out.size); clear hx2)
      | (go_at_call 14; refine (awake_any _).mono ?_; rintro e w3 ⟨rfl, hx3⟩; have HB3 := Lib.hid (bext HB2.out hx3 HB2.out.size); clear hx3)
      | (go_at_call 28; refine (HV.out _ HB3.out).mono ?_; rintro e w4 ⟨hx4, A3, c3, rfl, ht3⟩; have HT3 := Lib.hid ht3; have HB4 := Lib.hid (bext HB3.out hx4 HB3.out.size); clear hx4 ht3)
      | (go_at_call 29; refine (equal_strs _ _ _ _ l _ (by omega) HT3.out (HH.out _ HB4.out)).mono ?_; rintro e w5 ⟨rfl, hx5⟩; have HB5 := Lib.hid (bext HB4.out hx5 HB4.out.size); clear hx5))
    go_ret
    exact ⟨rfl, HB5.out⟩
  · have HQ := Lib.hid (fun W (hW : Below w.heap.size w W) => (HP.out W hW).mono (R' := fun e w' => Below W.heap.size W w' ∧ e = .returned (.tuple #[.string ⟨#[]⟩, .int .i64 2])) (fun e w' hr => ⟨hr.1, hr.2.elim (fun h => h.2) (fun h => absurd h.1 hok)⟩))
    have HS := Lib.hid (fun W (hW : Below w.heap.size w W) => (HR.out W hW).mono (R' := fun e w' => Below W.heap.size W w' ∧ e = .returned (.tuple #[.string ⟨#[]⟩, .int .i64 2])) (fun e w' hr => ⟨hr.1, hr.2.elim (fun h => h.2) (fun h => absurd h.1 hok)⟩))
    have HV := Lib.hid (fun W (hW : Below w.heap.size w W) => (HU.out ⟨#[]⟩ W (by decide) hW).mono (R' := fun e w' => Below W.heap.size W w' ∧ ∃ A3 n3 c3 z3, e = .returned (.tuple #[.slice A3 n3 c3, .int .i64 z3])) (fun e w' hr => ⟨hr.1, hr.2.elim (fun h => by
      obtain ⟨A3, c3, s, _, _, h3, _⟩ := h
      exact ⟨_, _, _, _, h3⟩) (fun h => ⟨_, _, _, _, h.2⟩)⟩))
    clear hok HP HR HU
    go_enter Tryd.func7, Tryd.ntmps7
    go_wp2_with (first
      | (go_at_call 26; refine (HQ.out _ (Below.refl _ _)).mono ?_; rintro e w1 ⟨hx1, rfl⟩; have HB1 := Lib.hid hx1; clear hx1)
      | (go_at_call 27; refine (HS.out _ HB1.out).mono ?_; rintro e w2 ⟨hx2, rfl⟩; have HB2 := Lib.hid (bext HB1.out hx2 HB1.out.size); clear hx2)
      | (go_at_call 14; refine (awake_any _).mono ?_; rintro e w3 ⟨rfl, hx3⟩; have HB3 := Lib.hid (bext HB2.out hx3 HB2.out.size); clear hx3)
      | (go_at_call 28; refine (HV.out _ HB3.out).mono ?_; rintro e w4 ⟨hx4, A3, n3, c3, z3, rfl⟩; have HB4 := Lib.hid (bext HB3.out hx4 HB3.out.size); clear hx4))
    go_ret
    exact ⟨rfl, HB4.out⟩
end Go.Proofs.YtmgofdgbenfjmaaDoor
