/- SeamReads walked. Conditions: the table of powers of ten, the greatest length of an index and an error's value are laid. -/
import Derived.Test.YtfadkokdoehjnaaDoorRdr
import Derived.Test.YtfadkokdoehjnaaDoorRdw
import Derived.Test.YtfadkokdoehjnaaDoorRdO
import Derived.Test.YtfadkokdoehjnaaDoorRo
import Derived.Test.YtfadkokdoehjnaaDoorOpd
namespace Go.Proofs.YtfadkokdoehjnaaDoor
open Go.RowKit

set_option maxRecDepth 100000 in
set_option maxHeartbeats 4000000 in
theorem law_reads (s : ByteArray) (w : World) (hl : s.size ≤ 9223372036854775807) (hp : P10 w) (hmx : MxI w) (he : ErS w) :
    Calls Tryd.prog 4 #[.string s] w fun e w' => e = .returned (.bool true) ∧ Below w.heap.size w w' := by
  by_cases h5 : 40000 < s.size
  · clear hp he hmx
    have h5I : (40000 : Int) < (s.size : Int) := by omega
    go_enter Tryd.func4, Tryd.ntmps4
    go_wp2_with (go_at_call 5; refine (awake_any _).mono ?_; rintro e w2 ⟨rfl, hx2⟩; have B2 := Lib.hid hx2)
    go_ret
    exact ⟨rfl, B2.out⟩
  · have h5I : ¬ (40000 : Int) < (s.size : Int) := by omega
    have hsz : s.size ≤ 40000 := by omega
    obtain ⟨m, er, hm, hone, _⟩ := one_rd s
    have HR1 := Lib.hid ((read_any s w hsz hp he).mono (fun e w' hr => hone w e w' hr))
    have HR2 := Lib.hid (fun W (hW : Below w.heap.size w W) => (rread_any s W hsz (hp.ext hW) (hmx.ext hW)).mono (fun e w' hr => hone W e w' hr))
    have HOL := Lib.hid (fun A' c' W h1 h2 h => opsL_any A' c' m W h1 h2 (by omega) h)
    have HEQ := Lib.hid (fun A' B' c' cap W h1 h2 => equalO_same A' B' c' cap m W (by omega) h1 h2)
    clear hp he hmx hone hm hsz
    go_enter Tryd.func4, Tryd.ntmps4
    go_wp2_with (first
      | (go_at_call 9; refine (HR1.out).mono ?_; rintro e w5 ⟨hx5, A5, c5, rfl, k3, k4, ho5⟩; have B5 := hx5)
      | (go_at_call 12; refine (HR2.out _ B5).mono ?_; rintro e w4 ⟨hx4, A4, c4, rfl, k1, k2, ho4⟩; have B4 := bext B5 hx4 B5.size; have ho5' := ho5.ext hx4)
      | (go_at_call 11; refine (HOL.out _ _ _ k3 k4 ho5').mono ?_; rintro e w6 ⟨A6, c6, rfl, k5, k6, ho6, hx6⟩; have B6 := bext B4 hx6 B4.size; have ho4' := ho4.ext hx6)
      | (go_at_call 10; refine (HEQ.out _ _ _ _ _ ho6 ho4').mono ?_; rintro e w7 ⟨rfl, hx7⟩; have B7 := bext B6 hx7 B6.size)
      | (go_at_call 5; refine (awake_any _).mono ?_; rintro e w8 ⟨rfl, hx8⟩; have B8 := bext B7 hx8 B7.size))
    go_ret
    exact ⟨rfl, B8⟩
end Go.Proofs.YtfadkokdoehjnaaDoor
