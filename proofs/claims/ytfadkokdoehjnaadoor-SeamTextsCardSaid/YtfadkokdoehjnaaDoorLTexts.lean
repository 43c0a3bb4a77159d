/- SeamTexts walked. Conditions: the program reads as a list; the table of powers of ten and an error's value are laid. -/
import Derived.Test.YtfadkokdoehjnaaDoorTx
import Derived.Test.YtfadkokdoehjnaaDoorRdw
import Derived.Test.YtfadkokdoehjnaaDoorRdO
import Derived.Test.YtfadkokdoehjnaaDoorRo
import Derived.Test.YtfadkokdoehjnaaDoorOpd
namespace Go.Proofs.YtfadkokdoehjnaaDoor
open Go.RowKit

set_option maxRecDepth 100000 in
set_option maxHeartbeats 4000000 in
theorem law_texts (A : Option Addr) (cap : Nat) (l : List Opr) (w : World) (hc : l.length ≤ cap) (hcm : cap ≤ 9223372036854775807) (h : OSl w A l) (hp : P10 w) (he : ErS w) :
    Calls Tryd.prog 3 #[.slice A l.length cap] w fun e w' => e = .returned (.bool true) ∧ Below w.heap.size w w' := by
  by_cases h5 : 5000 < l.length
  · clear h hc hcm hp he
    have h5I : (5000 : Int) < (l.length : Int) := by omega
    go_enter Tryd.func3, Tryd.ntmps3
    go_wp2_with (go_at_call 5; refine (awake_any _).mono ?_; rintro e w2 ⟨rfl, hx2⟩; have B2 := Lib.hid hx2)
    go_ret
    exact ⟨rfl, B2.out⟩
  · have h5I : ¬ (5000 : Int) < (l.length : Int) := by omega
    have HP := Lib.hid (program_any A cap l w hc hcm (by omega) h)
    have HW := Lib.hid (fun W (hW : Below w.heap.size w W) => And.intro (h.ext hW) (And.intro (hp.ext hW) (he.ext hW)))
    have HT2 := Lib.hid (fun W (hW : Below w.heap.size w W) => rtext_any A cap l W hc hcm (h.ext hW) (hp.ext hW))
    have HOL := Lib.hid (fun A' c' W h1 h2 (h3 : l.length ≤ 4096) h => opsL_any A' c' l W h1 h2 (by omega) h)
    have HEQ := Lib.hid (fun A' c' W (h4 : l.length ≤ 4096) h1 h2 => equalO_same A' A c' cap l W (by omega) h1 h2)
    by_cases hok : TxOk l
    · have HT1 := Lib.hid (fun A' c' W h1 h2 h3 h4 => (text_any A' c' l W h1 h2 h3 h4).mono (R' := fun e w' => Below W.heap.size W w' ∧ e = .returned (.tuple #[.string (BS (txtL l)), .int .i64 0])) (fun e w' hr => ⟨hr.1, hr.2.elim (fun h => h.2) (fun h => absurd hok h.1)⟩))
      have HT2 := Lib.hid (fun W hW => (HT2.out W hW).mono (R' := fun e w' => Below W.heap.size W w' ∧ e = .returned (.tuple #[.string (BS (txtL l)), .int .i64 0])) (fun e w' hr => ⟨hr.1, hr.2.elim (fun h => h.2) (fun h => absurd hok h.1)⟩))
      have hsz : (BS (txtL l)).size ≤ 40000 := by rw [BS_size]; exact txt_len hok
      obtain ⟨m, er, hm, hone, hm2⟩ := one_rd (BS (txtL l))
      obtain ⟨rfl, rfl⟩ := hm2 l hok rfl
      have HRD := Lib.hid (fun W h1 h2 => (read_any (BS (txtL m)) W hsz h1 h2).mono (fun e w' hr => hone W e w' hr))
      obtain ⟨sp, hsp⟩ : ∃ sp, sp = BS (txtL m) := ⟨_, rfl⟩
      rw [← hsp] at HT1 HT2 HRD
      have HM := Lib.hid hm
      clear h hp he hc hcm hok hone hm2 hsp hsz hm
      go_enter Tryd.func3, Tryd.ntmps3
      go_wp2_with (first
        | (go_at_call 7; refine (HP.out).mono ?_; rintro e w1 ⟨A2, c2, rfl, k1, k2, ho1, hx1⟩; have B1 := hx1)
        | (go_at_call 6; refine (HT1.out _ _ _ k1 k2 ho1 (HW.out _ B1).2.1).mono ?_; rintro e w2 ⟨hx2, rfl⟩; have B2 := bext B1 hx2 B1.size)
        | (go_at_call 8; refine (HT2.out _ B2).mono ?_; rintro e w3 ⟨hx3, rfl⟩; have B3 := bext B2 hx3 B2.size)
        | (go_at_call 5; refine (awake_any _).mono ?_; rintro e w4 ⟨rfl, hx4⟩; have B4 := bext B3 hx4 B3.size)
        | (go_at_call 9; refine (HRD.out _ (HW.out _ B4).2.1 (HW.out _ B4).2.2).mono ?_; rintro e w5 ⟨hx5, A5, c5, rfl, k3, k4, ho5⟩; have B5 := bext B4 hx5 B4.size)
        | (go_at_call 11; refine (HOL.out _ _ _ k3 k4 HM.out ho5).mono ?_; rintro e w6 ⟨A6, c6, rfl, k5, k6, ho6, hx6⟩; have B6 := bext B5 hx6 B5.size)
        | (go_at_call 10; refine (HEQ.out _ _ _ HM.out ho6 (HW.out _ B6).1).mono ?_; rintro e w7 ⟨rfl, hx7⟩; have B7 := bext B6 hx7 B6.size))
      go_ret
      exact ⟨rfl, B7⟩
    · obtain ⟨zz, hzz⟩ : ∃ zz : Int, zz = if 4096 < l.length then 3 else 2 := ⟨_, rfl⟩
      have hz3 : zz = 3 ∨ zz = 2 := by rw [hzz]; split <;> simp
      have HT1 := Lib.hid (fun A' c' W h1 h2 h3 h4 => (text_any A' c' l W h1 h2 h3 h4).mono (R' := fun e w' => Below W.heap.size W w' ∧ e = .returned (.tuple #[.string ⟨#[]⟩, .int .i64 zz])) (fun e w' hr => ⟨hr.1, hr.2.elim (fun h => absurd h.1 hok) (fun h => by rw [hzz]; exact h.2)⟩))
      have HT2 := Lib.hid (fun W hW => (HT2.out W hW).mono (R' := fun e w' => Below W.heap.size W w' ∧ e = .returned (.tuple #[.string ⟨#[]⟩, .int .i64 zz])) (fun e w' hr => ⟨hr.1, hr.2.elim (fun h => absurd h.1 hok) (fun h => by rw [hzz]; exact h.2)⟩))
      obtain ⟨m, er, hm, hone, hm2⟩ := one_rd ⟨#[]⟩
      have HRD := Lib.hid (fun W h1 h2 => (read_any ⟨#[]⟩ W (by decide) h1 h2).mono (fun e w' hr => hone W e w' hr))
      clear h hp he hc hcm hok hone hm2 hzz hm HOL HEQ
      rcases hz3 with rfl | rfl
      all_goals
        go_enter Tryd.func3, Tryd.ntmps3
        go_wp2_with (first
          | (go_at_call 7; refine (HP.out).mono ?_; rintro e w1 ⟨A2, c2, rfl, k1, k2, ho1, hx1⟩; have B1 := hx1)
          | (go_at_call 6; refine (HT1.out _ _ _ k1 k2 ho1 (HW.out _ B1).2.1).mono ?_; rintro e w2 ⟨hx2, rfl⟩; have B2 := bext B1 hx2 B1.size)
          | (go_at_call 8; refine (HT2.out _ B2).mono ?_; rintro e w3 ⟨hx3, rfl⟩; have B3 := bext B2 hx3 B2.size)
          | (go_at_call 5; refine (awake_any _).mono ?_; rintro e w4 ⟨rfl, hx4⟩; have B4 := bext B3 hx4 B3.size)
          | (go_at_call 9; refine (HRD.out _ (HW.out _ B4).2.1 (HW.out _ B4).2.2).mono ?_; rintro e w5 ⟨hx5, A5, c5, rfl, k3, k4, ho5⟩; have B5 := bext B4 hx5 B4.size))
        go_ret
        exact ⟨rfl, B5⟩
end Go.Proofs.YtfadkokdoehjnaaDoor
