/- Far walked, the reference's. Conditions: the slice reads as a list of seams. -/
import Derived.Test.YtbhjhajnhpohlaaWy
import Derived.Test.YtbhjhajnhpohlaaFr
namespace Go.Proofs.Ytbhjhajnhpohlaa
open Go.RowKit

set_option maxRecDepth 100000 in
set_option maxHeartbeats 4000000 in
theorem rFar_any (N : Int) (A : Option Addr) (cap : Nat) (l : List Sm) (a b : Int) (w : World) (hc : l.length ≤ cap) (hcm : cap ≤ 9223372036854775807) (h : SSl w A l) :
    Calls Try.prog 17 #[.agg #[.int .i64 N, .slice A l.length cap], .int .i64 a, .int .i64 b] w (RetFr w N l a b) := by
  have HV := Lib.hid (fun W (h : SSl W A l) => rvalid_any N A cap l W hc hcm h)
  have H := Lib.hid h
  have HB0 := Lib.hid (Bk.new 24 w #[.int .i64 N, .slice A l.length cap])
  have HE0 := Lib.hid (ext_alloc w (.cells #[.int .i64 N, .slice A l.length cap] 24))
  clear h
  by_cases hok : GOk N l
  · rw [vldG_yes hok] at HV
    by_cases hab : 0 ≤ a ∧ a < N ∧ 0 ≤ b ∧ b < N
    · have HOK := Lib.hid (show FOk N l a b from ⟨hok, hab⟩)
      obtain ⟨n, hn⟩ := Int.eq_ofNat_of_zero_le (show 0 ≤ N by have := hok.1; omega)
      subst hn
      have n2 : n ≤ 16 := by have := hok.2.1; omega
      obtain ⟨a1, a2, b1, b2⟩ := hab
      obtain ⟨ja, rfl⟩ := Int.eq_ofNat_of_zero_le a1
      obtain ⟨jb, rfl⟩ := Int.eq_ofNat_of_zero_le b1
      have HSH := Lib.hid (fun W (h : SSl W A l) => ways_any n A cap l W hok hc hcm h)
      clear hok
      obtain ⟨x, hx⟩ : ∃ x, x = (tbl n l).L ja jb := ⟨_, rfl⟩
      have HX := Lib.hid hx
      by_cases hlt : x < 1099511627776
      · have hd : decide (x < 1099511627776) = true := decide_eq_true hlt
        clear hx
        go_enter Try.func17, Try.ntmps17
        go_wp2_with (first
          | (go_at_call 22; refine (HV.out _ (H.out.ext HE0.out)).mono ?_; rintro e w1 ⟨rfl, hx1⟩; have B1 := ext_trans HE0.out hx1; obtain ⟨f1, f2, f3⟩ := (HB0.out.ext hx1).facts)
          | (go_at_call 57; refine (HSH.out _ (H.out.ext B1)).mono ?_; rintro e w2 ⟨rfl, B, hs2⟩; have B2 := bext B1 hs2.1 B1.size; have q0 := hs2.out (i := ja) (by omega) (by omega); have q1 := (hs2.2.2.2.1 ja (by omega)).2.cell (i := jb) (by omega); rw [← HX.out] at q1))
        all_goals
          go_ret3
          exact ⟨B2, .inr (.inl ⟨HOK.out, by rw [Int.toNat_natCast, Int.toNat_natCast, Int.toNat_natCast, ← HX.out]; exact hlt, by rw [Int.toNat_natCast, Int.toNat_natCast, Int.toNat_natCast, ← HX.out]; rfl⟩)⟩
      · have hd : decide (x < 1099511627776) = false := decide_eq_false hlt
        clear hx
        go_enter Try.func17, Try.ntmps17
        go_wp2_with (first
          | (go_at_call 22; refine (HV.out _ (H.out.ext HE0.out)).mono ?_; rintro e w1 ⟨rfl, hx1⟩; have B1 := ext_trans HE0.out hx1; obtain ⟨f1, f2, f3⟩ := (HB0.out.ext hx1).facts)
          | (go_at_call 57; refine (HSH.out _ (H.out.ext B1)).mono ?_; rintro e w2 ⟨rfl, B, hs2⟩; have B2 := bext B1 hs2.1 B1.size; have q0 := hs2.out (i := ja) (by omega) (by omega); have q1 := (hs2.2.2.2.1 ja (by omega)).2.cell (i := jb) (by omega); rw [← HX.out] at q1))
        all_goals
          go_ret3
          exact ⟨B2, .inr (.inr ⟨HOK.out, by rw [Int.toNat_natCast, Int.toNat_natCast, Int.toNat_natCast, ← HX.out]; show ¬ x < 1099511627776; omega, rfl⟩)⟩
    · have HOK := Lib.hid (show ¬ FOk N l a b from fun h => hab h.2)
      clear hok
      have hcs : min a b < 0 ∨ N ≤ max a b := by omega
      clear hab
      go_enter Try.func17, Try.ntmps17
      go_wp2_with (go_at_call 22; refine (HV.out _ (H.out.ext HE0.out)).mono ?_; rintro e w1 ⟨rfl, hx1⟩; have B1 := ext_trans HE0.out hx1; obtain ⟨f1, f2, f3⟩ := (HB0.out.ext hx1).facts)
      all_goals
        first
          | (exfalso; omega)
          | (go_ret3; exact ⟨B1, .inl ⟨HOK.out, rfl⟩⟩)
  · rw [vldG_no hok] at HV
    have HOK := Lib.hid (show ¬ FOk N l a b from fun h => hok h.1)
    clear hok
    go_enter Try.func17, Try.ntmps17
    go_wp2_with (go_at_call 22; refine (HV.out _ (H.out.ext HE0.out)).mono ?_; rintro e w1 ⟨rfl, hx1⟩; have B1 := ext_trans HE0.out hx1)
    go_ret3
    exact ⟨B1, .inl ⟨HOK.out, rfl⟩⟩
end Go.Proofs.Ytbhjhajnhpohlaa
