/- Far walked, the program's. Conditions: the slice reads as a list of seams. -/
import Derived.Test.YtbhjhajnhpohlaaSh
import Derived.Test.YtbhjhajnhpohlaaShQ
namespace Go.Proofs.Ytbhjhajnhpohlaa
open Go.RowKit

/-- the arguments of Far are within their limits -/
def FOk (N : Int) (l : List Sm) (a b : Int) : Prop := GOk N l ∧ 0 ≤ a ∧ a < N ∧ 0 ≤ b ∧ b < N
/-- what Far answers -/
def RetFr (w : World) (N : Int) (l : List Sm) (a b : Int) (e : Ending) (w' : World) : Prop :=
  Below w.heap.size w w' ∧ ((¬ FOk N l a b ∧ e = .returned (.tuple #[.int .i64 0, .bool false, .int .i64 2])) ∨
    (FOk N l a b ∧ (tbl N.toNat l).L a.toNat b.toNat < far ∧ e = .returned (.tuple #[.int .i64 ((tbl N.toNat l).L a.toNat b.toNat), .bool true, .int .i64 0])) ∨
    (FOk N l a b ∧ ¬ (tbl N.toNat l).L a.toNat b.toNat < far ∧ e = .returned (.tuple #[.int .i64 0, .bool false, .int .i64 0])))

set_option maxRecDepth 100000 in
set_option maxHeartbeats 4000000 in
theorem Far_any (N : Int) (A : Option Addr) (cap : Nat) (l : List Sm) (a b : Int) (w : World) (hc : l.length ≤ cap) (hcm : cap ≤ 9223372036854775807) (h : SSl w A l) :
    Calls Try.prog 15 #[.agg #[.int .i64 N, .slice A l.length cap], .int .i64 a, .int .i64 b] w (RetFr w N l a b) := by
  have HV := Lib.hid (fun W (h : SSl W A l) => valid_any N A cap l W hc hcm h)
  have H := Lib.hid h
  have HB0 := Lib.hid (Bk.new 30 w #[.int .i64 N, .slice A l.length cap])
  have HE0 := Lib.hid (ext_alloc w (.cells #[.int .i64 N, .slice A l.length cap] 30))
  clear h
  by_cases hok : GOk N l
  · rw [vldG_yes hok] at HV
    by_cases hab : 0 ≤ a ∧ a < N ∧ 0 ≤ b ∧ b < N
    · have HOK := Lib.hid (show FOk N l a b from ⟨hok, hab⟩)
      obtain ⟨n, hn⟩ := Int.eq_ofNat_of_zero_le (show 0 ≤ N by have := hok.1; omega)
      subst hn
      have n2 : n ≤ 16 := by have := hok.2.1; omega
      obtain ⟨a1, a2, b1, b2⟩ := hab
      obtain ⟨ja, rfl⟩ := Int.eq_ofNat_of_zero_le a1
      obtain ⟨jb, rfl⟩ := Int.eq_ofNat_of_zero_le b1
      have HSH := Lib.hid (fun W (h : SSl W A l) => shortest_any n A cap l W hok hc hcm h)
      clear hok
      obtain ⟨x, hx⟩ : ∃ x, x = (tbl n l).L ja jb := ⟨_, rfl⟩
      have HX := Lib.hid hx
      by_cases hlt : x < 1099511627776
      · have hd : decide (x < 1099511627776) = true := decide_eq_true hlt
        clear hx
        go_enter Try.func15, Try.ntmps15
        go_wp2_with (first
          | (go_at_call 21; refine (HV.out _ (H.out.ext HE0.out)).mono ?_; rintro e w1 ⟨rfl, hx1⟩; have B1 := ext_trans HE0.out hx1; obtain ⟨f1, f2, f3⟩ := (HB0.out.ext hx1).facts)
          | (go_at_call 56; refine (HSH.out _ (H.out.ext B1)).mono ?_; rintro e w2 ⟨rfl, hs2⟩; have B2 := bext B1 hs2.1 B1.size; have q1 := hs2.atL (a := ja) (b := jb) (by omega) (by omega); rw [← HX.out] at q1))
        all_goals
          go_ret3
          exact ⟨B2, .inr (.inl ⟨HOK.out, by rw [Int.toNat_natCast, Int.toNat_natCast, Int.toNat_natCast, ← HX.out]; exact hlt, by rw [Int.toNat_natCast, Int.toNat_natCast, Int.toNat_natCast, ← HX.out]; rfl⟩)⟩
      · have hd : decide (x < 1099511627776) = false := decide_eq_false hlt
        clear hx
        go_enter Try.func15, Try.ntmps15
        go_wp2_with (first
          | (go_at_call 21; refine (HV.out _ (H.out.ext HE0.out)).mono ?_; rintro e w1 ⟨rfl, hx1⟩; have B1 := ext_trans HE0.out hx1; obtain ⟨f1, f2, f3⟩ := (HB0.out.ext hx1).facts)
          | (go_at_call 56; refine (HSH.out _ (H.out.ext B1)).mono ?_; rintro e w2 ⟨rfl, hs2⟩; have B2 := bext B1 hs2.1 B1.size; have q1 := hs2.atL (a := ja) (b := jb) (by omega) (by omega); rw [← HX.out] at q1))
        all_goals
          go_ret3
          exact ⟨B2, .inr (.inr ⟨HOK.out, by rw [Int.toNat_natCast, Int.toNat_natCast, Int.toNat_natCast, ← HX.out]; show ¬ x < 1099511627776; omega, rfl⟩)⟩
    · have HOK := Lib.hid (show ¬ FOk N l a b from fun h => hab h.2)
      clear hok
      have hcs : min a b < 0 ∨ N ≤ max a b := by omega
      clear hab
      go_enter Try.func15, Try.ntmps15
      go_wp2_with (go_at_call 21; refine (HV.out _ (H.out.ext HE0.out)).mono ?_; rintro e w1 ⟨rfl, hx1⟩; have B1 := ext_trans HE0.out hx1; obtain ⟨f1, f2, f3⟩ := (HB0.out.ext hx1).facts)
      all_goals
        first
          | (exfalso; omega)
          | (go_ret3; exact ⟨B1, .inl ⟨HOK.out, rfl⟩⟩)
  · rw [vldG_no hok] at HV
    have HOK := Lib.hid (show ¬ FOk N l a b from fun h => hok h.1)
    clear hok
    go_enter Try.func15, Try.ntmps15
    go_wp2_with (go_at_call 21; refine (HV.out _ (H.out.ext HE0.out)).mono ?_; rintro e w1 ⟨rfl, hx1⟩; have B1 := ext_trans HE0.out hx1)
    go_ret3
    exact ⟨B1, .inl ⟨HOK.out, rfl⟩⟩
end Go.Proofs.Ytbhjhajnhpohlaa
