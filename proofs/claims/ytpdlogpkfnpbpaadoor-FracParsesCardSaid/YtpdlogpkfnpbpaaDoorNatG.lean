/- Walks of the reference's divided and divisor on naturals, whole. Conditions: the arguments lie in memory as naturals of at most 20,000 digits; the divisor is not zero. -/
import Derived.Test.YtpdlogpkfnpbpaaDoorNatF
namespace Go.Proofs.YtpdlogpkfnpbpaaDoor
open Go.RowKit

theorem divided_any (va vb : Value) (a b : Nat) (w : World) (ha : NatAt w va a) (hb : NatAt w vb b) (za : (Num.dig a).length ≤ 20000) (zb : (Num.dig b).length ≤ 20000) (h0 : 0 < b) :
    Calls Tryd.prog 58 #[va, vb] w (RetNat2 w (a / b) (a % b)) := by
  by_cases h : (Num.dig a).length ≤ 2 ∧ (Num.dig b).length ≤ 2
  · exact divided_short va vb a b w ha hb (Num.dig_len_two.1 h.1) (Num.dig_len_two.1 h.2) h0
  · exact divided_long va vb a b w ha hb za zb h h0

theorem natAt_len {w : World} {v : Value} {n : Nat} (h : NatAt w v n) : ∃ A c, v = .slice A (Num.dig n).length c := by
  obtain ⟨A, c, h, _⟩ := h
  rw [u32s_len] at h
  exact ⟨A, c, h⟩

set_option maxHeartbeats 1000000 in
theorem divisor_any (va vb : Value) (a b : Nat) (w : World) (ha : NatAt w va a) (hb : NatAt w vb b) (za : (Num.dig a).length ≤ 20000) (zb : (Num.dig b).length ≤ 20000) :
    Calls Tryd.prog 57 #[va, vb] w (RetNat w (Nat.gcd a b)) := by
  have HA := Lib.hid ha
  have HB := Lib.hid hb
  clear ha hb
  go_enter Tryd.func57, Tryd.ntmps57
  go_wp2
  go_loopg [0, 1] b (fun q x y wr => ∃ p : Nat, NatAt wr x p ∧ NatAt wr y q ∧ (Num.dig p).length ≤ 20000 ∧ (Num.dig q).length ≤ 20000 ∧ Nat.gcd a b = Nat.gcd p q ∧ Below w.heap.size w wr)
  case atStart => exact ⟨a, HA.out, HB.out, za, zb, rfl, Below.refl _ _⟩
  case round =>
    obtain ⟨p, hp, hq, zp, zq, hg, hbel⟩ := hrel
    obtain ⟨A, c, rfl⟩ := natAt_len hq
    have HG := Lib.hid hg
    have HP := Lib.hid hp
    have HQ := Lib.hid hq
    clear hg hp hq
    by_cases h0 : gk = 0
    · subst h0
      rw [Num.dig_zero]
      have hq := HQ.out
      go_wp2
      go_ret
      exact ⟨_, rfl, by rw [HG.out]; simpa using HP.out, hbel⟩
    · have h1 : 0 < (Num.dig gk).length := by
        rcases Nat.eq_zero_or_pos (Num.dig gk).length with h | h
        · exact absurd (Num.dig_len_zero.1 h) h0
        · exact h
      go_wp2_with (go_at_call 58; refine (divided_any _ _ p gk _ HP.out HQ.out zp zq (by omega)).mono ?_; rintro e w2 ⟨v, u, rfl, hv, hu, hb2⟩)
      go_roundg (p % gk)
      case measure => exact Nat.mod_lt _ (by omega)
      case rel => exact ⟨gk, HQ.out.ext hb2, hu, zq, Nat.le_trans (Num.len_mono (Nat.le_of_lt (Nat.mod_lt _ (by omega)))) zq, by rw [HG.out, Nat.gcd_comm p gk, Nat.gcd_rec gk p, Nat.gcd_comm], ext_trans hbel hb2⟩
end Go.Proofs.YtpdlogpkfnpbpaaDoor
