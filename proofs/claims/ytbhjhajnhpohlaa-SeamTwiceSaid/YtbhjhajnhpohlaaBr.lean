/- Pieces and Bridges walked, the program's. Conditions: the slice reads as a list of seams. -/
import Derived.Test.YtbhjhajnhpohlaaPi
namespace Go.Proofs.Ytbhjhajnhpohlaa
open Go.RowKit

/-- what Pieces answers -/
def RetPi (w : World) (N : Int) (l : List Sm) (e : Ending) (w' : World) : Prop :=
  Below w.heap.size w w' ∧ ((¬ GOk N l ∧ e = .returned (.tuple #[.int .i64 0, .int .i64 2])) ∨ (GOk N l ∧ e = .returned (.tuple #[.int .i64 (pcs N.toNat l (-1) : Nat), .int .i64 0])))
/-- what Bridges answers -/
def RetBr (w : World) (N : Int) (l : List Sm) (e : Ending) (w' : World) : Prop :=
  Below w.heap.size w w' ∧ ((¬ GOk N l ∧ e = .returned (.tuple #[.slice none 0 0, .int .i64 2])) ∨
    (GOk N l ∧ ∃ A cap, e = .returned (.tuple #[.slice A (brd N.toNat l l.length).length cap, .int .i64 0]) ∧ ISl w' A (brd N.toNat l l.length)))

set_option maxRecDepth 100000 in
set_option maxHeartbeats 4000000 in
theorem Pieces_any (N : Int) (A : Option Addr) (cap : Nat) (l : List Sm) (w : World) (hc : l.length ≤ cap) (hcm : cap ≤ 9223372036854775807) (h : SSl w A l) :
    Calls Try.prog 28 #[.agg #[.int .i64 N, .slice A l.length cap]] w (RetPi w N l) := by
  have HV := Lib.hid (fun W (h : SSl W A l) => valid_any N A cap l W hc hcm h)
  have H := Lib.hid h
  have HB0 := Lib.hid (Bk.new 30 w #[.int .i64 N, .slice A l.length cap])
  have HE0 := Lib.hid (ext_alloc w (.cells #[.int .i64 N, .slice A l.length cap] 30))
  clear h
  by_cases hok : GOk N l
  · rw [vldG_yes hok] at HV
    have HOK := Lib.hid hok
    obtain ⟨n, hn⟩ := Int.eq_ofNat_of_zero_le (show 0 ≤ N by have := hok.1; omega)
    subst hn
    have HP := Lib.hid (fun W (h : SSl W A l) => pieces_any n A cap l (-1) W hok hc hcm h)
    clear hok
    go_enter Try.func28, Try.ntmps28
    go_wp2_with (first
      | (go_at_call 21; refine (HV.out _ (H.out.ext HE0.out)).mono ?_; rintro e w1 ⟨rfl, hx1⟩; have B1 := ext_trans HE0.out hx1; obtain ⟨f1, f2, f3⟩ := (HB0.out.ext hx1).facts)
      | (go_at_call 62; refine (HP.out _ (H.out.ext B1)).mono ?_; rintro e w2 ⟨rfl, hx2⟩; have B2 := bext B1 hx2 B1.size))
    go_ret2
    exact ⟨B2, .inr ⟨HOK.out, rfl⟩⟩
  · rw [vldG_no hok] at HV
    have HOK := Lib.hid hok
    clear hok
    go_enter Try.func28, Try.ntmps28
    go_wp2_with (go_at_call 21; refine (HV.out _ (H.out.ext HE0.out)).mono ?_; rintro e w1 ⟨rfl, hx1⟩; have B1 := ext_trans HE0.out hx1)
    go_ret2
    exact ⟨B1, .inl ⟨HOK.out, rfl⟩⟩

set_option maxRecDepth 100000 in
set_option maxHeartbeats 4000000 in
theorem Bridges_any (N : Int) (A : Option Addr) (cap : Nat) (l : List Sm) (w : World) (hc : l.length ≤ cap) (hcm : cap ≤ 9223372036854775807) (h : SSl w A l) :
    Calls Try.prog 30 #[.agg #[.int .i64 N, .slice A l.length cap]] w (RetBr w N l) := by
  have HV := Lib.hid (fun W (h : SSl W A l) => valid_any N A cap l W hc hcm h)
  have H := Lib.hid h
  have HB0 := Lib.hid (Bk.new 30 w #[.int .i64 N, .slice A l.length cap])
  have HE0 := Lib.hid (ext_alloc w (.cells #[.int .i64 N, .slice A l.length cap] 30))
  clear h
  by_cases hok : GOk N l
  · rw [vldG_yes hok] at HV
    have HOK := Lib.hid hok
    have l64 := hok.2.2.1
    obtain ⟨n, hn⟩ := Int.eq_ofNat_of_zero_le (show 0 ≤ N by have := hok.1; omega)
    subst hn
    have HP := Lib.hid (fun but W (h : SSl W A l) => pieces_any n A cap l but W hok hc hcm h)
    clear hok
    go_enter Try.func30, Try.ntmps30
    go_wp2_with (go_at_call 21; refine (HV.out _ (H.out.ext HE0.out)).mono ?_; rintro e w1 ⟨rfl, hx1⟩; have B1 := Lib.hid (ext_trans HE0.out hx1); have HG1 := Lib.hid (HB0.out.ext hx1); obtain ⟨f1, f2, f3⟩ := HG1.out.facts; clear hx1)
    go_loopg [12, 4] l.length (fun g i v wr => ∃ k : Nat, i = .int .i64 k ∧ k ≤ l.length ∧ g = l.length - k ∧ Vi (w.heap.size + 1) wr v (brd n l k) ∧ Below w.heap.size w wr ∧ Bk 30 wr w.heap.size #[.int .i64 (n : Int), .slice A l.length cap])
    case atStart => exact ⟨0, rfl, by omega, by omega, Vi.nil _ _, B1.out, HG1.out⟩
    case round =>
      obtain ⟨k, rfl, hk, hg, hv, hb, hbk⟩ := hrel
      have HG := Lib.hid hg
      have HVI := Lib.hid hv
      have HB := Lib.hid hb
      have HBK := Lib.hid hbk
      obtain ⟨f1, f2, f3⟩ := hbk.facts
      clear hg hv hb hbk
      by_cases hlt : k < l.length
      · obtain ⟨wo, rfl⟩ : ∃ wo : World, wo = wr := ⟨_, rfl⟩
        have hlen := brd_len n l k
        have HST := Lib.hid (show brd n l (k + 1) = if pcs n l (-1) < pcs n l k then brd n l k ++ [(k : Int)] else brd n l k from rfl)
        have HK := Lib.hid (show ∀ wx wy, Below wx.heap.size wx wy → Below wo.heap.size wo wx → (Below wo.heap.size wo wy ∧ wy.cell? ⟨w.heap.size, 0, none⟩ = some (.int .i64 (n : Int)) ∧ wy.cell? ⟨w.heap.size, 1, none⟩ = some (.slice A l.length cap)) from fun wx wy h1 h2 =>
          have h3 := bext h2 h1 h2.size
          ⟨h3, (HBK.out.ext h3).cell 0, (HBK.out.ext h3).cell 1⟩)
        go_upto_region 7 with (fail)
        go_cut [20] (fun z wx => z = .bool (decide (pcs n l (-1) < pcs n l k)) ∧ Below wo.heap.size wo wx)
        case first =>
          go_region_held3 (fun wx => Below wo.heap.size wo wx ∧ wx.cell? ⟨w.heap.size, 0, none⟩ = some (.int .i64 (n : Int)) ∧ wx.cell? ⟨w.heap.size, 1, none⟩ = some (.slice A l.length cap))
            (first | exact HK.out _ _ (by assumption) (And.left (by assumption)) | exact HK.out _ _ (ext_drew _) (Below.refl _ _))
            ((go_at_call 62; refine (HP.out _ _ ?_).mono ?_; exact H.out.ext (bext HB.out (And.left (by assumption)) HB.out.size); rintro e w4 ⟨rfl, hx4⟩))
          all_goals
            go_wp2
            go_meet
            exact ⟨by simp, And.left (by assumption)⟩
        case rest =>
          obtain ⟨rfl, hx⟩ := hcut
          have HX := Lib.hid hx
          clear hx HK
          by_cases hlt2 : pcs n l (-1) < pcs n l k
          · have hd : decide (pcs n l (-1) < pcs n l k) = true := decide_eq_true hlt2
            have hst := HST.out
            rw [if_pos hlt2] at hst
            have HST2 := Lib.hid hst
            have HV2 := Lib.hid (HVI.out.ext HX.out)
            have HBK2 := Lib.hid (HBK.out.ext HX.out)
            rw [hd]
            clear hst HST hlt2
            go_wp2_with (at_builtin; refine wpList_pushI _ rfl _ _ rfl (w.heap.size + 1) HV2.out (by rfl) (by rfl) rfl (by omega) HBK2.out.lt ?_; intro v5 w5 hv5 hb5 hk5; have hk6 := (hk5 _ HBK2.out.lt (HV2.out.ne HBK2.out (by decide))).trans HBK2.out)
            go_roundg (l.length - (k + 1))
            case measure => have := HG.out; omega
            case rel => exact ⟨k + 1, by go_num, by omega, rfl, by rw [HST2.out]; exact hv5, (bext HB.out HX.out HB.out.size).trans (hb5.mono (by omega)), hk6⟩
          · have hd : decide (pcs n l (-1) < pcs n l k) = false := decide_eq_false hlt2
            have hst := HST.out
            rw [if_neg hlt2] at hst
            have HST2 := Lib.hid hst
            rw [hd]
            clear hst HST hlt2
            go_wp2
            go_roundg (l.length - (k + 1))
            case measure => have := HG.out; omega
            case rel => exact ⟨k + 1, by go_num, by omega, rfl, by rw [HST2.out]; exact HVI.out.ext HX.out, bext HB.out HX.out HB.out.size, HBK.out.ext HX.out⟩
      · obtain rfl : k = l.length := by omega
        obtain ⟨A5, c5, rfl, -, -, hi5⟩ := HVI.out.isl
        go_wp2
        go_ret2
        exact ⟨HB.out, .inr ⟨HOK.out, A5, c5, rfl, hi5⟩⟩
  · rw [vldG_no hok] at HV
    have HOK := Lib.hid hok
    clear hok
    go_enter Try.func30, Try.ntmps30
    go_wp2_with (go_at_call 21; refine (HV.out _ (H.out.ext HE0.out)).mono ?_; rintro e w1 ⟨rfl, hx1⟩; have B1 := ext_trans HE0.out hx1)
    go_ret2
    exact ⟨B1, .inl ⟨HOK.out, rfl⟩⟩
end Go.Proofs.Ytbhjhajnhpohlaa
