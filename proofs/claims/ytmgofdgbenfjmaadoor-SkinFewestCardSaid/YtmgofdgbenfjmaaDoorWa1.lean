/- Texts joined: Wa, Ch. Conditions: see each. -/
import Derived.Test.YtmgofdgbenfjmaaDoorPn2
import Derived.Test.YtmgofdgbenfjmaaDoorWaP
import Derived.Test.YtmgofdgbenfjmaaDoorVh1
namespace Go.Proofs.YtmgofdgbenfjmaaDoor
open Go.RowKit

/-- the five blocks of ways: corner, results, the two that run -/
def WyS (W : World) (p q : Nat) (x y ax ay bx by_ : Int) (wr : World) : Prop :=
  Bk 71 wr W.heap.size #[.int .i64 x, .int .i64 y] ∧ Bk 156 wr (W.heap.size + 1) #[.int .i64 0, .int .i64 0, .int .i64 0, .int .i64 0] ∧ Bk 156 wr (W.heap.size + 1 + 1) #[.int .i64 0, .int .i64 0, .int .i64 0, .int .i64 0] ∧
  Bk 71 wr p #[.int .i64 ax, .int .i64 ay] ∧ Bk 71 wr q #[.int .i64 bx, .int .i64 by_] ∧ Below W.heap.size W wr ∧ W.heap.size + 3 ≤ p ∧ W.heap.size + 3 ≤ q ∧ p ≠ q
section
variable {W wr w' : World} {p q : Nat} {x y ax ay bx by_ : Int}
theorem WyS.ext (h : WyS W p q x y ax ay bx by_ wr) (hb : Below wr.heap.size wr w') : WyS W p q x y ax ay bx by_ w' := ⟨h.1.ext hb, h.2.1.ext hb, h.2.2.1.ext hb, h.2.2.2.1.ext hb, h.2.2.2.2.1.ext hb, ext_trans h.2.2.2.2.2.1 hb, h.2.2.2.2.2.2⟩
theorem WyS.setp (h : WyS W p q x y ax ay bx by_ wr) {k : Nat} {v : Value} {ax' ay' : Int} (e : #[Value.int .i64 ax, .int .i64 ay].setIfInBounds k v = #[.int .i64 ax', .int .i64 ay']) : WyS W p q x y ax' ay' bx by_ (wr.setCell ⟨p, k, none⟩ v) := by
  obtain ⟨h1, h2, h3, h4, h5, h6, h7, h8, h9⟩ := h
  exact ⟨h1.set_ne (by omega) _, h2.set_ne (by omega) _, h3.set_ne (by omega) _, by rw [← e]; exact h4.set _ _, h5.set_ne (by omega) _, h6.setCell (by show W.heap.size ≤ p; omega) _, h7, h8, h9⟩
theorem WyS.setq (h : WyS W p q x y ax ay bx by_ wr) {k : Nat} {v : Value} {bx' by' : Int} (e : #[Value.int .i64 bx, .int .i64 by_].setIfInBounds k v = #[.int .i64 bx', .int .i64 by']) : WyS W p q x y ax ay bx' by' (wr.setCell ⟨q, k, none⟩ v) := by
  obtain ⟨h1, h2, h3, h4, h5, h6, h7, h8, h9⟩ := h
  exact ⟨h1.set_ne (by omega) _, h2.set_ne (by omega) _, h3.set_ne (by omega) _, h4.set_ne (by omega) _, by rw [← e]; exact h5.set _ _, h6.setCell (by show W.heap.size ≤ q; omega) _, h7, h8, h9⟩
end
theorem runR_yes {u : Int → Int → Bool} {y x : Int} {n : Nat} (h : fl u x y = true) : runR u y (n + 1) x = runR u y n (x + 1) := by rw [runR, if_pos h]
theorem runR_no {u : Int → Int → Bool} {y x : Int} {n : Nat} (h : fl u x y = false) : runR u y n x = x := by
  cases n with
  | zero => rfl
  | succ n => rw [runR, if_neg (by simp [h])]
theorem runL_yes {u : Int → Int → Bool} {y x : Int} {n : Nat} (h : fl u (x - 1) y = true) : runL u y (n + 1) x = runL u y n (x - 1) := by rw [runL, if_pos h]
theorem runL_no {u : Int → Int → Bool} {y x : Int} {n : Nat} (h : fl u (x - 1) y = false) : runL u y n x = x := by
  cases n with
  | zero => rfl
  | succ n => rw [runL, if_neg (by simp [h])]
theorem us_in {l : List ByteArray} {g : Int} (_hok : SkOk l) (hg : 1 ≤ g) {x y : Int} (h : us l g x y = true) : 0 ≤ x ∧ x < wid l ∧ 0 ≤ y ∧ y < l.length := by
  have h1 := of_decide_eq_true h
  unfold gr at h1
  split at h1
  · rename_i hh; omega
  · omega
set_option maxRecDepth 100000 in
set_option maxHeartbeats 8000000 in
theorem ways_any (x y : Int) (b : Nat) (l : List ByteArray) (g : Int) (m1 m2 : Value) (W : World) (h : PlW W b l g m1 m2) (hg : 1 ≤ g) (hx : 0 ≤ x ∧ x ≤ 48) (hy : 0 ≤ y ∧ y ≤ 48) :
    Calls Tryd.prog 109 #[.pointer (some ⟨b, 0, none⟩), .agg #[.int .i64 x, .int .i64 y]] W fun e w' => e = .returned (.tuple #[.agg #[.int .i64 x, .int .i64 y, .int .i64 (wayT (us l g) x y), .int .i64 y], .agg #[.int .i64 x, .int .i64 y, .int .i64 x, .int .i64 (wayS (us l g) x y)]]) ∧ Below W.heap.size W w' := by
  have hw1 : (wid l : Int) ≤ 48 := by have := h.ok.2.2.2.1; omega
  have hw2 : (l.length : Int) ≤ 48 := by have := h.ok.2.1; omega
  have HO := Lib.hid (show ∀ a b : Int, fl (us l g) a b = true → 0 ≤ a ∧ a < 48 ∧ 0 ≤ b ∧ b < 48 from fun a b k => by
    have := us_in h.ok hg (Bool.and_eq_true_iff.1 k).2; omega)
  have HO2 := Lib.hid (show ∀ a b : Int, fl (trU (us l g)) a b = true → 0 ≤ a ∧ a < 48 ∧ 0 ≤ b ∧ b < 48 from fun a b k => by
    have : us l g b a = true := (Bool.and_eq_true_iff.1 k).2
    have := us_in h.ok hg this; omega)
  have HF := Lib.hid (fun V (hV : Below W.heap.size W V) x y hx hy => (show Calls Tryd.prog 134 #[.pointer (some ⟨b, 0, none⟩), .agg #[.int .i64 x, .int .i64 y]] V fun e w' => e = .returned (.bool (fl (us l g) x y)) ∧ Below V.heap.size V w' from flat_any x y b l g m1 m2 V (h.ext hV) hx hy))
  have HS := Lib.hid (fun V (hV : Below W.heap.size W V) x y hx hy => (show Calls Tryd.prog 135 #[.pointer (some ⟨b, 0, none⟩), .agg #[.int .i64 x, .int .i64 y]] V fun e w' => e = .returned (.bool (fl (trU (us l g)) y x)) ∧ Below V.heap.size V w' from steep_any x y b l g m1 m2 V (h.ext hV) hx hy))
  obtain ⟨hx1, hx2⟩ := hx
  obtain ⟨hy1, hy2⟩ := hy
  clear h hw1 hw2 hg
  unfold wayS
  generalize us l g = u at HO HO2 HF HS ⊢
  obtain ⟨t, ht⟩ : ∃ t, t = wayT u x y := ⟨_, rfl⟩
  obtain ⟨s, hs⟩ : ∃ s, s = wayT (trU u) y x := ⟨_, rfl⟩
  rw [← ht, ← hs]
  have HT := Lib.hid ht
  have HSS := Lib.hid hs
  clear ht hs
  go_enter Tryd.func109, Tryd.ntmps109
  go_upto_region 1 with (fail)
  have HA := Lib.hid ((Bk.new 71 W #[.int .i64 x, .int .i64 y]).alloc (.cells #[.int .i64 0, .int .i64 0, .int .i64 0, .int .i64 0] 156) |>.alloc (.cells #[.int .i64 0, .int .i64 0, .int .i64 0, .int .i64 0] 156))
  have HA1 := Lib.hid ((Bk.new 156 (W.alloc (.cells #[.int .i64 x, .int .i64 y] 71)) #[.int .i64 0, .int .i64 0, .int .i64 0, .int .i64 0]).alloc (.cells #[.int .i64 0, .int .i64 0, .int .i64 0, .int .i64 0] 156))
  have HA2 := Lib.hid (Bk.new 156 ((W.alloc (.cells #[.int .i64 x, .int .i64 y] 71)).alloc (.cells #[.int .i64 0, .int .i64 0, .int .i64 0, .int .i64 0] 156)) #[.int .i64 0, .int .i64 0, .int .i64 0, .int .i64 0])
  have HX := Lib.hid (ext_trans (ext_alloc W (.cells #[.int .i64 x, .int .i64 y] 71)) (ext_trans (ext_alloc _ (.cells #[.int .i64 0, .int .i64 0, .int .i64 0, .int .i64 0] 156)) (ext_alloc _ (.cells #[.int .i64 0, .int .i64 0, .int .i64 0, .int .i64 0] 156))))
  have HZ := Lib.hid (show (((W.alloc (.cells #[.int .i64 x, .int .i64 y] 71)).alloc (.cells #[.int .i64 0, .int .i64 0, .int .i64 0, .int .i64 0] 156)).alloc (.cells #[.int .i64 0, .int .i64 0, .int .i64 0, .int .i64 0] 156)).heap.size = W.heap.size + 3 from by simp only [World.size_alloc])
  simp only [World.size_alloc] at HA1 HA2
  obtain ⟨X, hX⟩ : ∃ X, X = ((W.alloc (.cells #[.int .i64 x, .int .i64 y] 71)).alloc (.cells #[.int .i64 0, .int .i64 0, .int .i64 0, .int .i64 0] 156)).alloc (.cells #[.int .i64 0, .int .i64 0, .int .i64 0, .int .i64 0] 156) := ⟨_, rfl⟩
  rw [← hX] at HA HA1 HA2 HX HZ ⊢
  clear hX
  obtain ⟨f1, f2, f3⟩ := HA.out.facts
  have HB1 := Lib.hid ((Bk.new 71 X #[.int .i64 x, .int .i64 y]).alloc (.cells #[.int .i64 x, .int .i64 y] 71))
  have HB2 := Lib.hid (Bk.new 71 (X.alloc (.cells #[.int .i64 x, .int .i64 y] 71)) #[.int .i64 x, .int .i64 y])
  have HB3 := Lib.hid (ext_trans (ext_trans (ext_alloc X (.cells #[.int .i64 x, .int .i64 y] 71)) (ext_alloc (X.alloc (.cells #[.int .i64 x, .int .i64 y] 71)) (.cells #[.int .i64 x, .int .i64 y] 71))) (ext_drew _))
  simp only [World.size_alloc] at HB2
  go_cut [6, 7] from 8 (fun v6 v7 wx => ∃ p q : Nat, v6 = .pointer (some ⟨p, 0, none⟩) ∧ v7 = .pointer (some ⟨q, 0, none⟩) ∧ WyS W p q x y x y x y wx)
  case first =>
    go_region
    · go_wp2
      go_meet
      case rel => exact ⟨X.heap.size, X.heap.size + 1, rfl, rfl, HA.out.ext HB3.out, HA1.out.ext HB3.out, HA2.out.ext HB3.out, HB1.out, HB2.out, ext_trans HX.out HB3.out, by have := HZ.out; omega, by have := HZ.out; omega, by omega⟩
    · go_wp2
      go_meet
      case rel => exact ⟨X.heap.size + 1, X.heap.size, rfl, rfl, HA.out.ext HB3.out, HA1.out.ext HB3.out, HA2.out.ext HB3.out, HB2.out, HB1.out, ext_trans HX.out HB3.out, by have := HZ.out; omega, by have := HZ.out; omega, by omega⟩
  case rest =>
    clear f1 f2 f3
    obtain ⟨p, q, rfl, rfl, hws⟩ := hcut
    have H0 := Lib.hid hws
    obtain ⟨f1, f2, f3⟩ := hws.1.facts
    clear hws HA HA1 HA2 HX HZ HB1 HB2 HB3
    rename_i hKc
    refine hKc _ _ ?_
    go_step
    go_cut [12] from 10 (fun _ wx => WyS W p q x y t y x y wx)
    case first =>
      cases hf : fl u x y with
      | true =>
        have HT1 := Lib.hid (show t = runR u y (60 - 0) x from by have h := HT.out; unfold wayT at h; rw [if_pos hf] at h; exact h)
        go_upto_region 3 with (go_at_call 134; refine (HF.out _ H0.out.2.2.2.2.2.1 x y ⟨by omega, by omega⟩ ⟨by omega, by omega⟩).mono ?_; rintro e w6 ⟨rfl, hx6⟩; rw [hf])
        have H1 := Lib.hid (H0.out.ext hx6)
        clear hx6 hf f1 f2 f3
        go_wp2
        go_loopg [15] 60 (fun gg _ wr => ∃ (k : Nat) (a : Int), a = x + (k : Int) ∧ k ≤ 60 ∧ gg = 60 - k ∧ t = runR u y (60 - k) a ∧ WyS W p q x y a y x y wr)
        case atStart => exact ⟨0, x, by omega, by omega, by omega, HT1.out, H1.out⟩
        case round =>
          obtain ⟨k, a, ha, hk, hgg, ht, hws⟩ := hrel
          have HG := Lib.hid hgg
          have HAX := Lib.hid ha
          have HTR := Lib.hid ht
          have HW := Lib.hid hws
          have hb1 : -100 ≤ a := by omega
          have hb2 : a ≤ 200 := by omega
          obtain ⟨q1, q2, q3⟩ := hws.2.2.2.1.facts
          clear ha hgg ht hws H1 HT1
          cases hf2 : fl u a y with
          | true =>
            have hin := HO.out _ _ hf2
            obtain ⟨hin1, hin2, _, _⟩ := hin
            have hk60 : k < 60 := by have := HAX.out; omega
            have HT2 := Lib.hid (show t = runR u y (60 - (k + 1)) (a + 1) from by
              have h := HTR.out
              rw [show 60 - k = (60 - (k + 1)) + 1 by omega, runR_yes hf2] at h
              exact h)
            go_upto_region 4 with (go_at_call 134; refine (HF.out _ HW.out.2.2.2.2.2.1 a y ⟨by omega, by omega⟩ ⟨by omega, by omega⟩).mono ?_; rintro e w7 ⟨rfl, hx7⟩; rw [hf2])
            have HW7 := Lib.hid (HW.out.ext hx7)
            clear hx7 hf2 q1 q2 q3
            obtain ⟨q1, q2, q3⟩ := HW7.out.2.2.2.1.facts
            have HW8 := Lib.hid (HW7.out.setp (k := 0) (v := .int .i64 (a + 1)) (ax' := (a + 1)) (ay' := y) rfl)
            go_wp2
            go_roundg (60 - (k + 1))
            case measure => have := HG.out; omega
            case rel => exact ⟨k + 1, a + 1, by have := HAX.out; omega, by omega, rfl, HT2.out, HW8.out⟩
          | false =>
            have HT2 := Lib.hid (show t = a from by
              have h := HTR.out
              rw [runR_no hf2] at h
              exact h)
            go_wp2_with (go_at_call 134; refine (HF.out _ HW.out.2.2.2.2.2.1 a y ⟨by omega, by omega⟩ ⟨by omega, by omega⟩).mono ?_; rintro e w7 ⟨rfl, hx7⟩; rw [hf2]; have HW7 := Lib.hid (HW.out.ext hx7); clear hx7)
            go_meet
            case rel => rw [HT2.out]; exact HW7.out
      | false =>
        have HT1 := Lib.hid (show t = runL u y (60 - 0) x from by have h := HT.out; unfold wayT at h; rw [if_neg (by simp [hf])] at h; exact h)
        go_upto_region 5 with (go_at_call 134; refine (HF.out _ H0.out.2.2.2.2.2.1 x y ⟨by omega, by omega⟩ ⟨by omega, by omega⟩).mono ?_; rintro e w6 ⟨rfl, hx6⟩; rw [hf])
        have H1 := Lib.hid (H0.out.ext hx6)
        clear hx6 hf f1 f2 f3
        go_wp2
        go_loopg [27] 60 (fun gg _ wr => ∃ (k : Nat) (a : Int), a = x - (k : Int) ∧ k ≤ 60 ∧ gg = 60 - k ∧ t = runL u y (60 - k) a ∧ WyS W p q x y a y x y wr)
        case atStart => exact ⟨0, x, by omega, by omega, by omega, HT1.out, H1.out⟩
        case round =>
          obtain ⟨k, a, ha, hk, hgg, ht, hws⟩ := hrel
          have HG := Lib.hid hgg
          have HAX := Lib.hid ha
          have HTR := Lib.hid ht
          have HW := Lib.hid hws
          have hb1 : -100 ≤ a := by omega
          have hb2 : a ≤ 200 := by omega
          obtain ⟨q1, q2, q3⟩ := hws.2.2.2.1.facts
          clear ha hgg ht hws H1 HT1
          cases hf2 : fl u (a - 1) y with
          | true =>
            have hin := HO.out _ _ hf2
            obtain ⟨hin1, hin2, _, _⟩ := hin
            have hk60 : k < 60 := by have := HAX.out; omega
            have HT2 := Lib.hid (show t = runL u y (60 - (k + 1)) (a - 1) from by
              have h := HTR.out
              rw [show 60 - k = (60 - (k + 1)) + 1 by omega, runL_yes hf2] at h
              exact h)
            go_upto_region 6 with (go_at_call 134; refine (HF.out _ HW.out.2.2.2.2.2.1 (a - 1) y ⟨by omega, by omega⟩ ⟨by omega, by omega⟩).mono ?_; rintro e w7 ⟨rfl, hx7⟩; rw [hf2])
            have HW7 := Lib.hid (HW.out.ext hx7)
            clear hx7 hf2 q1 q2 q3
            obtain ⟨q1, q2, q3⟩ := HW7.out.2.2.2.1.facts
            have HW8 := Lib.hid (HW7.out.setp (k := 0) (v := .int .i64 (a - 1)) (ax' := (a - 1)) (ay' := y) rfl)
            go_wp2
            go_roundg (60 - (k + 1))
            case measure => have := HG.out; omega
            case rel => exact ⟨k + 1, a - 1, by have := HAX.out; omega, by omega, rfl, HT2.out, HW8.out⟩
          | false =>
            have HT2 := Lib.hid (show t = a from by
              have h := HTR.out
              rw [runL_no hf2] at h
              exact h)
            go_wp2_with (go_at_call 134; refine (HF.out _ HW.out.2.2.2.2.2.1 (a - 1) y ⟨by omega, by omega⟩ ⟨by omega, by omega⟩).mono ?_; rintro e w7 ⟨rfl, hx7⟩; rw [hf2]; have HW7 := Lib.hid (HW.out.ext hx7); clear hx7)
            go_meet
            case rel => rw [HT2.out]; exact HW7.out
    case rest =>
      clear H0 f1 f2 f3
      have H0 := Lib.hid hcut
      obtain ⟨f1, f2, f3⟩ := hcut.1.facts
      clear hcut
      rename_i hKc
      refine hKc _ _ ?_
      go_step
      go_cut [34] from 10 (fun _ wx => WyS W p q x y t y x s wx)
      case first =>
        cases hf : fl (trU u) y x with
        | true =>
          have HT1 := Lib.hid (show s = runR (trU u) x (60 - 0) y from by have h := HSS.out; unfold wayT at h; rw [if_pos hf] at h; exact h)
          go_upto_region 8 with (go_at_call 135; refine (HS.out _ H0.out.2.2.2.2.2.1 x y ⟨by omega, by omega⟩ ⟨by omega, by omega⟩).mono ?_; rintro e w6 ⟨rfl, hx6⟩; rw [hf])
          have H1 := Lib.hid (H0.out.ext hx6)
          clear hx6 hf f1 f2 f3
          go_wp2
          go_loopg [37] 60 (fun gg _ wr => ∃ (k : Nat) (a : Int), a = y + (k : Int) ∧ k ≤ 60 ∧ gg = 60 - k ∧ s = runR (trU u) x (60 - k) a ∧ WyS W p q x y t y x a wr)
          case atStart => exact ⟨0, y, by omega, by omega, by omega, HT1.out, H1.out⟩
          case round =>
            obtain ⟨k, a, ha, hk, hgg, ht, hws⟩ := hrel
            have HG := Lib.hid hgg
            have HAX := Lib.hid ha
            have HTR := Lib.hid ht
            have HW := Lib.hid hws
            have hb1 : -100 ≤ a := by omega
            have hb2 : a ≤ 200 := by omega
            obtain ⟨q1, q2, q3⟩ := hws.2.2.2.2.1.facts
            clear ha hgg ht hws H1 HT1
            cases hf2 : fl (trU u) a x with
            | true =>
              have hin := HO2.out _ _ hf2
              obtain ⟨hin1, hin2, _, _⟩ := hin
              have hk60 : k < 60 := by have := HAX.out; omega
              have HT2 := Lib.hid (show s = runR (trU u) x (60 - (k + 1)) (a + 1) from by
                have h := HTR.out
                rw [show 60 - k = (60 - (k + 1)) + 1 by omega, runR_yes hf2] at h
                exact h)
              go_upto_region 9 with (go_at_call 135; refine (HS.out _ HW.out.2.2.2.2.2.1 x a ⟨by omega, by omega⟩ ⟨by omega, by omega⟩).mono ?_; rintro e w7 ⟨rfl, hx7⟩; rw [hf2])
              have HW7 := Lib.hid (HW.out.ext hx7)
              clear hx7 hf2 q1 q2 q3
              obtain ⟨q1, q2, q3⟩ := HW7.out.2.2.2.2.1.facts
              have HW8 := Lib.hid (HW7.out.setq (k := 1) (v := .int .i64 (a + 1)) (bx' := x) (by' := (a + 1)) rfl)
              go_wp2
              go_roundg (60 - (k + 1))
              case measure => have := HG.out; omega
              case rel => exact ⟨k + 1, a + 1, by have := HAX.out; omega, by omega, rfl, HT2.out, HW8.out⟩
            | false =>
              have HT2 := Lib.hid (show s = a from by
                have h := HTR.out
                rw [runR_no hf2] at h
                exact h)
              go_wp2_with (go_at_call 135; refine (HS.out _ HW.out.2.2.2.2.2.1 x a ⟨by omega, by omega⟩ ⟨by omega, by omega⟩).mono ?_; rintro e w7 ⟨rfl, hx7⟩; rw [hf2]; have HW7 := Lib.hid (HW.out.ext hx7); clear hx7)
              go_meet
              case rel => rw [HT2.out]; exact HW7.out
        | false =>
          have HT1 := Lib.hid (show s = runL (trU u) x (60 - 0) y from by have h := HSS.out; unfold wayT at h; rw [if_neg (by simp [hf])] at h; exact h)
          go_upto_region 10 with (go_at_call 135; refine (HS.out _ H0.out.2.2.2.2.2.1 x y ⟨by omega, by omega⟩ ⟨by omega, by omega⟩).mono ?_; rintro e w6 ⟨rfl, hx6⟩; rw [hf])
          have H1 := Lib.hid (H0.out.ext hx6)
          clear hx6 hf f1 f2 f3
          go_wp2
          go_loopg [49] 60 (fun gg _ wr => ∃ (k : Nat) (a : Int), a = y - (k : Int) ∧ k ≤ 60 ∧ gg = 60 - k ∧ s = runL (trU u) x (60 - k) a ∧ WyS W p q x y t y x a wr)
          case atStart => exact ⟨0, y, by omega, by omega, by omega, HT1.out, H1.out⟩
          case round =>
            obtain ⟨k, a, ha, hk, hgg, ht, hws⟩ := hrel
            have HG := Lib.hid hgg
            have HAX := Lib.hid ha
            have HTR := Lib.hid ht
            have HW := Lib.hid hws
            have hb1 : -100 ≤ a := by omega
            have hb2 : a ≤ 200 := by omega
            obtain ⟨q1, q2, q3⟩ := hws.2.2.2.2.1.facts
            clear ha hgg ht hws H1 HT1
            cases hf2 : fl (trU u) (a - 1) x with
            | true =>
              have hin := HO2.out _ _ hf2
              obtain ⟨hin1, hin2, _, _⟩ := hin
              have hk60 : k < 60 := by have := HAX.out; omega
              have HT2 := Lib.hid (show s = runL (trU u) x (60 - (k + 1)) (a - 1) from by
                have h := HTR.out
                rw [show 60 - k = (60 - (k + 1)) + 1 by omega, runL_yes hf2] at h
                exact h)
              go_upto_region 11 with (go_at_call 135; refine (HS.out _ HW.out.2.2.2.2.2.1 x (a - 1) ⟨by omega, by omega⟩ ⟨by omega, by omega⟩).mono ?_; rintro e w7 ⟨rfl, hx7⟩; rw [hf2])
              have HW7 := Lib.hid (HW.out.ext hx7)
              clear hx7 hf2 q1 q2 q3
              obtain ⟨q1, q2, q3⟩ := HW7.out.2.2.2.2.1.facts
              have HW8 := Lib.hid (HW7.out.setq (k := 1) (v := .int .i64 (a - 1)) (bx' := x) (by' := (a - 1)) rfl)
              go_wp2
              go_roundg (60 - (k + 1))
              case measure => have := HG.out; omega
              case rel => exact ⟨k + 1, a - 1, by have := HAX.out; omega, by omega, rfl, HT2.out, HW8.out⟩
            | false =>
              have HT2 := Lib.hid (show s = a from by
                have h := HTR.out
                rw [runL_no hf2] at h
                exact h)
              go_wp2_with (go_at_call 135; refine (HS.out _ HW.out.2.2.2.2.2.1 x (a - 1) ⟨by omega, by omega⟩ ⟨by omega, by omega⟩).mono ?_; rintro e w7 ⟨rfl, hx7⟩; rw [hf2]; have HW7 := Lib.hid (HW.out.ext hx7); clear hx7)
              go_meet
              case rel => rw [HT2.out]; exact HW7.out
      case rest =>
        clear H0 f1 f2 f3
        have H0 := Lib.hid hcut
        clear hcut
        rename_i hKc
        refine hKc _ _ ?_
        go_step
        obtain ⟨h1, h2, h3, h4, h5, h6, h7, h8, h9⟩ := H0.out
        have H2 := Lib.hid h2
        have H3 := Lib.hid h3
        have H6 := Lib.hid h6
        obtain ⟨a1, a2, a3⟩ := h1.facts
        obtain ⟨b1, b2, b3⟩ := h2.facts
        obtain ⟨c1, c2, c3⟩ := h3.facts
        obtain ⟨d1, d2, d3⟩ := h4.facts
        obtain ⟨e1, e2, e3⟩ := h5.facts
        clear h1 h2 h3 h4 h5 h6
        have HZ1 := Lib.hid ((((((((((H2.out.set 0 (.int .i64 x)).set 1 (.int .i64 y)).set 2 (.int .i64 t)).set 3 (.int .i64 y)).set_ne (k := W.heap.size + 1 + 1) (j := 0) (by omega) (.int .i64 x)).set_ne (k := W.heap.size + 1 + 1) (j := 1) (by omega) (.int .i64 y)).set_ne (k := W.heap.size + 1 + 1) (j := 2) (by omega) (.int .i64 x)).set_ne (k := W.heap.size + 1 + 1) (j := 3) (by omega) (.int .i64 s)).ext (ext_drew _)))
        have HZ2 := Lib.hid ((((((((((H3.out.set_ne (k := W.heap.size + 1) (j := 0) (by omega) (.int .i64 x)).set_ne (k := W.heap.size + 1) (j := 1) (by omega) (.int .i64 y)).set_ne (k := W.heap.size + 1) (j := 2) (by omega) (.int .i64 t)).set_ne (k := W.heap.size + 1) (j := 3) (by omega) (.int .i64 y)).set 0 (.int .i64 x)).set 1 (.int .i64 y)).set 2 (.int .i64 x)).set 3 (.int .i64 s)).ext (ext_drew _)))
        have hle1 : W.heap.size ≤ W.heap.size + 1 := by omega
        have hle2 : W.heap.size ≤ W.heap.size + 1 + 1 := by omega
        have HZ3 := Lib.hid (ext_trans (((((((((H6.out.setCell (p := ⟨W.heap.size + 1, 0, none⟩) hle1 (.int .i64 x)).setCell (p := ⟨W.heap.size + 1, 1, none⟩) hle1 (.int .i64 y)).setCell (p := ⟨W.heap.size + 1, 2, none⟩) hle1 (.int .i64 t)).setCell (p := ⟨W.heap.size + 1, 3, none⟩) hle1 (.int .i64 y)).setCell (p := ⟨W.heap.size + 1 + 1, 0, none⟩) hle2 (.int .i64 x)).setCell (p := ⟨W.heap.size + 1 + 1, 1, none⟩) hle2 (.int .i64 y)).setCell (p := ⟨W.heap.size + 1 + 1, 2, none⟩) hle2 (.int .i64 x)).setCell (p := ⟨W.heap.size + 1 + 1, 3, none⟩) hle2 (.int .i64 s))) (ext_drew _))
        go_region
        revert HZ1 HZ2 HZ3
        generalize World.drew _ = Z
        intro HZ1 HZ2 HZ3
        clear a1 a2 a3 b1 b2 b3 c1 c2 c3 d1 d2 d3 e1 e2 e3 H2 H3 H6 H0
        have g1 : ∀ i, Z.cell? ⟨W.heap.size + 1, i, none⟩ = #[Value.int .i64 x, .int .i64 y, .int .i64 t, .int .i64 y][i]? := HZ1.out.cell
        have g2 : ∀ i, Z.cell? ⟨W.heap.size + 1 + 1, i, none⟩ = #[Value.int .i64 x, .int .i64 y, .int .i64 x, .int .i64 s][i]? := HZ2.out.cell
        clear HZ1 HZ2
        go_wp2
        refine bodyPost_ret (v := .tuple #[.agg #[.int .i64 x, .int .i64 y, .int .i64 t, .int .i64 y], .agg #[.int .i64 x, .int .i64 y, .int .i64 x, .int .i64 s]]) (by simp [results, Tryd.results109, go_sem, g1, g2]) rfl ?_
        exact ⟨rfl, HZ3.out⟩

/-- what chords answers -/
def RetChs (W : World) (F S : List Chd) (e : Ending) (w' : World) : Prop :=
  ∃ A1 c1 A2 c2, e = .returned (.tuple #[.slice A1 F.length c1, .slice A2 S.length c2]) ∧ F.length ≤ c1 ∧ c1 ≤ 9223372036854775807 ∧ S.length ≤ c2 ∧ c2 ≤ 9223372036854775807 ∧ HSl W.heap.size w' A1 F ∧ HSl W.heap.size w' A2 S ∧ Below W.heap.size W w'
set_option maxRecDepth 100000 in
set_option maxHeartbeats 8000000 in
theorem chords_any (b : Nat) (l : List ByteArray) (g : Int) (m1 m2 : Value) (W : World) (h : PlW W b l g m1 m2) (hg : 1 ≤ g) (A : Option Addr) (cap : Nat) (C : List Cel) (hC : CSl 0 W A C) (_hcap : C.length ≤ cap) (_hcm : cap ≤ 9223372036854775807) (hn : C.length ≤ 100000) (hR : ∀ c ∈ C, (0 ≤ c.1 ∧ c.1 ≤ 48) ∧ (0 ≤ c.2 ∧ c.2 ≤ 48)) :
    Calls Tryd.prog 107 #[.pointer (some ⟨b, 0, none⟩), .slice A C.length cap] W (RetChs W (chF (us l g) C) (chS (us l g) C)) := by
  have HW := Lib.hid (fun V (hV : Below W.heap.size W V) x y hx hy => ways_any x y b l g m1 m2 V (h.ext hV) hg hx hy)
  have HQ := Lib.hid (fun V (hV : Below W.heap.size W V) x y hx hy => con_any x y b l g m1 m2 V (h.ext hV) hx hy)
  have hw1 : wid l ≤ 48 := h.ok.2.2.2.1
  have hw2 : l.length ≤ 48 := h.ok.2.1
  have HRT := Lib.hid (fun x y (hx : 0 ≤ x ∧ x ≤ 48) => way_rg (u := us l g) (w := wid l) (h := l.length) (fun x y k => us_in h.ok hg k) hw1 (y := y) hx)
  have HRS := Lib.hid (fun x y (hy : 0 ≤ y ∧ y ≤ 48) => (show 0 ≤ wayS (us l g) x y ∧ wayS (us l g) x y ≤ 48 from way_rg (u := trU (us l g)) (w := l.length) (h := wid l) (fun x y k => by have := us_in h.ok hg (show us l g y x = true from k); omega) hw2 (y := x) hy))
  clear h hw1 hw2 hg
  generalize us l g = u at HW HQ HRT HRS ⊢
  have HC := Lib.hid hC
  have HRG := Lib.hid hR
  have HS0 := Lib.hid (ChS2.start W)
  clear hC hR
  go_enter Tryd.func107, Tryd.ntmps107
  go_wp2_with (fail)
  go_loopg [12, 4, 5] C.length (fun gg i v1 v2 wr => ∃ k : Nat, i = .int .i64 k ∧ k ≤ C.length ∧ gg = C.length - k ∧ ChS2 W v1 v2 (chF u (C.take k)) (chS u (C.take k)) wr)
  case atStart => exact ⟨0, rfl, by omega, by omega, HS0.out⟩
  case round =>
    obtain ⟨k, rfl, hk, hgg, hs⟩ := hrel
    have HG := Lib.hid hgg
    have HS := Lib.hid hs
    obtain ⟨A1, c1, hv1, hl1, hm1, hh1⟩ := hs.1.hsl
    obtain ⟨A2, c2, hv2, hl2, hm2, hh2⟩ := hs.2.1.hsl
    subst hv1
    subst hv2
    have HH1 := Lib.hid hh1
    have HH2 := Lib.hid hh2
    unfold maxLen at hm1 hm2
    have hlF : (chF u (C.take k)).length ≤ 100000 := Nat.le_trans (chF_len u _) (by rw [List.length_take]; omega)
    have hlS : (chS u (C.take k)).length ≤ 100000 := Nat.le_trans (chS_len u _) (by rw [List.length_take]; omega)
    clear hgg hs hh1 hh2 HS0
    by_cases hlt : k < C.length
    · rcases HC.out with h0 | ⟨g0, off, rfl, hg0, hgs, hcl⟩
      · rw [h0] at hlt; simp at hlt
      · obtain ⟨c3, c4⟩ := hcl k hlt
        have c3 := (HS.out.2.2.2.cell (p := ⟨g0, off + k * 2, none⟩) hgs).trans c3
        have c4 := (HS.out.2.2.2.cell (p := ⟨g0, off + k * 2 + 1, none⟩) hgs).trans c4
        have hgw : g0 < wr.heap.size := Nat.lt_of_lt_of_le hgs HS.out.2.2.2.size
        have HIN := Lib.hid (HRG.out _ (List.getElem_mem hlt))
        have HTK := Lib.hid (show C.take (k + 1) = C.take k ++ [C[k]] from List.take_succ_eq_append_getElem hlt)
        obtain ⟨cc, hcc⟩ : ∃ cc, cc = C[k] := ⟨_, rfl⟩
        rw [← hcc] at c3 c4 HIN HTK
        obtain ⟨x, y⟩ := cc
        dsimp only at c3 c4
        obtain ⟨⟨hx1, hx2⟩, hy1, hy2⟩ : (0 ≤ x ∧ x ≤ 48) ∧ (0 ≤ y ∧ y ≤ 48) := HIN.out
        clear hcl hcc HIN
        have HB0 := Lib.hid (Bk.new 71 wr #[.int .i64 x, .int .i64 y])
        have HX0 := Lib.hid (ext_alloc wr (.cells #[.int .i64 x, .int .i64 y] 71))
        go_upto_region 4 with (fail)
        obtain ⟨X, hX⟩ : ∃ X, X = wr.alloc (.cells #[.int .i64 x, .int .i64 y] 71) := ⟨_, rfl⟩
        rw [← hX] at HB0 HX0 ⊢
        obtain ⟨p7, hp7⟩ : ∃ p7, p7 = wr.heap.size := ⟨_, rfl⟩
        have HP7 := Lib.hid (show wr.heap.size ≤ p7 from Nat.le_of_eq hp7.symm)
        rw [← hp7] at HB0 ⊢
        clear hX hp7
        have HSX := Lib.hid (HS.out.ext HX0.out)
        have HWX := Lib.hid (HW.out X HSX.out.2.2.2 x y ⟨hx1, hx2⟩ ⟨hy1, hy2⟩)
        obtain ⟨t, ht⟩ : ∃ t, t = wayT u x y := ⟨_, rfl⟩
        obtain ⟨s, hs⟩ : ∃ s, s = wayS u x y := ⟨_, rfl⟩
        rw [← ht, ← hs] at HWX
        obtain ⟨ht1, ht2⟩ : 0 ≤ t ∧ t ≤ 48 := by rw [ht]; exact HRT.out x y ⟨hx1, hx2⟩
        obtain ⟨hs1, hs2⟩ : 0 ≤ s ∧ s ≤ 48 := by rw [hs]; exact HRS.out x y ⟨hy1, hy2⟩
        obtain ⟨f1, f2, f3⟩ := HB0.out.facts
        have HTT := Lib.hid ht
        have HTS := Lib.hid hs
        clear c3 c4 hgs hgw ht hs
        go_upto_region 5 with (go_at_call 109; refine (HWX.out).mono ?_; rintro e w4 ⟨rfl, hx4⟩)
        have HX4 := Lib.hid hx4
        clear hx4
        have HD8 := Lib.hid ((Bk.new 156 w4 #[.int .i64 x, .int .i64 y, .int .i64 t, .int .i64 y]).alloc (.cells #[.int .i64 x, .int .i64 y, .int .i64 x, .int .i64 s] 156))
        have HD9 := Lib.hid (Bk.new 156 (w4.alloc (.cells #[.int .i64 x, .int .i64 y, .int .i64 t, .int .i64 y] 156)) #[.int .i64 x, .int .i64 y, .int .i64 x, .int .i64 s])
        rw [World.size_alloc] at HD9
        have HX5 := Lib.hid (ext_trans HX4.out (ext_trans (ext_alloc w4 (.cells #[.int .i64 x, .int .i64 y, .int .i64 t, .int .i64 y] 156)) (ext_alloc _ (.cells #[.int .i64 x, .int .i64 y, .int .i64 x, .int .i64 s] 156))))
        have HS5 := Lib.hid (HSX.out.ext HX5.out)
        have HB5 := Lib.hid (HB0.out.ext HX5.out)
        have HV1 := Lib.hid (fun k e => Nat.lt_of_lt_of_le (own_lt HS.out.1 k e).2 HP7.out)
        have HV2 := Lib.hid (fun k e => Nat.lt_of_lt_of_le (own_lt HS.out.2.1 k e).2 HP7.out)
        obtain ⟨w5, hw5⟩ : ∃ w5, w5 = (w4.alloc (.cells #[.int .i64 x, .int .i64 y, .int .i64 t, .int .i64 y] 156)).alloc (.cells #[.int .i64 x, .int .i64 y, .int .i64 x, .int .i64 s] 156) := ⟨_, rfl⟩
        obtain ⟨p8, hp8⟩ : ∃ p8, p8 = w4.heap.size := ⟨_, rfl⟩
        obtain ⟨p9, hp9⟩ : ∃ p9, p9 = w4.heap.size + 1 := ⟨_, rfl⟩
        have hp78 : p7 < p8 := by rw [hp8]; exact Nat.lt_of_lt_of_le f3 HX4.out.size
        have hp89 : p8 < p9 := by omega
        rw [← hp9] at HD9 ⊢
        rw [← hp8] at HD8 ⊢
        rw [← hw5] at HX5 HD8 HD9 HS5 HB5 ⊢
        have HBw5 := Lib.hid HS5.out.2.2.2
        clear hw5 hp8 hp9 f1 f2 f3 HWX HX4 HX5 HB0 HSX HX0
        obtain ⟨f1, f2, f3⟩ := HB5.out.facts
        obtain ⟨g1, g2, g3⟩ := HD8.out.facts
        obtain ⟨i1, i2, i3⟩ := HD9.out.facts

        go_cut [33] from 16 to 53 (fun v wx => v = .bool (decide (x < t ∧ q3 u t y = true)) ∧ Below w5.heap.size w5 wx)
        case first =>
          by_cases hab : x < t
          · have hab' : ¬ t ≤ x := by omega
            have HQ5 := Lib.hid (HQ.out w5 HBw5.out t y ⟨by omega, by omega⟩ ⟨by omega, by omega⟩)
            cases hz : q3 u t y with
            | true =>
              have HD := Lib.hid (decide_eq_true (show x < t ∧ q3 u t y = true from ⟨hab, hz⟩))
              rw [hz] at HQ5
              clear hz
              go_wp2_with (go_at_call 105; refine (HQ5.out).mono ?_; rintro e w6 ⟨rfl, hx6⟩; have HX6 := Lib.hid hx6; clear hx6)
              go_meet
              case rel => exact ⟨by rw [HD.out], HX6.out⟩
            | false =>
              have HD := Lib.hid (decide_eq_false (show ¬ (x < t ∧ q3 u t y = true) from fun h => by rw [hz] at h; cases h.2))
              rw [hz] at HQ5
              clear hz
              go_wp2_with (go_at_call 105; refine (HQ5.out).mono ?_; rintro e w6 ⟨rfl, hx6⟩; have HX6 := Lib.hid hx6; clear hx6)
              go_meet
              case rel => exact ⟨by rw [HD.out], HX6.out⟩
          · have hab' : t ≤ x := by omega
            have HD := Lib.hid (decide_eq_false (show ¬ (x < t ∧ q3 u t y = true) from fun h => hab h.1))
            go_wp2
            go_meet
            case rel => exact ⟨by rw [HD.out], Below.refl _ _⟩
        case rest =>
          obtain ⟨rfl, hcw⟩ := hcut
          have HS6 := Lib.hid (HS5.out.ext hcw)
          have HB6 := Lib.hid (HB5.out.ext hcw)
          have HD86 := Lib.hid (HD8.out.ext hcw)
          have HD96 := Lib.hid (HD9.out.ext hcw)
          clear f1 f2 f3 g1 g2 g3 i1 i2 i3 hcw HS5 HB5 HD8 HD9
          obtain ⟨w6, hw6⟩ : ∃ w6, w6 = wc := ⟨_, rfl⟩
          rw [← hw6] at HS6 HB6 HD86 HD96 ⊢
          clear hw6
          obtain ⟨f1, f2, f3⟩ := HB6.out.facts
          obtain ⟨g1, g2, g3⟩ := HD86.out.facts
          obtain ⟨i1, i2, i3⟩ := HD96.out.facts
          rename_i hKc
          refine hKc _ _ ?_
          clear hKc
          have hbase : W.heap.size ≤ w6.heap.size := HS6.out.2.2.2.size
          go_cut [4] from 16 to 53 (fun v wx => ChS2 W v (.slice A2 (chS u (C.take k)).length c2) (chF u (C.take (k + 1))) (chS u (C.take k)) wx ∧ Bk 71 wx p7 #[.int .i64 x, .int .i64 y] ∧ Bk 156 wx p9 #[.int .i64 x, .int .i64 y, .int .i64 x, .int .i64 s])
          case first =>
            by_cases hd : x < t ∧ q3 u t y = true
            · rw [decide_eq_true hd]
              have HE := Lib.hid (show chF u (C.take (k + 1)) = chF u (C.take k) ++ [((x, y), (t, y))] from by
                obtain ⟨d1, d2⟩ := hd
                rw [HTK.out, HTT.out]
                rw [HTT.out] at d1 d2
                exact chF_yes d1 d2)
              clear hd
              go_wp2_with (at_builtin; refine wpList_pushH _ rfl _ _ rfl W.heap.size HS6.out.1 (by rfl) x y t y (by rfl) rfl (by omega) hbase ?_; intro v5 w7 hv5 hb5 hk5 hk6; have HS7 := Lib.hid (ChS2.push1 HS6.out hv5 hb5 hk5 hk6); have HB7 := Lib.hid ((hk5 p7 HB6.out.lt (fun e => Nat.lt_irrefl _ (HV1.out _ e.symm))).trans HB6.out); have HD97 := Lib.hid ((hk5 p9 HD96.out.lt (fun e => Nat.lt_irrefl p7 (by have := HV1.out _ e.symm; omega))).trans HD96.out); clear hv5 hb5 hk5 hk6)
              go_meet
              case rel => rw [HE.out]; exact ⟨HS7.out, HB7.out, HD97.out⟩
            · rw [decide_eq_false hd]
              have HE := Lib.hid (show chF u (C.take (k + 1)) = chF u (C.take k) from by
                rw [HTK.out]
                rw [HTT.out] at hd
                exact chF_no hd)
              clear hd
              go_wp2
              go_meet
              case rel => rw [HE.out]; exact ⟨HS6.out, HB6.out, HD96.out⟩
          case rest =>
            obtain ⟨hs7, hb7, hd97⟩ := hcut
            clear f1 f2 f3 g1 g2 g3 i1 i2 i3 HS6 HB6 HD86 HD96 hbase
            obtain ⟨w7, hw7⟩ : ∃ w7, w7 = wc := ⟨_, rfl⟩
            rw [← hw7] at hs7 hb7 hd97 ⊢
            clear hw7
            obtain ⟨f1, f2, f3⟩ := hb7.facts
            obtain ⟨i1, i2, i3⟩ := hd97.facts
            have HS7 := Lib.hid hs7
            have HB7 := Lib.hid hb7
            have HD97 := Lib.hid hd97
            have HBw7 := Lib.hid hs7.2.2.2
            clear hs7 hb7 hd97
            rename ∀ (a : Act) (w : World), Code.wp _ _ _ a w → _ => hKc2
            refine hKc2 _ _ ?_
            clear hKc2
            go_upto_region 7 with (fail)
            go_cut [49] from 16 to 53 (fun v wx => v = .bool (decide (y < s ∧ q3 u x s = true)) ∧ Below w7.heap.size w7 wx)
            case first =>
              by_cases hab : y < s
              · have hab' : ¬ s ≤ y := by omega
                have HQ5 := Lib.hid (HQ.out w7 HBw7.out x s ⟨by omega, by omega⟩ ⟨by omega, by omega⟩)
                cases hz : q3 u x s with
                | true =>
                  have HD := Lib.hid (decide_eq_true (show y < s ∧ q3 u x s = true from ⟨hab, hz⟩))
                  rw [hz] at HQ5
                  clear hz
                  go_wp2_with (go_at_call 105; refine (HQ5.out).mono ?_; rintro e w6 ⟨rfl, hx6⟩; have HX6 := Lib.hid hx6; clear hx6)
                  go_meet
                  case rel => exact ⟨by rw [HD.out], HX6.out⟩
                | false =>
                  have HD := Lib.hid (decide_eq_false (show ¬ (y < s ∧ q3 u x s = true) from fun h => by rw [hz] at h; cases h.2))
                  rw [hz] at HQ5
                  clear hz
                  go_wp2_with (go_at_call 105; refine (HQ5.out).mono ?_; rintro e w6 ⟨rfl, hx6⟩; have HX6 := Lib.hid hx6; clear hx6)
                  go_meet
                  case rel => exact ⟨by rw [HD.out], HX6.out⟩
              · have hab' : s ≤ y := by omega
                have HD := Lib.hid (decide_eq_false (show ¬ (y < s ∧ q3 u x s = true) from fun h => hab h.1))
                go_wp2
                go_meet
                case rel => exact ⟨by rw [HD.out], Below.refl _ _⟩
            case rest =>
              obtain ⟨rfl, hcw⟩ := hcut
              have HS8 := Lib.hid (HS7.out.ext hcw)
              have HD98 := Lib.hid (HD97.out.ext hcw)
              clear f1 f2 f3 i1 i2 i3 hcw HS7 HB7 HD97
              obtain ⟨w8, hw8⟩ : ∃ w8, w8 = wc := ⟨_, rfl⟩
              rw [← hw8] at HS8 HD98 ⊢
              clear hw8
              obtain ⟨i1, i2, i3⟩ := HD98.out.facts
              rename ∀ (a : Act) (w : World), Code.wp _ _ _ a w → _ => hKc3
              refine hKc3 _ _ ?_
              clear hKc3
              have hbase : W.heap.size ≤ w8.heap.size := HS8.out.2.2.2.size
              by_cases hd : y < s ∧ q3 u x s = true
              · rw [decide_eq_true hd]
                have HE := Lib.hid (show chS u (C.take (k + 1)) = chS u (C.take k) ++ [((x, y), (x, s))] from by
                  obtain ⟨d1, d2⟩ := hd
                  rw [HTK.out, HTS.out]
                  rw [HTS.out] at d1 d2
                  exact chS_yes d1 d2)
                clear hd
                go_wp2_with (at_builtin; refine wpList_pushH _ rfl _ _ rfl W.heap.size HS8.out.2.1 (by rfl) x y x s (by rfl) rfl (by omega) hbase ?_; intro v5 w9 hv5 hb5 hk5 hk6; have HS9 := Lib.hid (ChS2.push2 HS8.out hv5 hb5 hk5 hk6); clear hv5 hb5 hk5 hk6)
                go_roundg (C.length - (k + 1))
                case measure => have := HG.out; omega
                case rel => exact ⟨k + 1, by go_num, by omega, rfl, by rw [HE.out]; exact HS9.out⟩
              · rw [decide_eq_false hd]
                have HE := Lib.hid (show chS u (C.take (k + 1)) = chS u (C.take k) from by
                  rw [HTK.out]
                  rw [HTS.out] at hd
                  exact chS_no hd)
                clear hd
                go_wp2
                go_roundg (C.length - (k + 1))
                case measure => have := HG.out; omega
                case rel => exact ⟨k + 1, by go_num, by omega, rfl, by rw [HE.out]; exact HS8.out⟩
    · obtain rfl : k = C.length := by omega
      rw [List.take_length] at HH1 HH2 HS hl1 hl2 ⊢
      go_wp2
      refine bodyPost_ret (v := .tuple #[.slice A1 (chF u C).length c1, .slice A2 (chS u C).length c2]) (by simp [results, Tryd.results107, go_sem]) rfl ?_
      exact ⟨A1, c1, A2, c2, rfl, hl1, hm1, hl2, hm2, HH1.out, HH2.out, HS.out.2.2.2⟩
end Go.Proofs.YtmgofdgbenfjmaaDoor
