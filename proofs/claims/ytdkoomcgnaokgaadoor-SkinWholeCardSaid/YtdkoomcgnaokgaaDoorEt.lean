/- Erode, Dilate, Open of the program walked. Conditions: each string's length is an int. -/
import Derived.Test.YtdkoomcgnaokgaaDoorEs
namespace Go.Proofs.YtdkoomcgnaokgaaDoor
open Go.RowKit

def MoOk (l : List ByteArray) (k : Int) : Prop := SkOk l ∧ 0 ≤ k ∧ k ≤ 48
set_option maxRecDepth 100000 in
set_option maxHeartbeats 4000000 in
theorem erode_any (A : Option Addr) (cap : Nat) (l : List ByteArray) (k : Int) (w : World) (hc : l.length ≤ cap) (hcm : cap ≤ 9223372036854775807) (h : TSl w A l) (hz : TSz l) :
    Calls Tryd.prog 33 #[.slice A l.length cap, .int .i64 k] w (RetS2 w (MoOk l k) 2 (morP true l k.toNat)) := by
  have HV := Lib.hid (valid_any A cap l _ hc hcm h hz)
  by_cases hok : SkOk l
  · rw [decide_eq_true hok] at HV
    by_cases h0 : k < 0
    · have HNO := Lib.hid (show ¬ MoOk l k from fun h => by have := h.2.1; omega)
      clear hok h hz
      go_enter Tryd.func33, Tryd.ntmps33
      go_wp2_with (go_at_call 25; refine (HV.out).mono ?_; rintro e w1 ⟨rfl, hx1⟩)
      refine bodyPost_ret (v := .tuple #[.slice none 0 0, .int .i64 2]) (by simp [results, Tryd.results33, go_sem]) rfl ?_
      exact ⟨hx1, .inl ⟨HNO.out, rfl⟩⟩
    · by_cases h1 : 48 < k
      · have HNO := Lib.hid (show ¬ MoOk l k from fun h => by have := h.2.2; omega)
        clear hok h hz
        go_enter Tryd.func33, Tryd.ntmps33
        go_wp2_with (go_at_call 25; refine (HV.out).mono ?_; rintro e w1 ⟨rfl, hx1⟩)
        refine bodyPost_ret (v := .tuple #[.slice none 0 0, .int .i64 2]) (by simp [results, Tryd.results33, go_sem]) rfl ?_
        exact ⟨hx1, .inl ⟨HNO.out, rfl⟩⟩
      · have HOK := Lib.hid (show MoOk l k from ⟨hok, by omega, by omega⟩)
        obtain ⟨m, hm⟩ : ∃ m : Nat, m = k.toNat := ⟨_, rfl⟩
        have hkm : k = (m : Int) := by omega
        have hm48 : m ≤ 48 := by omega
        rw [← hm]
        clear hm
        subst hkm
        have HAR := Lib.hid (fun W (hW : Below w.heap.size w W) => around_any true 66 (bK_enter true) (bK_any true) m A cap l W hok (h.ext hW) hm48)
        unfold RetSk at HAR
        unfold RetS2
        obtain ⟨ms, hms⟩ : ∃ ms, ms = morP true l m := ⟨_, rfl⟩
        rw [← hms] at HAR ⊢
        clear hok h hz hms
        go_enter Tryd.func33, Tryd.ntmps33
        go_wp2_with (first
          | (go_at_call 25; refine (HV.out).mono ?_; rintro e w1 ⟨rfl, hx1⟩)
          | (go_at_call 65; refine (HAR.out _ hx1).mono ?_; rintro e w2 ⟨hx2, A2, c2, rfl, k1, k2, k3⟩))
        refine bodyPost_ret (v := .tuple #[.slice A2 ms.length c2, .int .i64 0]) (by simp [results, Tryd.results33, go_sem]) rfl ?_
        exact ⟨ext_trans hx1 hx2, .inr ⟨HOK.out, A2, c2, rfl, k1, k2, k3⟩⟩
  · rw [decide_eq_false hok] at HV
    have HNO := Lib.hid (show ¬ MoOk l k from fun h => hok h.1)
    clear hok h hz
    go_enter Tryd.func33, Tryd.ntmps33
    go_wp2_with (go_at_call 25; refine (HV.out).mono ?_; rintro e w1 ⟨rfl, hx1⟩)
    refine bodyPost_ret (v := .tuple #[.slice none 0 0, .int .i64 2]) (by simp [results, Tryd.results33, go_sem]) rfl ?_
    exact ⟨hx1, .inl ⟨HNO.out, rfl⟩⟩
set_option maxRecDepth 100000 in
set_option maxHeartbeats 4000000 in
theorem dilate_any (A : Option Addr) (cap : Nat) (l : List ByteArray) (k : Int) (w : World) (hc : l.length ≤ cap) (hcm : cap ≤ 9223372036854775807) (h : TSl w A l) (hz : TSz l) :
    Calls Tryd.prog 35 #[.slice A l.length cap, .int .i64 k] w (RetS2 w (MoOk l k) 2 (morP false l k.toNat)) := by
  have HV := Lib.hid (valid_any A cap l _ hc hcm h hz)
  by_cases hok : SkOk l
  · rw [decide_eq_true hok] at HV
    by_cases h0 : k < 0
    · have HNO := Lib.hid (show ¬ MoOk l k from fun h => by have := h.2.1; omega)
      clear hok h hz
      go_enter Tryd.func35, Tryd.ntmps35
      go_wp2_with (go_at_call 25; refine (HV.out).mono ?_; rintro e w1 ⟨rfl, hx1⟩)
      refine bodyPost_ret (v := .tuple #[.slice none 0 0, .int .i64 2]) (by simp [results, Tryd.results35, go_sem]) rfl ?_
      exact ⟨hx1, .inl ⟨HNO.out, rfl⟩⟩
    · by_cases h1 : 48 < k
      · have HNO := Lib.hid (show ¬ MoOk l k from fun h => by have := h.2.2; omega)
        clear hok h hz
        go_enter Tryd.func35, Tryd.ntmps35
        go_wp2_with (go_at_call 25; refine (HV.out).mono ?_; rintro e w1 ⟨rfl, hx1⟩)
        refine bodyPost_ret (v := .tuple #[.slice none 0 0, .int .i64 2]) (by simp [results, Tryd.results35, go_sem]) rfl ?_
        exact ⟨hx1, .inl ⟨HNO.out, rfl⟩⟩
      · have HOK := Lib.hid (show MoOk l k from ⟨hok, by omega, by omega⟩)
        obtain ⟨m, hm⟩ : ∃ m : Nat, m = k.toNat := ⟨_, rfl⟩
        have hkm : k = (m : Int) := by omega
        have hm48 : m ≤ 48 := by omega
        rw [← hm]
        clear hm
        subst hkm
        have HAR := Lib.hid (fun W (hW : Below w.heap.size w W) => around_any false 68 (bK_enter false) (bK_any false) m A cap l W hok (h.ext hW) hm48)
        unfold RetSk at HAR
        unfold RetS2
        obtain ⟨ms, hms⟩ : ∃ ms, ms = morP false l m := ⟨_, rfl⟩
        rw [← hms] at HAR ⊢
        clear hok h hz hms
        go_enter Tryd.func35, Tryd.ntmps35
        go_wp2_with (first
          | (go_at_call 25; refine (HV.out).mono ?_; rintro e w1 ⟨rfl, hx1⟩)
          | (go_at_call 65; refine (HAR.out _ hx1).mono ?_; rintro e w2 ⟨hx2, A2, c2, rfl, k1, k2, k3⟩))
        refine bodyPost_ret (v := .tuple #[.slice A2 ms.length c2, .int .i64 0]) (by simp [results, Tryd.results35, go_sem]) rfl ?_
        exact ⟨ext_trans hx1 hx2, .inr ⟨HOK.out, A2, c2, rfl, k1, k2, k3⟩⟩
  · rw [decide_eq_false hok] at HV
    have HNO := Lib.hid (show ¬ MoOk l k from fun h => hok h.1)
    clear hok h hz
    go_enter Tryd.func35, Tryd.ntmps35
    go_wp2_with (go_at_call 25; refine (HV.out).mono ?_; rintro e w1 ⟨rfl, hx1⟩)
    refine bodyPost_ret (v := .tuple #[.slice none 0 0, .int .i64 2]) (by simp [results, Tryd.results35, go_sem]) rfl ?_
    exact ⟨hx1, .inl ⟨HNO.out, rfl⟩⟩
set_option maxRecDepth 100000 in
set_option maxHeartbeats 4000000 in
theorem open_any (A : Option Addr) (cap : Nat) (l : List ByteArray) (k : Int) (w : World) (hc : l.length ≤ cap) (hcm : cap ≤ 9223372036854775807) (h : TSl w A l) (hz : TSz l) :
    Calls Tryd.prog 37 #[.slice A l.length cap, .int .i64 k] w (RetS2 w (MoOk l k) 2 (morP false (morP true l k.toNat) k.toNat)) := by
  have HE := Lib.hid (erode_any A cap l k w hc hcm h hz)
  unfold RetS2 at HE ⊢
  by_cases hok : MoOk l k
  · obtain ⟨t, ht⟩ : ∃ t, t = morP true l k.toNat := ⟨_, rfl⟩
    have hto : MoOk t k := ⟨by rw [ht]; exact morP_ok hok.1 true _, hok.2⟩
    have htz : TSz t := by rw [ht]; exact morP_sz hok.1 true _
    rw [← ht] at HE ⊢
    have HD := Lib.hid (fun A2 c2 W h1 h2 h3 => dilate_any A2 c2 t k W h1 h2 h3 htz)
    unfold RetS2 at HD
    obtain ⟨u, hu⟩ : ∃ u, u = morP false t k.toNat := ⟨_, rfl⟩
    rw [← hu] at HD ⊢
    have HE2 := Lib.hid (HE.out.mono (R' := fun e w' => Below w.heap.size w w' ∧ ∃ A cap, e = .returned (.tuple #[.slice A t.length cap, .int .i64 0]) ∧ t.length ≤ cap ∧ cap ≤ 9223372036854775807 ∧ TSl w' A t) (fun e w' hr => ⟨hr.1, hr.2.elim (fun h => absurd hok h.1) (fun h => h.2)⟩))
    have HD2 := Lib.hid (fun A2 c2 W h1 h2 h3 => (HD.out A2 c2 W h1 h2 h3).mono (R' := fun e w' => Below W.heap.size W w' ∧ ∃ A cap, e = .returned (.tuple #[.slice A u.length cap, .int .i64 0]) ∧ u.length ≤ cap ∧ cap ≤ 9223372036854775807 ∧ TSl w' A u) (fun e w' hr => ⟨hr.1, hr.2.elim (fun h => absurd hto h.1) (fun h => h.2)⟩))
    have HOK := Lib.hid hok
    clear ht hu hok hto htz HE HD h hz
    go_enter Tryd.func37, Tryd.ntmps37
    go_wp2_with (first
      | (go_at_call 33; refine (HE2.out).mono ?_; rintro e w1 ⟨hx1, A1, c1, rfl, i1, i2, i3⟩)
      | (go_at_call 35; refine (HD2.out _ _ _ i1 i2 i3).mono ?_; rintro e w2 ⟨hx2, A2, c2, rfl, k1, k2, k3⟩))
    refine bodyPost_ret (v := .tuple #[.slice A2 u.length c2, .int .i64 0]) (by simp [results, Tryd.results37, go_sem]) rfl ?_
    exact ⟨ext_trans hx1 hx2, .inr ⟨HOK.out, A2, c2, rfl, k1, k2, k3⟩⟩
  · have HE2 := Lib.hid (HE.out.mono (R' := fun e w' => Below w.heap.size w w' ∧ e = .returned (.tuple #[.slice none 0 0, .int .i64 2])) (fun e w' hr => ⟨hr.1, hr.2.elim (fun h => h.2) (fun h => absurd h.1 hok)⟩))
    have HOK := Lib.hid hok
    clear hok HE h hz
    go_enter Tryd.func37, Tryd.ntmps37
    go_wp2_with (go_at_call 33; refine (HE2.out).mono ?_; rintro e w1 ⟨hx1, rfl⟩)
    refine bodyPost_ret (v := .tuple #[.slice none 0 0, .int .i64 2]) (by simp [results, Tryd.results37, go_sem]) rfl ?_
    exact ⟨hx1, .inl ⟨HOK.out, rfl⟩⟩
end Go.Proofs.YtdkoomcgnaokgaaDoor
