/- frac.Share walked. Conditions: the weights read as a list of ints. -/
import Derived.Test.YthkoblnfeebafaaMp
namespace Go.Proofs.Ythkoblnfeebafaa
open Go.RowKit

/-- what the first loop knows -/
def SL1 (w : World) (nn : Int) (A : Option Addr) (cap : Nat) (v : List Int) (t : Bool) (k : Nat) (wr : World) : Prop :=
  (t = true ↔ WOk nn ∧ ∀ j, j < k → WOk (wt v j)) ∧ ∃ s, s = sumTo (fun j => clamp (wt v j)) k ∧ 0 ≤ s ∧ s ≤ k * 1000000000 ∧ SHv w nn A v.length cap s wr
theorem SL1.step {w : World} {nn : Int} {A : Option Addr} {cap : Nat} {v : List Int} {t : Bool} {k : Nat} {wr : World} (h : SL1 w nn A cap v t k wr) {x : Int} (hx : x = wt v k) {t' : Bool} (ht : t' = (t && decide (WOk x))) {s s' : Int} (hs : SHv w nn A v.length cap s wr) (hs' : s' = s + clamp x) :
    SL1 w nn A cap v t' (k + 1) (wr.setCell ⟨w.heap.size + 1 + 1, 0, none⟩ (.int .i64 s')) := by
  obtain ⟨h1, s0, h2, h3, h4, h5⟩ := h
  have e : s0 = s := by
    have a := h5.cells.2.2.1
    have b := hs.cells.2.2.1
    rw [a] at b
    simpa using b
  subst e
  have hc := clamp_range x
  refine ⟨?_, s', ?_, by omega, by push_cast; omega, hs.set s'⟩
  · rw [ht, Bool.and_eq_true, h1, decide_eq_true_iff]
    constructor
    · rintro ⟨⟨a, b⟩, c⟩
      refine ⟨a, fun j hj => ?_⟩
      by_cases hjk : j = k
      · rw [hjk, ← hx]; exact c
      · exact b j (by omega)
    · rintro ⟨a, b⟩
      exact ⟨⟨a, fun j hj => b j (by omega)⟩, by rw [hx]; exact b k (by omega)⟩
  · show s' = sumTo _ k + clamp (wt v k)
    rw [hs', h2, hx]
theorem mem_wt {v : List Int} (hv : WAll v) : ∀ z ∈ v, 0 ≤ z ∧ z ≤ 1000000000 := by
  intro z hz
  obtain ⟨j, hj, rfl⟩ := List.getElem_of_mem hz
  have := hv j hj
  rw [wt_get hj] at this
  exact this

theorem share_sort (w : World) (nn : Int) (A : Option Addr) (cap : Nat) (v : List Int) (h : ISl w A v) (b o : Nat) (wx : World) (hgo : ShG nn v) (hsx : SHo w nn A v.length cap (sumW v) b o (quo nn v) (fun k => (k : Int)) wx) :
    Calls Try.prog 101 #[.slice (some ⟨o, 0, none⟩) v.length v.length, .func (.func 102) #[] #[.pointer (some ⟨w.heap.size, 0, none⟩), .pointer (some ⟨w.heap.size + 1, 0, none⟩), .pointer (some ⟨w.heap.size + 1 + 1, 0, none⟩)]] wx
      (fun e w' => e = .returned (.tuple #[]) ∧ ∃ d, Ord nn v d ∧ SHo w nn A v.length cap (sumW v) b o (quo nn v) d w') := by
  obtain ⟨g1, g2, g3, g4⟩ := hgo
  have hb := sumW_bd g3
  have hsx' := hsx
  obtain ⟨hv, b1, o1, hbo, how, hor⟩ := hsx
  obtain ⟨c1, c2, c3, c4, c5⟩ := hv.cells
  refine (sort_any o v.length (fun k => (k : Int)) _ _ _ (keyW nn v) wx wx hor (Fr.refl _ _) ?_ g1 (fun _ _ => rfl)).mono ?_
  · intro W hW x y x1 x2 y1 y2
    have hWc : ∀ g, g < wx.heap.size → g ≠ o → W.cell? ⟨g, 0, none⟩ = wx.cell? ⟨g, 0, none⟩ := fun g hg hne => hW.cell (p := ⟨g, 0, none⟩) hg hne
    exact clos_any _ _ _ nn (sumW v) A cap v x y W g2 ⟨g4, by omega⟩ (mem_wt g3) ((hWc _ (by omega) (by omega)).trans c1) ((hWc _ (by omega) (by omega)).trans c2) ((hWc _ (by omega) (by omega)).trans c3)
      (h.ext (hW.out hv.1 (by omega) hv.1.size)) ⟨x1, x2⟩ ⟨y1, y2⟩ g1
  · rintro e w' ⟨rfl, hf, d, hd, hsw, hsd⟩
    exact ⟨rfl, d, ⟨_, fun _ _ => rfl, hsw, hsd⟩, hsx'.fr hf hd⟩

/-- behind region 14 -/
def RG14 (w : World) (nn : Int) (A : Option Addr) (m cap : Nat) (s : Int) (z1 z2 z3 : Value) (wx : World) : Prop :=
  ∃ b o : Nat, z1 = .slice (some ⟨b, 0, none⟩) m m ∧ z2 = .slice (some ⟨o, 0, none⟩) m m ∧ z3 = .int .i64 nn ∧ SHo w nn A m cap s b o (fun _ => 0) (fun _ => 0) wx

set_option maxRecDepth 100000 in
set_option maxHeartbeats 4000000 in
theorem share_one (nn : Int) (A : Option Addr) (cap : Nat) (v : List Int) (w : World) (hnw : IsI nn) (hiv : ∀ x ∈ v, IsI x) (h64 : v.length ≤ 64) (hc : v.length ≤ cap) (hcm : cap ≤ 9223372036854775807) (h : ISl w A v) :
    Calls Try.prog 71 #[.int .i64 nn, .slice A v.length cap] w fun e w' => RetSh w nn v e w' := by
  have H := Lib.hid h
  have HI := Lib.hid hiv
  have HV0 := Lib.hid (SHv.start w nn A v.length cap)
  have HSORT := Lib.hid (fun b o wx => share_sort w nn A cap v h b o wx)
  have hmk := run_zeros v.length (by omega)
  have HMK := Lib.hid hmk
  clear h hiv hmk
  go_enter Try.func71, Try.ntmps71
  go_upto_region 3 with (fail)
  go_cut [6, 7] (fun z6 z7 wx => z6 = .bool (decide (WOk nn)) ∧ z7 = .pointer (some ⟨w.heap.size + 1 + 1, 0, none⟩) ∧ SHv w nn A v.length cap 0 wx)
  case first =>
    rcases (by omega : nn < 0 ∨ (0 ≤ nn ∧ nn ≤ 1000000000) ∨ 1000000000 < nn) with n1 | ⟨n1, n2⟩ | n1
    · have hd : decide (WOk nn) = false := decide_eq_false (fun h => by have := h.1; omega)
      have HD := Lib.hid hd
      clear hd
      go_wp2
      go_meet
      exact ⟨by rw [HD.out], rfl, HV0.out⟩
    · have hd : decide (WOk nn) = true := decide_eq_true ⟨n1, n2⟩
      have HD := Lib.hid hd
      clear hd
      go_wp2
      go_meet
      exact ⟨by rw [HD.out], rfl, HV0.out⟩
    · have hd : decide (WOk nn) = false := decide_eq_false (fun h => by have := h.2; omega)
      have n3 : ¬ nn ≤ 1000000000 := by omega
      have HD := Lib.hid hd
      clear hd
      go_wp2
      go_meet
      exact ⟨by rw [HD.out], rfl, HV0.out⟩
  case rest =>
    obtain ⟨rfl, rfl, hv⟩ := hcut
    have HV := Lib.hid hv
    obtain ⟨c1, c2, c3, c4, c5⟩ := hv.cells
    have hst : SL1 w nn A cap v (decide (WOk nn)) 0 wc := ⟨by rw [decide_eq_true_iff]; exact ⟨fun h => ⟨h, fun j hj => by omega⟩, fun h => h.1⟩, 0, rfl, by omega, by omega, hv⟩
    clear hv HV0
    generalize decide (WOk nn) = t0 at *
    go_wp2
    go_loopg [6, 28] v.length (fun g z6 i wr => ∃ (k : Nat) (t : Bool), i = .int .i64 k ∧ z6 = .bool t ∧ k ≤ v.length ∧ g = v.length - k ∧ SL1 w nn A cap v t k wr)
    case atStart => exact ⟨0, t0, rfl, rfl, Nat.zero_le _, rfl, hst⟩
    case round =>
      obtain ⟨k, t, rfl, rfl, hk, hg, hs⟩ := hrel
      have HG := Lib.hid hg
      have HS := Lib.hid hs
      obtain ⟨-, s, -, s0, s1, hv⟩ := hs
      have HV := Lib.hid hv
      obtain ⟨c1, c2, c3, c4, c5⟩ := hv.cells
      have hb := hv.1
      clear hg hst hv
      by_cases hlt : k < v.length
      · have hf := H.out.ext hb
        rcases hf with hf | ⟨b, off, rfl, hblt, hc'⟩
        · rw [hf] at hlt; simp at hlt
        · have ca := hc' k hlt
          obtain ⟨x, hx⟩ : ∃ x, x = v[k] := ⟨_, rfl⟩
          rw [← hx] at ca
          have HX := Lib.hid (show x = wt v k from hx.trans (wt_get hlt).symm)
          obtain ⟨x1, x2⟩ : IsI x := by rw [hx]; exact HI.out _ (List.getElem_mem hlt)
          have HX1 := Lib.hid x1
          have HX2 := Lib.hid x2
          have hcl := clamp_range x
          have k64 : k ≤ 64 := by omega
          clear hc' hx x1 x2
          rcases (by omega : x < 0 ∨ (0 ≤ x ∧ x ≤ 1000000000) ∨ 1000000000 < x) with n1 | ⟨n1, n2⟩ | n1
          · have hd : decide (WOk x) = false := decide_eq_false (fun h => by have := h.1; omega)
            have hcx : clamp x = 0 := by unfold clamp; simp only [if_neg (show ¬ 1000000000 < x by omega)]; exact if_neg (by omega)
            have HD := Lib.hid hd
            have HC := Lib.hid hcx
            clear hd hcx hcl
            have n3 : ¬ 0 < x := by omega
            cases t
            all_goals
              go_wp2
              go_roundg (v.length - (k + 1))
              case measure => have := HG.out; omega
              case rel => exact ⟨k + 1, false, by go_num, rfl, by omega, rfl, HS.out.step HX.out (by rw [HD.out]; first | done | rfl) HV.out (by rw [HC.out]; first | done | omega)⟩
          · have hd : decide (WOk x) = true := decide_eq_true ⟨n1, n2⟩
            have hcx : clamp x = x := clamp_ok ⟨n1, n2⟩
            have HD := Lib.hid hd
            have HC := Lib.hid hcx
            clear hd hcx hcl
            by_cases n3 : 0 < x
            all_goals
              cases t
            all_goals
              go_wp2
              go_roundg (v.length - (k + 1))
              case measure => have := HG.out; omega
              case rel => exact ⟨k + 1, _, by go_num, rfl, by omega, rfl, HS.out.step HX.out (by rw [HD.out]; first | done | rfl) HV.out (by rw [HC.out]; first | done | omega)⟩
          · have hd : decide (WOk x) = false := decide_eq_false (fun h => by have := h.2; omega)
            have hcx : clamp x = 1000000000 := by unfold clamp; simp only [if_pos (show 1000000000 < x by omega)]; exact if_pos (by decide)
            have HD := Lib.hid hd
            have HC := Lib.hid hcx
            clear hd hcx hcl
            have n3 : ¬ x ≤ 1000000000 := by omega
            cases t
            all_goals
              go_wp2
              go_roundg (v.length - (k + 1))
              case measure => have := HG.out; omega
              case rel => exact ⟨k + 1, false, by go_num, rfl, by omega, rfl, HS.out.step HX.out (by rw [HD.out]; first | done | rfl) HV.out (by rw [HC.out])⟩
      · obtain rfl : k = v.length := by omega
        have HS2 := Lib.hid HS.out.1
        by_cases hok : WOk nn ∧ WAll v
        · have ht : t = true := HS2.out.2 hok
          subst ht
          have HOK := Lib.hid hok
          obtain ⟨hs1, s', hs2, _, _, hs5⟩ := HS.out
          rw [show sumTo (fun j => clamp (wt v j)) v.length = sumW v from sum_clamp hok.2] at hs2
          subst hs2
          have e : s = sumW v := by
            have a := hs5.cells.2.2.1
            rw [c3] at a
            simpa using a
          subst e
          clear hok hs1 hs5
          have hbd := sumW_bd HOK.out.2
          by_cases h0 : sumW v = 0
          · have HRET := Lib.hid (show ShE nn v 4 from .inr (.inr ⟨h64, HOK.out.1, HOK.out.2, h0, rfl⟩))
            rw [h0] at c3
            clear HV HS HS2 h0 hbd
            go_wp2
            go_ret2
            exact ⟨hb, .inl ⟨4, rfl, HRET.out⟩⟩
          · have hgo : ShG nn v := ⟨h64, HOK.out.1, HOK.out.2, by omega⟩
            have HGO := Lib.hid hgo
            have h1 : 1 ≤ sumW v := by omega
            obtain ⟨s, hs⟩ : ∃ s, s = sumW v := ⟨_, rfl⟩
            rw [← hs] at HV c3 hbd h1 h0
            have HSE := Lib.hid hs
            have hmk := HMK.out
            have h00 : (s == 0) = false := by simpa using h0
            clear HS HS2 hgo hs h0
            go_upto_region 14 with (fail)
            go_cut [10, 11, 12] (fun z1 z2 z3 wx => RG14 w nn A v.length cap s z1 z2 z3 wx)
            case first =>
              have hx1 : Below wr.heap.size wr (wr.alloc (.cells (cellsOf v.length fun _ => 0) 3)) := (Below.refl _ _).alloc (Nat.le_refl _) _
              obtain ⟨d1, d2, d3, _, _⟩ := (HV.out.ext hx1).cells
              obtain ⟨e1, e2, e3, _, _⟩ := ((HV.out.ext hx1).ext ((Below.refl _ _).alloc (Nat.le_refl _) (.cells (cellsOf v.length fun _ => 0) 3))).cells
              clear hx1
              go_region
              all_goals
                go_wp2
                go_meet
                first
                  | exact ⟨_, _, rfl, rfl, rfl, (SHo.start HV.out).ext (ext_drew _)⟩
                  | exact ⟨_, _, rfl, rfl, rfl, (SHo.startR HV.out).ext (ext_drew _)⟩
            case rest =>
              obtain ⟨b, o, rfl, rfl, rfl, hso⟩ := hcut
              have HSO := Lib.hid hso
              have hv2 := hso.1
              obtain ⟨c1, c2, c3, c4, c5⟩ := hv2.cells
              have hb2 := hv2.1
              clear HV hb hmk hso hv2 HI
              go_wp2
              go_loopg [62, 12] v.length (fun g i z12 wr => ∃ (k : Nat) (L : Int), i = .int .i64 k ∧ z12 = .int .i64 L ∧ k ≤ v.length ∧ g = v.length - k ∧ L = nn - sumTo (quo nn v) k ∧ SHo w nn A v.length cap s b o (pre (quo nn v) k) (pre (fun k => (k : Int)) k) wr)
              case atStart => exact ⟨0, nn, rfl, rfl, Nat.zero_le _, rfl, by simp [sumTo], by rw [pre_zero, pre_zero]; exact HSO.out⟩
              case round =>
                obtain ⟨k, L, rfl, rfl, hk, hg, hL, hso⟩ := hrel
                have HG := Lib.hid hg
                have HL := Lib.hid hL
                have HS := Lib.hid hso
                obtain ⟨hv2, b1, o1, hbo, how, hor⟩ := hso
                obtain ⟨c1, c2, c3, c4, c5⟩ := hv2.cells
                have hb2 := hv2.1
                clear hg HSO
                by_cases hlt : k < v.length
                · have hf := H.out.ext hb2
                  rcases hf with hf | ⟨ba, off, rfl, hblt, hc'⟩
                  · rw [hf] at hlt; simp at hlt
                  · have ca := hc' k hlt
                    have m1 := prod_bd HOK.out.1 HOK.out.2 hlt
                    have m2 := quo_bd HOK.out.1 HOK.out.2 (by rw [← HSE.out]; exact h1) hlt
                    have m3 := sumq_bd HOK.out.1 HOK.out.2 (by rw [← HSE.out]; exact h1) (Nat.le_of_lt hlt)
                    have hno := HOK.out.1
                    unfold WOk at hno
                    rw [← wt_get hlt] at ca
                    have hqe : quo nn v k = nn * wt v k / s := by rw [HSE.out]; rfl
                    rw [hqe] at m2
                    have k64 : k ≤ 64 := by omega
                    have hLb : -64000000000 ≤ L ∧ L ≤ 1000000000 := by omega
                    have co := how.cell hlt
                    have cr := hor.cell hlt
                    have cof := how.frozen k
                    have crf := hor.frozen k
                    have hset := (HS.out.set k (nn * wt v k / s)).setR k k
                    rw [← hqe, pre_succ] at hset
                    have e2 : upd (pre (fun k => (k : Int)) k) k (k : Int) = pre (fun k => (k : Int)) (k + 1) := pre_succ (fun k => (k : Int)) k
                    rw [e2, hqe] at hset
                    have hset2 := hset.2.2.2.2.1.cell hlt
                    rw [show pre (quo nn v) (k + 1) k = nn * wt v k / s from by unfold pre; rw [if_pos (by omega)]; exact hqe] at hset2
                    have hset3 := hset.1.cells
                    have HSET := Lib.hid hset
                    have HLN := Lib.hid (show L - nn * wt v k / s = nn - sumTo (quo nn v) (k + 1) from by
                      rw [HL.out, ← hqe]; show _ = nn - (sumTo (quo nn v) k + quo nn v k); omega)
                    clear hset hqe e2 hL m3 hc' hv2 how hor
                    generalize wt v k = x at *
                    go_wp2
                    go_roundg (v.length - (k + 1))
                    case measure => have := HG.out; omega
                    case rel => exact ⟨k + 1, _, by go_num, rfl, by omega, rfl, HLN.out, HSET.out⟩
                · obtain rfl : k = v.length := by omega
                  obtain ⟨T, hT⟩ : ∃ T, T = lft nn v := ⟨_, rfl⟩
                  have hl := lft_ok (nn := nn) (v := v) (by rw [← HSE.out]; exact h1)
                  rw [← hT] at hl
                  obtain rfl : L = (T : Int) := by omega
                  obtain ⟨-, t1⟩ := hl
                  have HT := Lib.hid hT
                  have hs2 : SHo w nn A v.length cap (sumW v) b o (quo nn v) (fun k => (k : Int)) wr := by
                    obtain ⟨a1, a2, a3, a4, a5, a6⟩ := HS.out
                    rw [← HSE.out]
                    exact ⟨a1, a2, a3, a4, a5.congr (fun i hi => by unfold pre; rw [if_pos hi]), a6.congr (fun i hi => by unfold pre; rw [if_pos hi])⟩
                  have HC := Lib.hid (HSORT.out b o wr HGO.out hs2)
                  clear hT hL HL HS how hor hs2 HG
                  go_wp2_with (go_at_call 101; refine HC.out.mono ?_; rintro e w5 ⟨rfl, d, hd, hs5⟩)
                  have HD := Lib.hid hd
                  have HS5 := Lib.hid hs5
                  clear hd hs5 HC c1 c2 c3 c4 c5 hv2
                  go_wp2
                  go_loopg [93] T (fun g i wr => ∃ t : Nat, i = .int .i64 t ∧ t ≤ T ∧ g = T - t ∧ SHo w nn A v.length cap (sumW v) b o (OO (quo nn v) d t) d wr)
                  case atStart => exact ⟨0, rfl, Nat.zero_le _, rfl, HS5.out⟩
                  case round =>
                    obtain ⟨t, rfl, ht, hg, hso⟩ := hrel
                    have HG := Lib.hid hg
                    have HS := Lib.hid hso
                    obtain ⟨hv2, b1, o1, hbo, how, hor⟩ := hso
                    clear hg HS5
                    by_cases hlt : t < T
                    · have cr := hor.cell (i := t) (by omega)
                      obtain ⟨z1, z2⟩ := HD.out.range t (by omega)
                      obtain ⟨z, hz⟩ := Int.eq_ofNat_of_zero_le z1
                      rw [hz] at cr z2
                      have hzl : z < v.length := by omega
                      have co := how.cell hzl
                      have cof := how.frozen z
                      have m1 := quo_bd HOK.out.1 HOK.out.2 (by rw [← HSE.out]; exact h1) hzl
                      have m2 := OO_bd (quo nn v) d t z
                      have hset := HS.out.set z (OO (quo nn v) d t z + 1)
                      have e : OO (quo nn v) d (t + 1) = upd (OO (quo nn v) d t) z (OO (quo nn v) d t z + 1) := by
                        show upd _ (d t).toNat _ = _
                        rw [hz, Int.toNat_natCast]
                      rw [← e] at hset
                      have HSET := Lib.hid hset
                      have t64 : t ≤ 64 := by omega
                      have i0 : (0 : Int) ≤ (z : Int) := by omega
                      have i1 : (z : Int) < (v.length : Int) := by omega
                      clear hz e hset how hor hv2 z1
                      generalize OO (quo nn v) d t z = y at *
                      generalize quo nn v z = y0 at *
                      go_wp2
                      go_roundg (T - (t + 1))
                      case measure => have := HG.out; omega
                      case rel => exact ⟨t + 1, by go_num, by omega, rfl, HSET.out⟩
                    · obtain rfl : t = T := by omega
                      go_wp2
                      go_ret2
                      refine ⟨hv2.1, .inr ⟨HGO.out, d, b, HD.out, rfl, how.isl (shs_len _ _ _) (fun j hj => ?_)⟩⟩
                      rw [shs_get hj, HT.out]
        · have ht : t = false := by
            cases t
            · rfl
            · exact absurd (HS2.out.1 rfl) hok
          subst ht
          have HRET := Lib.hid (show ShE nn v 2 from .inr (.inl ⟨h64, hok, rfl⟩))
          clear HS HS2 hok
          go_wp2
          go_ret2
          exact ⟨hb, .inl ⟨2, rfl, HRET.out⟩⟩

set_option maxHeartbeats 1000000 in
theorem share_any (nn : Int) (A : Option Addr) (cap : Nat) (v : List Int) (w : World) (hnw : IsI nn) (hiv : ∀ x ∈ v, IsI x) (hc : v.length ≤ cap) (hcm : cap ≤ 9223372036854775807) (h : ISl w A v) :
    Calls Try.prog 71 #[.int .i64 nn, .slice A v.length cap] w fun e w' => RetSh w nn v e w' := by
  by_cases h64 : 64 < v.length
  · clear h hiv
    go_enter Try.func71, Try.ntmps71
    go_wp2
    go_ret2
    exact ⟨((Below.refl _ _).alloc (Nat.le_refl _) _).alloc (by simp) _, .inl ⟨3, rfl, .inl ⟨h64, rfl⟩⟩⟩
  · exact share_one nn A cap v w hnw hiv (by omega) hc hcm h
end Go.Proofs.Ythkoblnfeebafaa
