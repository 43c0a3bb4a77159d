/- SkinParts walked. Conditions: the arguments read as lists. -/
import Derived.Test.YtmgofdgbenfjmaaDoorRp
import Derived.Test.YtmgofdgbenfjmaaDoorAw
namespace Go.Proofs.YtmgofdgbenfjmaaDoor
open Go.RowKit

/-- both answers have one form -/
theorem ps_same (l : List ByteArray) (g : Int) : ∃ (P : List Prt) (er : Int), P.length ≤ 1000000 ∧ (∀ p ∈ P, True) ∧ (0 ≤ er ∧ er ≤ 2) ∧
    (∀ w e w', RetPs w l g e w' → ∃ A cap, e = .returned (.tuple #[.slice A P.length cap, .int .i64 er]) ∧ P.length ≤ cap ∧ cap ≤ 9223372036854775807 ∧ PSl w' A P ∧ Below w.heap.size w w') ∧
    (∀ w e w', RetRp w l g e w' → ∃ A cap, e = .returned (.tuple #[.slice A P.length cap, .int .i64 er]) ∧ P.length ≤ cap ∧ cap ≤ 9223372036854775807 ∧ PSl w' A P ∧ Below w.heap.size w w') := by
  by_cases hps : PsOk l g
  · have hl : (partsL (usb l g) (wid l) l.length 3000).length ≤ 1000000 := by
      have h := partSteps_len (usb l g) 3000 (boxCells ⟨0, 0, (wid l : Int) - 1, (l.length : Int) - 1⟩) ([], [])
      have h2 := grid_len hps.1
      unfold grid at h2
      unfold partsL
      have h3 : (([], []) : List Cel × List Prt).2.length = 0 := rfl
      rw [h3] at h
      omega
    refine ⟨partsL (usb l g) (wid l) l.length 3000, 0, hl, fun _ _ => trivial, by decide, ?_, ?_⟩
    · rintro w e w' ⟨hb, ⟨hn, _⟩ | ⟨_, A, cap, rfl, k1, k2, k3⟩⟩
      · exact absurd hps hn
      · exact ⟨A, cap, rfl, k1, k2, k3, hb⟩
    · rintro w e w' ⟨hb, ⟨hn, _⟩ | ⟨_, A, cap, rfl, k1, k2, k3⟩⟩
      · exact absurd hps hn
      · exact ⟨A, cap, rfl, k1, k2, k3, hb⟩
  · refine ⟨[], 2, by simp, fun _ _ => trivial, by decide, ?_, ?_⟩
    · rintro w e w' ⟨hb, ⟨_, rfl⟩ | ⟨h, _⟩⟩
      · exact ⟨none, 0, rfl, by simp, by simp, .inl rfl, hb⟩
      · exact absurd h hps
    · rintro w e w' ⟨hb, ⟨_, rfl⟩ | ⟨h, _⟩⟩
      · exact ⟨none, 0, rfl, by simp, by simp, .inl rfl, hb⟩
      · exact absurd h hps
set_option maxRecDepth 100000 in
set_option maxHeartbeats 4000000 in
theorem law_parts (A : Option Addr) (cap : Nat) (l : List ByteArray) (g : Int) (w : World) (hc : l.length ≤ cap) (hcm : cap ≤ 9223372036854775807) (h : TSl w A l) (hz : TSz l) :
    Calls Tryd.prog 3 #[.slice A l.length cap, .int .i64 g] w fun e w' => e = .returned (.bool true) ∧ Below w.heap.size w w' := by
  obtain ⟨P, er, hPl, _, her, hp, hr⟩ := ps_same l g
  have HP := Lib.hid (fun W (hW : Below w.heap.size w W) => (parts_any A cap l g W hc hcm (h.ext hW) hz).mono fun e w' hr => hp W e w' hr)
  have HR := Lib.hid (fun W (hW : Below w.heap.size w W) => (rparts_any A cap l g W hc hcm (h.ext hW) hz).mono fun e w' h => hr W e w' h)
  clear h hz hp hr
  go_enter Tryd.func3, Tryd.ntmps3
  go_upto_region 3 with (first
    | (go_at_call 12; refine (HP.out _ (Below.refl _ _)).mono ?_; rintro e w1 ⟨A1, c1, rfl, k1, k2, hP1, hx1⟩)
    | (go_at_call 13; refine (HR.out _ hx1).mono ?_; rintro e w2 ⟨A2, c2, rfl, k3, k4, hP2, hx2⟩))
  have HP1 := Lib.hid (hP1.ext hx2)
  have HP2 := Lib.hid hP2
  have HB2 := Lib.hid (bext hx1 hx2 hx1.size)
  clear hP1 hP2 hx1 hx2
  go_wp2_with (fail)
  go_loopg [35] P.length (fun gg z wr => ∃ j : Nat, z = .int .i64 j ∧ j ≤ P.length ∧ gg = P.length - j ∧ Below w2.heap.size w2 wr)
  case atStart => exact ⟨0, rfl, by omega, by omega, Below.refl _ _⟩
  case round =>
    obtain ⟨j, rfl, hj, hg, hb⟩ := hrel
    have HG := Lib.hid hg
    have HB := Lib.hid hb
    clear hg hb
    by_cases hlt : j < P.length
    · rcases HP1.out with h0 | ⟨b1, o1, hA1, hb1, hc1⟩
      · rw [h0] at hlt; simp at hlt
      rcases HP2.out with h0 | ⟨b2, o2, hA2, hb2, hc2⟩
      · rw [h0] at hlt; simp at hlt
      subst hA1 hA2
      have hl1 := Nat.lt_of_lt_of_le hb1 HB.out.size
      have hl2 := Nat.lt_of_lt_of_le hb2 HB.out.size
      obtain ⟨p, hp⟩ : ∃ p, p = P[j] := ⟨_, rfl⟩
      have p1 := fun i hi => (HB.out.cell (p := ⟨b1, o1 + j * 7 + i, none⟩) hb1).trans (hc1 j hlt i hi)
      have p2 := fun i hi => (HB.out.cell (p := ⟨b2, o2 + j * 7 + i, none⟩) hb2).trans (hc2 j hlt i hi)
      rw [← hp] at p1 p2
      obtain ⟨pn, pe, ph, x0, y0, x1, y1⟩ := p
      obtain ⟨W', hW'⟩ : ∃ W' : Int, W' = x1 - x0 + 1 := ⟨_, rfl⟩
      obtain ⟨H', hH'⟩ : ∃ H' : Int, H' = y1 - y0 + 1 := ⟨_, rfl⟩
      have q0 : wr.cell? ⟨b1, o1 + j * 7, none⟩ = some (.int .i64 (pn : Int)) := p1 0 (by decide)
      have q1 : wr.cell? ⟨b1, o1 + j * 7 + 1, none⟩ = some (.int .i64 (pe : Int)) := p1 1 (by decide)
      have q2 : wr.cell? ⟨b1, o1 + j * 7 + 2, none⟩ = some (.int .i64 (ph : Int)) := p1 2 (by decide)
      have q3 : wr.cell? ⟨b1, o1 + j * 7 + 3, none⟩ = some (.int .i64 x0) := p1 3 (by decide)
      have q4 : wr.cell? ⟨b1, o1 + j * 7 + 4, none⟩ = some (.int .i64 y0) := p1 4 (by decide)
      have q5 : wr.cell? ⟨b1, o1 + j * 7 + 5, none⟩ = some (.int .i64 W') := by rw [hW']; exact p1 5 (by decide)
      have q6 : wr.cell? ⟨b1, o1 + j * 7 + 6, none⟩ = some (.int .i64 H') := by rw [hH']; exact p1 6 (by decide)
      have r0 : wr.cell? ⟨b2, o2 + j * 7, none⟩ = some (.int .i64 (pn : Int)) := p2 0 (by decide)
      have r1 : wr.cell? ⟨b2, o2 + j * 7 + 1, none⟩ = some (.int .i64 (pe : Int)) := p2 1 (by decide)
      have r2 : wr.cell? ⟨b2, o2 + j * 7 + 2, none⟩ = some (.int .i64 (ph : Int)) := p2 2 (by decide)
      have r3 : wr.cell? ⟨b2, o2 + j * 7 + 3, none⟩ = some (.int .i64 x0) := p2 3 (by decide)
      have r4 : wr.cell? ⟨b2, o2 + j * 7 + 4, none⟩ = some (.int .i64 y0) := p2 4 (by decide)
      have r5 : wr.cell? ⟨b2, o2 + j * 7 + 5, none⟩ = some (.int .i64 W') := by rw [hW']; exact p2 5 (by decide)
      have r6 : wr.cell? ⟨b2, o2 + j * 7 + 6, none⟩ = some (.int .i64 H') := by rw [hH']; exact p2 6 (by decide)
      have HXN := Lib.hid (ext_alloc wr (.cells #[.int .i64 (pn : Int), .int .i64 (pe : Int), .int .i64 (ph : Int), .int .i64 x0, .int .i64 y0, .int .i64 W', .int .i64 H'] 33))
      have HD := Lib.hid (Bk.new 33 wr #[.int .i64 (pn : Int), .int .i64 (pe : Int), .int .i64 (ph : Int), .int .i64 x0, .int .i64 y0, .int .i64 W', .int .i64 H'])
      clear p1 p2 hp hW' hH' hc1 hc2
      go_upto_region 8 with (fail)
      obtain ⟨d, hd⟩ : ∃ d, d = wr.heap.size := ⟨_, rfl⟩
      obtain ⟨Y, hY⟩ : ∃ Y, Y = wr.alloc (.cells #[.int .i64 (pn : Int), .int .i64 (pe : Int), .int .i64 (ph : Int), .int .i64 x0, .int .i64 y0, .int .i64 W', .int .i64 H'] 33) := ⟨_, rfl⟩
      have HBY := Lib.hid (bext HB.out HXN.out HB.out.size)
      have s0 := (HXN.out.cell (p := ⟨b2, o2 + j * 7, none⟩) hl2).trans r0
      have s1 := (HXN.out.cell (p := ⟨b2, o2 + j * 7 + 1, none⟩) hl2).trans r1
      have s2 := (HXN.out.cell (p := ⟨b2, o2 + j * 7 + 2, none⟩) hl2).trans r2
      have s3 := (HXN.out.cell (p := ⟨b2, o2 + j * 7 + 3, none⟩) hl2).trans r3
      have s4 := (HXN.out.cell (p := ⟨b2, o2 + j * 7 + 4, none⟩) hl2).trans r4
      have s5 := (HXN.out.cell (p := ⟨b2, o2 + j * 7 + 5, none⟩) hl2).trans r5
      have s6 := (HXN.out.cell (p := ⟨b2, o2 + j * 7 + 6, none⟩) hl2).trans r6
      have hl2' := Nat.lt_of_lt_of_le hl2 HXN.out.size
      rw [← hd, ← hY]
      rw [← hd, ← hY] at HD
      rw [← hY] at s0 s1 s2 s3 s4 s5 s6 HBY hl2'
      clear hd hY HXN q0 q1 q2 q3 q4 q5 q6 r0 r1 r2 r3 r4 r5 r6 hl1 hl2 hb1 hb2
      obtain ⟨d1, d2, d3⟩ := HD.out.facts
      go_quiet (fail)
      have HBZ := Lib.hid (bdrewN HBY.out nq)
      go_wp2
      go_roundg (P.length - (j + 1))
      case measure => have := HG.out; omega
      case rel => exact ⟨j + 1, by go_num, by omega, rfl, HBZ.out⟩
    · obtain rfl : j = P.length := by omega
      go_wp2_with (go_at_call 14; refine (awake_any _).mono ?_; rintro e w4 ⟨rfl, hx4⟩)
      go_ret
      exact ⟨rfl, bext (bext HB2.out HB.out HB2.out.size) hx4 (bext HB2.out HB.out HB2.out.size).size⟩
end Go.Proofs.YtmgofdgbenfjmaaDoor
