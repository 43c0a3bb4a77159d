/- SkinCrops walked. Conditions: the arguments read as lists. -/
import Derived.Test.YtdkoomcgnaokgaaDoorTs
import Derived.Test.YtdkoomcgnaokgaaDoorPn
import Derived.Test.YtdkoomcgnaokgaaDoorLTurns
namespace Go.Proofs.YtdkoomcgnaokgaaDoor
open Go.RowKit

/-- both answer the same -/
theorem tr_same (l : List ByteArray) : ∃ a b c d z : Int, ∀ (w : World) e w', RetTr w l e w' → Below w.heap.size w w' ∧ e = .returned (.tuple #[.agg #[.int .i64 a, .int .i64 b, .int .i64 c, .int .i64 d], .int .i64 z]) := by
  by_cases h1 : SkOk l
  · by_cases h2 : uL l 1 = []
    · refine ⟨0, 0, 0, 0, 7, fun w e w' hr => ⟨hr.1, ?_⟩⟩
      rcases hr.2 with h | h | h
      · exact absurd h1 h.1
      · exact h.2.2
      · exact absurd h2 h.2.1
    · refine ⟨(boxL (uL l 1)).x0, (boxL (uL l 1)).y0, (boxL (uL l 1)).x1 - (boxL (uL l 1)).x0 + 1, (boxL (uL l 1)).y1 - (boxL (uL l 1)).y0 + 1, 0, fun w e w' hr => ⟨hr.1, ?_⟩⟩
      rcases hr.2 with h | h | h
      · exact absurd h1 h.1
      · exact absurd h.2.1 h2
      · exact h.2.2
  · refine ⟨0, 0, 0, 0, 2, fun w e w' hr => ⟨hr.1, ?_⟩⟩
    rcases hr.2 with h | h | h
    · exact h.2
    · exact absurd h.1 h1
    · exact absurd h.1 h1
theorem ft_len {l : List ByteArray} {x y a b : Int} (h : ftE l x y a b = 0) : (crpP l x y a b).length ≤ 48 ∧ (pnP l x y a b).length ≤ 48 := by
  obtain ⟨h1, h2, h3⟩ := ft_ok h
  unfold crpP pnP
  rw [skF_len, skF_len]
  have h4 := h1.2.1
  unfold RcOk at h2
  unfold RcIn at h3
  refine ⟨by omega, h1.2.1⟩
set_option maxRecDepth 100000 in
set_option maxHeartbeats 4000000 in
theorem law_crops (A : Option Addr) (cap : Nat) (l : List ByteArray) (x y a b : Int) (w : World) (hc : l.length ≤ cap) (hcm : cap ≤ 9223372036854775807) (h : TSl w A l) (hz : TSz l) :
    Calls Tryd.prog 9 #[.slice A l.length cap, .agg #[.int .i64 x, .int .i64 y, .int .i64 a, .int .i64 b]] w fun e w' => e = .returned (.bool true) ∧ Below w.heap.size w w' := by
  obtain ⟨z1, t1, hl1, h1⟩ := s2_same (ok := ftE l x y a b = 0) (er := ftE l x y a b) (crpP l x y a b) (fun h => (ft_len h).1)
  obtain ⟨z2, t2, hl2, h2⟩ := s2_same (ok := ftE l x y a b = 0) (er := ftE l x y a b) (pnP l x y a b) (fun h => (ft_len h).2)
  obtain ⟨ra, rb, rc, rd, z3, h3⟩ := tr_same l
  have HT := Lib.hid (fun W (h : TSl W A l) => (crop_any A cap l x y a b W hc hcm h hz).mono fun e w' hr => h1 W e w' hr)
  have HRT := Lib.hid (fun W (h : TSl W A l) => (rcrop_any A cap l x y a b W hc hcm h hz).mono fun e w' hr => h1 W e w' hr)
  have HM := Lib.hid (fun W (h : TSl W A l) => (punch_any A cap l x y a b W hc hcm h hz).mono fun e w' hr => h2 W e w' hr)
  have HRM := Lib.hid (fun W (h : TSl W A l) => (rpunch_any A cap l x y a b W hc hcm h hz).mono fun e w' hr => h2 W e w' hr)
  have HTR := Lib.hid (fun W (h : TSl W A l) => (trim_any' A cap l W hc hcm h hz).mono fun e w' hr => h3 W e w' hr)
  have HRTR := Lib.hid (fun W (h : TSl W A l) => (rtrim_any A cap l W hc hcm h hz).mono fun e w' hr => h3 W e w' hr)
  have HE1 := Lib.hid (fun A' B' c c' W (hA : TSl W A' t1) (hB : TSl W B' t1) => equal_strs A' B' c c' t1 W hl1 hA hB)
  have HE2 := Lib.hid (fun A' B' c c' W (hA : TSl W A' t2) (hB : TSl W B' t2) => equal_strs A' B' c c' t2 W hl2 hA hB)
  have HX := Lib.hid (fun W (hW : Below w.heap.size w W) => h.ext hW)
  have B0 := ext_alloc w (.cells #[.int .i64 x, .int .i64 y, .int .i64 a, .int .i64 b] 31)
  have HQ0 := Bk.new 31 w #[.int .i64 x, .int .i64 y, .int .i64 a, .int .i64 b]
  clear h hz h1 h2 h3 hl1 hl2
  go_enter Tryd.func9, Tryd.ntmps9
  go_upto_region 1 with (fail)
  obtain ⟨q, hq⟩ : ∃ q, q = w.heap.size := ⟨_, rfl⟩
  obtain ⟨W0, hW⟩ : ∃ W0, W0 = w.alloc (.cells #[.int .i64 x, .int .i64 y, .int .i64 a, .int .i64 b] 31) := ⟨_, rfl⟩
  rw [← hW] at B0 HQ0 ⊢
  rw [← hq] at HQ0 ⊢
  have HQQ := Lib.hid hq
  have HB0 := Lib.hid B0
  have HQ := Lib.hid HQ0
  clear hq hW B0 HQ0
  obtain ⟨q1, q2, q3⟩ := HQ.out.facts
  go_upto_region 2 with (go_at_call 39; refine (HT.out _ (HX.out _ HB0.out)).mono ?_; rintro e w1 ⟨hx1, A1, c1, rfl, ht1⟩)
  have HQ1 := HQ.out.ext hx1
  have B1 := bext HB0.out hx1 HB0.out.size
  clear q1 q2 q3
  obtain ⟨q1, q2, q3⟩ := HQ1.facts
  go_upto_region 3 with (go_at_call 40; refine (HRT.out _ (HX.out _ B1)).mono ?_; rintro e w2 ⟨hx2, A2, c2, rfl, ht2⟩)
  have HQ2 := HQ1.ext hx2
  have B2 := bext B1 hx2 B1.size
  have ht1 := ht1.ext hx2
  clear q1 q2 q3 HQ1 hx1
  obtain ⟨q1, q2, q3⟩ := HQ2.facts
  go_upto_region 4 with (go_at_call 41; refine (HM.out _ (HX.out _ B2)).mono ?_; rintro e w3 ⟨hx3, A3, c3, rfl, ht3⟩)
  have HQ3 := HQ2.ext hx3
  have B3 := bext B2 hx3 B2.size
  have ht1 := ht1.ext hx3
  have ht2 := ht2.ext hx3
  clear q1 q2 q3 HQ2 hx2
  obtain ⟨q1, q2, q3⟩ := HQ3.facts
  go_upto_region 5 with (go_at_call 42; refine (HRM.out _ (HX.out _ B3)).mono ?_; rintro e w4 ⟨hx4, A4, c4, rfl, ht4⟩)
  have B4 := bext B3 hx4 B3.size
  have ht1 := ht1.ext hx4
  have ht2 := ht2.ext hx4
  have ht3 := ht3.ext hx4
  clear q1 q2 q3 HQ3 hx3 hx4
  go_upto_region 6 with (go_at_call 43; refine (HTR.out _ (HX.out _ B4)).mono ?_; rintro e w5 ⟨hx5, rfl⟩)
  have hx5 := ext_trans hx5 (ext_alloc w5 (.cells #[.int .i64 ra, .int .i64 rb, .int .i64 rc, .int .i64 rd] 31))
  have HP5 := Bk.new 31 w5 #[.int .i64 ra, .int .i64 rb, .int .i64 rc, .int .i64 rd]
  obtain ⟨p, hp⟩ : ∃ p, p = w5.heap.size := ⟨_, rfl⟩
  obtain ⟨W5, hW5⟩ : ∃ W5, W5 = w5.alloc (.cells #[.int .i64 ra, .int .i64 rb, .int .i64 rc, .int .i64 rd] 31) := ⟨_, rfl⟩
  rw [← hW5] at hx5 HP5 ⊢
  rw [← hp] at HP5 ⊢
  have B5 := bext B4 hx5 B4.size
  have ht1 := ht1.ext hx5
  have ht2 := ht2.ext hx5
  have ht3 := ht3.ext hx5
  have ht4 := ht4.ext hx5
  clear hp hW5 hx5
  go_upto_region 7 with (go_at_call 44; refine (HRTR.out _ (HX.out _ B5)).mono ?_; rintro e w6 ⟨hx6, rfl⟩)
  have hx6 := ext_trans hx6 (ext_alloc w6 (.cells #[.int .i64 ra, .int .i64 rb, .int .i64 rc, .int .i64 rd] 31))
  have HP6 := Bk.new 31 w6 #[.int .i64 ra, .int .i64 rb, .int .i64 rc, .int .i64 rd]
  obtain ⟨p', hp⟩ : ∃ p', p' = w6.heap.size := ⟨_, rfl⟩
  obtain ⟨W6, hW6⟩ : ∃ W6, W6 = w6.alloc (.cells #[.int .i64 ra, .int .i64 rb, .int .i64 rc, .int .i64 rd] 31) := ⟨_, rfl⟩
  rw [← hW6] at hx6 HP6 ⊢
  rw [← hp] at HP6 ⊢
  have B6 := bext B5 hx6 B5.size
  have ht1 := ht1.ext hx6
  have ht2 := ht2.ext hx6
  have ht3 := ht3.ext hx6
  have ht4 := ht4.ext hx6
  have HP5 := HP5.ext hx6
  clear hp hW6 hx6
  go_wp2_with (first
    | (go_at_call_of 32 (Value.slice A1 t1.length c1); refine (HE1.out _ _ _ _ _ ht1 ht2).mono ?_; rintro e w7 ⟨rfl, hx7⟩; have B7 := bext B6 hx7 B6.size)
    | (go_at_call_of 32 (Value.slice A3 t2.length c3); refine (HE2.out _ _ _ _ _ (ht3.ext hx7) (ht4.ext hx7)).mono ?_; rintro e w8 ⟨rfl, hx8⟩; have B8 := bext B7 hx8 B7.size; obtain ⟨p1, p2, p3⟩ := ((HP5.ext hx7).ext hx8).facts; obtain ⟨s1, s2, s3⟩ := ((HP6.ext hx7).ext hx8).facts)
    | (go_at_call 14; refine (awake_any _).mono ?_; rintro e w9 ⟨rfl, hx9⟩; have B9 := bext B8 hx9 B8.size))
  go_ret
  exact ⟨rfl, B9⟩
end Go.Proofs.YtdkoomcgnaokgaaDoor
