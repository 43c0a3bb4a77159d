/- slices.Contains at rectangles, walked where it finds; the best rectangle is a greatest one. No conditions. -/
import Derived.Test.YtmgofdgbenfjmaaDoorLp
namespace Go.Proofs.YtmgofdgbenfjmaaDoor
open Go.RowKit

theorem best_mx {us : Int × Int → Bool} {n k : Nat} (hi : Inn us n k) {m : Rn} (h : BestR us false m) : Mx us m := by
  obtain ⟨s, s1, s2, s3, s4, s5, s6, s7⟩ := within' hi m h.1.1 h.1.2.1 h.1.2.2.1
  by_cases he : m.a = s.a ∧ m.b = s.b
  · have e : s = m := Rn.ext' (by omega) (by omega) he.1.symm he.2.symm
    rw [← e]; exact s1
  · exact absurd (.inl (area_lt s6 s7 h.1.1 h.1.2.1 he)) (h.2 s ⟨s1.1, s1.2.1, s1.2.2.1, fun h => by cases h⟩)
set_option maxRecDepth 100000 in
set_option maxHeartbeats 4000000 in
theorem index_rects (A : Option Addr) (cap : Nat) (ms : List Rn) (m : Rn) (w : World) (hl : ms.length ≤ 10000000) (h : RSl w A ms) (hm : m ∈ ms) :
    Calls Tryd.prog 62 #[.slice A ms.length cap, .agg #[.int .i64 (m.x : Int), .int .i64 (m.y : Int), .int .i64 (m.a : Int), .int .i64 (m.b : Int)]] w fun e w' => (∃ k : Nat, e = .returned (.int .i64 (k : Int))) ∧ Below w.heap.size w w' := by
  have hx0 := ext_alloc w (.cells #[.int .i64 (m.x : Int), .int .i64 (m.y : Int), .int .i64 (m.a : Int), .int .i64 (m.b : Int)] 31)
  have HX := Lib.hid hx0
  have HB := Lib.hid (Bk.new 31 w #[.int .i64 (m.x : Int), .int .i64 (m.y : Int), .int .i64 (m.a : Int), .int .i64 (m.b : Int)])
  rcases h with h0 | ⟨b, off, rfl, hblt, hc⟩
  · rw [h0] at hm; simp at hm
  have HC := Lib.hid (show ∀ W, Below w.heap.size w W → b < W.heap.size ∧ ∀ j (hj : j < ms.length), W.cell? ⟨b, off + j * 4, none⟩ = some (.int .i64 (ms[j].x : Int)) ∧ W.cell? ⟨b, off + j * 4 + 1, none⟩ = some (.int .i64 (ms[j].y : Int)) ∧ W.cell? ⟨b, off + j * 4 + 2, none⟩ = some (.int .i64 (ms[j].a : Int)) ∧ W.cell? ⟨b, off + j * 4 + 3, none⟩ = some (.int .i64 (ms[j].b : Int)) from fun W hW => ⟨Nat.lt_of_lt_of_le hblt hW.size, fun j hj => ⟨(hW.cell (p := ⟨b, _, none⟩) hblt).trans (hc j hj).1, (hW.cell (p := ⟨b, _, none⟩) hblt).trans (hc j hj).2.1, (hW.cell (p := ⟨b, _, none⟩) hblt).trans (hc j hj).2.2.1, (hW.cell (p := ⟨b, _, none⟩) hblt).trans (hc j hj).2.2.2⟩⟩)
  have HM := Lib.hid hm
  clear hc hm hx0
  go_enter Tryd.func62, Tryd.ntmps62
  go_upto_region 1 with (fail)
  obtain ⟨q, hq⟩ : ∃ q, q = w.heap.size := ⟨_, rfl⟩
  obtain ⟨V, hV⟩ : ∃ V, V = w.alloc (.cells #[.int .i64 (m.x : Int), .int .i64 (m.y : Int), .int .i64 (m.a : Int), .int .i64 (m.b : Int)] 31) := ⟨_, rfl⟩
  rw [← hq, ← hV]
  rw [← hq, ← hV] at HB
  rw [← hV] at HX
  have HV0 := Lib.hid (Below.refl V.heap.size V)
  clear hq hV
  go_wp2_with (fail)
  go_loopg [8] ms.length (fun g z wr => ∃ k : Nat, z = .int .i64 k ∧ k ≤ ms.length ∧ g = ms.length - k ∧ (∀ j (hj : j < ms.length), j < k → ms[j] ≠ m) ∧ Below V.heap.size V wr)
  case atStart => exact ⟨0, rfl, by omega, by omega, fun j _ h => by omega, HV0.out⟩
  case round =>
    obtain ⟨k, rfl, hk, hg, hne, hb⟩ := hrel
    have HG := Lib.hid hg
    have HN := Lib.hid hne
    have HB1 := Lib.hid hb
    have HBW := Lib.hid (bext HX.out hb HX.out.size)
    clear hg hne hb HV0
    by_cases hlt : k < ms.length
    · obtain ⟨cb, cc⟩ := HC.out _ HBW.out
      obtain ⟨c1, c2, c3, c4⟩ := cc k hlt
      obtain ⟨r1, r2, r3⟩ := (HB.out.ext HB1.out).facts
      have HE := Lib.hid (show ms[k] ≠ m → ∀ j (hj : j < ms.length), j < k + 1 → ms[j] ≠ m from fun h j hj hjk => by
        by_cases e : j = k
        · subst e; exact h
        · exact HN.out j hj (by omega))
      generalize ms[k] = y at *
      obtain ⟨yx, yy, ya, yb⟩ := y
      obtain ⟨mx, my, ma, mc⟩ := m
      dsimp only at c1 c2 c3 c4 r1 HB
      have i0 : (0 : Int) ≤ (k : Int) := by omega
      have i1 : (k : Int) < (ms.length : Int) := by omega
      clear cc
      by_cases hxx : mx = yx ∧ my = yy ∧ ma = ya ∧ mc = yb
      · obtain ⟨rfl, rfl, rfl, rfl⟩ := hxx
        go_wp2_with (fail)
        go_quiet (fail)
        go_wp2_with (fail)
        (try simp only [Exit.inBlock, Exit.then])
        refine bodyPost_ret (v := .int .i64 (k : Int)) (by simp [results, Tryd.results62, go_sem]) rfl ?_
        exact ⟨⟨k, rfl⟩, bext HBW.out (ext_drewN _ _) HBW.out.size⟩
      · have HE2 := Lib.hid (HE.out (fun e => by injection e with e1 e2 e3 e4; exact hxx ⟨e1.symm, e2.symm, e3.symm, e4.symm⟩))
        by_cases h : mx = yx
        · subst h
          by_cases h : my = yy
          · subst h
            by_cases h : ma = ya
            · subst h
              have h : mc ≠ yb := fun e => hxx ⟨rfl, rfl, rfl, e⟩
              have t1 : ((mc : Int) == (yb : Int)) = false := by simp; omega
              have t1N : (mc == yb) = false := by simp; omega
              clear hxx HE h
              go_wp2_with (fail)
              go_quiet (fail)
              go_wp2_with (fail)
              go_roundg (ms.length - (k + 1))
              case measure => have := HG.out; omega
              case rel => exact ⟨k + 1, by go_num, by omega, rfl, HE2.out, bext HB1.out (ext_drewN _ _) HB1.out.size⟩
            · have t1 : ((ma : Int) == (ya : Int)) = false := by simp; omega
              have t1N : (ma == ya) = false := by simp; omega
              clear hxx HE h
              go_wp2_with (fail)
              go_quiet (fail)
              go_wp2_with (fail)
              go_roundg (ms.length - (k + 1))
              case measure => have := HG.out; omega
              case rel => exact ⟨k + 1, by go_num, by omega, rfl, HE2.out, bext HB1.out (ext_drewN _ _) HB1.out.size⟩
          · have t1 : ((my : Int) == (yy : Int)) = false := by simp; omega
            have t1N : (my == yy) = false := by simp; omega
            clear hxx HE h
            go_wp2_with (fail)
            go_quiet (fail)
            go_wp2_with (fail)
            go_roundg (ms.length - (k + 1))
            case measure => have := HG.out; omega
            case rel => exact ⟨k + 1, by go_num, by omega, rfl, HE2.out, bext HB1.out (ext_drewN _ _) HB1.out.size⟩
        · have t1 : ((mx : Int) == (yx : Int)) = false := by simp; omega
          have t1N : (mx == yx) = false := by simp; omega
          clear hxx HE h
          go_wp2_with (fail)
          go_quiet (fail)
          go_wp2_with (fail)
          go_roundg (ms.length - (k + 1))
          case measure => have := HG.out; omega
          case rel => exact ⟨k + 1, by go_num, by omega, rfl, HE2.out, bext HB1.out (ext_drewN _ _) HB1.out.size⟩
    · have HNO := Lib.hid (show False from by
        obtain ⟨j, hj, e⟩ := List.mem_iff_getElem.1 HM.out
        exact HN.out j hj (by omega) e)
      exact HNO.out.elim
set_option maxRecDepth 100000 in
theorem contains_rects (A : Option Addr) (cap : Nat) (ms : List Rn) (m : Rn) (w : World) (hl : ms.length ≤ 10000000) (h : RSl w A ms) (hm : m ∈ ms) :
    Calls Tryd.prog 22 #[.slice A ms.length cap, .agg #[.int .i64 (m.x : Int), .int .i64 (m.y : Int), .int .i64 (m.a : Int), .int .i64 (m.b : Int)]] w fun e w' => e = .returned (.bool true) ∧ Below w.heap.size w w' := by
  have HX := Lib.hid (ext_alloc w (.cells #[.int .i64 (m.x : Int), .int .i64 (m.y : Int), .int .i64 (m.a : Int), .int .i64 (m.b : Int)] 31))
  have HB := Lib.hid (Bk.new 31 w #[.int .i64 (m.x : Int), .int .i64 (m.y : Int), .int .i64 (m.a : Int), .int .i64 (m.b : Int)])
  have HIX := Lib.hid (fun W (hW : Below w.heap.size w W) => index_rects A cap ms m W hl (h.ext hW) hm)
  clear h hm
  obtain ⟨r1, r2, r3⟩ := HB.out.facts
  go_enter Tryd.func22, Tryd.ntmps22
  go_wp2_with (go_at_call 62; refine (HIX.out _ HX.out).mono ?_; rintro e w1 ⟨⟨k, rfl⟩, hx1⟩; have hk0 : (0 : Int) ≤ (k : Int) := by omega)
  go_ret
  exact ⟨rfl, bext HX.out hx1 HX.out.size⟩
end Go.Proofs.YtmgofdgbenfjmaaDoor
