/- The smallest skin's table, made. Conditions: the skin lies in memory. -/
import Derived.Test.YtjadbipbidghdaaGreatDoorHr
import Derived.RegionTactic
namespace Go.Proofs.YtjadbipbidghdaaGreatDoor
open Go.RowKit

theorem info_rw : (Tryz.prog.info? 77).map (fun i => (i.zero, i.size, i.bytes)) = some (some (.slice none 0 0), 1, 24) := by kernel_rfl
set_option maxRecDepth 100000 in
set_option maxHeartbeats 8000000 in
theorem newtable0_any (bs : Nat) (w : World) (h : Sk0 w bs) : Calls Tryz.prog 237 #[.slice (some ⟨bs, 0, none⟩) 1 1, .int .i64 1] w fun e w' => ∃ q, e = .returned (.tuple #[.pointer (some ⟨q, 0, none⟩), .int .i64 0]) ∧ Below w.heap.size w w' := by
  have HV := Lib.hid (valid0_any bs w h)
  have HSK := Lib.hid h
  clear h
  go_enter Tryz.func237, Tryz.ntmps237
  go_upto_region 3 with (first
    | (go_at_call 104; refine (HV.out).mono ?_; rintro e w1 ⟨rfl, hx1⟩)
    | (go_at_call 294; refine (least_any _).mono ?_; rintro e w2 ⟨rfl, rfl⟩))
  have HX1 := Lib.hid hx1
  obtain ⟨f1, f2, f3⟩ := Bk.facts (show Bk 9 w2 bs #[.string ⟨#[48]⟩] from HSK.out.ext hx1)
  clear hx1
  have hms : ∀ W, (Instr.makeSlice 77 (.int .i64 2) (.int .i64 2)).run Tryz.prog W = .ok (.slice (some ⟨W.heap.size, 0, none⟩) 2 2) (W.alloc (.cells (cellsOf 2 fun _ => 0) 3)) := fun W => run_zeros 2 (by omega) W
  go_region
  obtain ⟨r0, hr0⟩ : ∃ r0, r0 = w2.heap.size := ⟨_, rfl⟩
  have y1 := Ow.new 3 w2 2 (fun _ => 0)
  have y2 := Bk.new 77 (w2.alloc (.cells (cellsOf 2 fun _ => 0) 3)) #[.slice (some ⟨w2.heap.size, 0, none⟩) 2 2]
  have y3 := Bk.new 404 ((w2.alloc (.cells (cellsOf 2 fun _ => 0) 3)).alloc (.cells #[.slice (some ⟨w2.heap.size, 0, none⟩) 2 2] 77)) #[.int .i64 1, .int .i64 1, .slice (some ⟨w2.heap.size + 1, 0, none⟩) 1 1]
  have x1 := ext_alloc w2 (.cells (cellsOf 2 fun _ => 0) 3)
  have x2 := ext_alloc (w2.alloc (.cells (cellsOf 2 fun _ => 0) 3)) (.cells #[.slice (some ⟨w2.heap.size, 0, none⟩) 2 2] 77)
  have x3 := ext_alloc ((w2.alloc (.cells (cellsOf 2 fun _ => 0) 3)).alloc (.cells #[.slice (some ⟨w2.heap.size, 0, none⟩) 2 2] 77)) (.cells #[.int .i64 1, .int .i64 1, .slice (some ⟨w2.heap.size + 1, 0, none⟩) 1 1] 404)
  have e1 : (w2.alloc (.cells (cellsOf 2 fun _ => 0) 3)).heap.size = w2.heap.size + 1 := by simp
  have e2 : ((w2.alloc (.cells (cellsOf 2 fun _ => 0) 3)).alloc (.cells #[.slice (some ⟨w2.heap.size, 0, none⟩) 2 2] 77)).heap.size = w2.heap.size + 1 + 1 := by simp
  rw [e1] at y2
  rw [e2] at y3
  clear e1 e2
  have H1 := Lib.hid (((y1.ext x2).ext x3).ext (ext_drew _))
  have H2 := Lib.hid ((y2.ext x3).ext (ext_drew _))
  have H3 := Lib.hid (y3.ext (ext_drew _))
  have HX := Lib.hid (ext_trans HX1.out (ext_trans (ext_trans (ext_trans x1 x2) x3) (ext_drew _)))
  obtain ⟨V, hV⟩ : ∃ V, V = (((w2.alloc (.cells (cellsOf 2 fun _ => 0) 3)).alloc (.cells #[.slice (some ⟨w2.heap.size, 0, none⟩) 2 2] 77)).alloc (.cells #[.int .i64 1, .int .i64 1, .slice (some ⟨w2.heap.size + 1, 0, none⟩) 1 1] 404)).drew := ⟨_, rfl⟩
  rw [← hV] at H1 H2 H3 HX ⊢
  rw [← hr0] at H1 H2 H3 ⊢
  have hwr : w.heap.size ≤ r0 := by rw [hr0]; exact HX1.out.size
  have HSV := Lib.hid (HSK.out.ext HX.out)
  clear hV y1 y2 y3 x1 x2 x3 hms f1 f2 f3 hr0 HV HX1
  obtain ⟨q, hq⟩ : ∃ q, q = r0 + 1 + 1 := ⟨_, rfl⟩
  obtain ⟨a, ha⟩ : ∃ a, a = r0 + 1 := ⟨_, rfl⟩
  rw [← ha] at hq
  rw [← ha, ← hq] at H3 ⊢
  rw [← ha] at H2
  have hwq : w.heap.size ≤ q := by omega
  have hwa : w.heap.size ≤ a := by omega
  clear hq ha
  obtain ⟨f1, f2, f3⟩ := H3.out.facts
  go_wp2_with (fail)
  go_loopg [38] 1 (fun gg z wr => (z = .int .i64 0 ∧ gg = 1 ∧ wr = V) ∨ (z = .int .i64 1 ∧ gg = 0 ∧ Below w.heap.size w wr))
  case atStart => exact .inl ⟨rfl, rfl, rfl⟩
  case round =>
    rcases hrel with ⟨rfl, rfl, rfl⟩ | ⟨rfl, rfl, hb⟩
    · obtain ⟨V0, hV0⟩ : ∃ V0, V0 = wr := ⟨_, rfl⟩
      subst hV0
      have hms : ∀ W, (Instr.makeSlice 77 (.int .i64 2) (.int .i64 2)).run Tryz.prog W = .ok (.slice (some ⟨W.heap.size, 0, none⟩) 2 2) (W.alloc (.cells (cellsOf 2 fun _ => 0) 3)) := fun W => run_zeros 2 (by omega) W
      go_upto_region 8 with (fail)
      have y1 := Ow.new 3 V0 2 (fun _ => 0)
      have x1 := ext_alloc V0 (.cells (cellsOf 2 fun _ => 0) 3)
      obtain ⟨Y, hY⟩ : ∃ Y, Y = V0.alloc (.cells (cellsOf 2 fun _ => 0) 3) := ⟨_, rfl⟩
      obtain ⟨B, hB⟩ : ∃ B, B = V0.heap.size := ⟨_, rfl⟩
      rw [← hY] at x1 y1 ⊢
      rw [← hB] at y1 ⊢
      have hwB : V0.heap.size ≤ B := by omega
      have HO := Lib.hid y1
      have HY := Lib.hid x1
      clear hY hB x1 y1 hms f1 f2 f3
      obtain ⟨f1, f2, f3⟩ := (H3.out.ext HY.out).facts
      go_wp2_with (fail)
      clear f1 f2 f3
      go_loopg [51, 9] 1 (fun gg z v w' => v = .int .i64 0 ∧ Below V0.heap.size V0 w' ∧ Ow 3 B 2 (fun _ => 0) w' ∧ ((z = .int .i64 0 ∧ gg = 1) ∨ (z = .int .i64 1 ∧ gg = 0)))
      case atStart => exact ⟨rfl, HY.out, HO.out, .inl ⟨rfl, rfl⟩⟩
      case round =>
        obtain ⟨rfl, hb2, ho2, hz⟩ := hrel
        have HB2 := Lib.hid hb2
        have HO2 := Lib.hid ho2
        clear hb2 ho2 HO HY
        rcases hz with ⟨rfl, rfl⟩ | ⟨rfl, rfl⟩
        · have HG := Lib.hid (fun W (hW : Below V0.heap.size V0 W) => grade0_any bs W (HSV.out.ext hW))
          obtain ⟨f1, f2, f3⟩ := (H3.out.ext HB2.out).facts
          obtain ⟨g1, g2, g3⟩ := (H2.out.ext HB2.out).facts
          have k1 := (H1.out.ext HB2.out).cell (i := 1) (by omega)
          have k3 := (H1.out.ext HB2.out).lt
          have o1 := HO2.out.cell (i := 1) (by omega)
          have o2 := HO2.out.frozen 1
          have o3 := HO2.out.lt
          go_wp2_with (go_at_call 295; refine (HG.out _ HB2.out).mono ?_; rintro e w9 ⟨rfl, rfl⟩)
          go_roundg 0
          case measure => omega
          case rel => exact ⟨rfl, HB2.out.setCell hwB _, (HO2.out.set 1 0).congr fun i _ => by unfold upd; split <;> rfl, .inr ⟨rfl, rfl⟩⟩
        · have hq2 := H3.out.ext HB2.out
          have ha2 := H2.out.ext HB2.out
          have hown : wr.ownsRow w.heap.size 77 1 (.slice (some ⟨a, 0, none⟩) 1 1) 1 [.slice (some ⟨r0, 0, none⟩) 2 2] := ⟨rfl, .inr ⟨a, 1, _, rfl, hwa, ha2, Nat.le_refl _, by decide, rfl, rfl⟩⟩
          have HOW := Lib.hid hown
          have HQ2 := Lib.hid hq2
          have HBW := Lib.hid (HX.out.trans (HB2.out.mono HX.out.size))
          have hbs := HBW.out.size
          obtain ⟨f1, f2, f3⟩ := hq2.facts
          clear hown hq2 ha2
          go_wp2_with (at_builtin; refine wpList_push _ rfl _ _ _ rfl w.heap.size 77 (.slice none 0 0) 1 24 Tryz.underlying301 info_rw rfl (by decide) HOW.out (by rfl) (news := [.slice (some ⟨B, 0, none⟩) 2 2]) rfl rfl rfl (by simp [Value.oneCell']) (by decide) (by unfold maxLen; omega) (by omega) hbs ?_; intro v5 w5 hv5 hb5 hk5 _ _ _; have HB5 := Lib.hid (HBW.out.trans hb5); have hbk5 := (hk5 _ HQ2.out.lt (own_ne HOW.out HQ2.out (by decide))).trans HQ2.out; obtain ⟨A5, c5, e5, _⟩ := own_cells hv5; obtain ⟨q1, q2, q3⟩ := Bk.facts hbk5; subst e5; clear hv5 hb5 hk5 hbk5)
          go_roundg 0
          case measure => omega
          case rel => exact .inr ⟨rfl, rfl, HB5.out.setCell hwq _⟩
    · have HB := Lib.hid hb
      clear hb f1 f2 f3
      go_wp2
      refine bodyPost_ret (v := .tuple #[.pointer (some ⟨q, 0, none⟩), .int .i64 0]) (by simp [results, Tryz.results237, go_sem]) rfl ?_
      exact ⟨q, rfl, HB.out⟩
end Go.Proofs.YtjadbipbidghdaaGreatDoor
