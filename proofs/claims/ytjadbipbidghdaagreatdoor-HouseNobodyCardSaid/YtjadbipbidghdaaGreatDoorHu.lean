/- The smallest board searched, walked: best's closure. Conditions: the board lies in memory. -/
import Derived.Test.YtjadbipbidghdaaGreatDoorHt
import Derived.Test.YtjadbipbidghdaaGreatDoorRgT
import Derived.Test.YtjadbipbidghdaaGreatDoorHb
import Derived.RegionTactic
namespace Go.Proofs.YtjadbipbidghdaaGreatDoor
open Go.RowKit

/-- what best's closure stands on: two captured cells, the board, the kinds, the row of answers -/
structure En (w : World) (p1 p2 x bs bk m bb : Nat) : Prop where
  c1 : Bk 278 w p1 #[.pointer (some ⟨x, 0, none⟩)]
  c2 : Bk 77 w p2 #[.slice (some ⟨bb, 0, none⟩) 1 1]
  bd : Bd w x bs bk m
  kn : Kn0 w bk
  ow : Bk 3 w bb #[.int .i64 0]
section
variable {w w' : World} {p1 p2 x bs bk m bb : Nat}
theorem En.ext (h : En w p1 p2 x bs bk m bb) (hb : Below w.heap.size w w') : En w' p1 p2 x bs bk m bb :=
  ⟨h.c1.ext hb, h.c2.ext hb, Bk.ext h.bd hb, Bk.ext h.kn hb, h.ow.ext hb⟩
theorem En.set (h : En w p1 p2 x bs bk m bb) : En (w.setCell ⟨bb, 0, none⟩ (.int .i64 0)) p1 p2 x bs bk m bb :=
  ⟨h.c1.set_ne (bk_ne h.c1 h.ow (by decide)) _, h.c2.set_ne (bk_ne h.c2 h.ow (by decide)) _, Bk.set_ne h.bd (bk_ne h.bd h.ow (by decide)) _, Bk.set_ne h.kn (bk_ne h.kn h.ow (by decide)) _, h.ow.set 0 _⟩
theorem En.facts (h : En w p1 p2 x bs bk m bb) : (w.cell? ⟨p1, 0, none⟩ = some (.pointer (some ⟨x, 0, none⟩)) ∧ p1 < w.heap.size) ∧ (w.cell? ⟨p2, 0, none⟩ = some (.slice (some ⟨bb, 0, none⟩) 1 1) ∧ p2 < w.heap.size) ∧
    ((∀ i, w.cell? ⟨x, i, none⟩ = (#[.slice (some ⟨bs, 0, none⟩) 1 1, .slice (some ⟨bk, 0, none⟩) 1 1, .int .i64 1, .int .i64 1, .map (some m)] : Array Value)[i]?) ∧ x < w.heap.size) ∧ (bk < w.heap.size) ∧
    (w.cell? ⟨bb, 0, none⟩ = some (.int .i64 0) ∧ w.frozen? ⟨bb, 0, none⟩ = false ∧ bb < w.heap.size) :=
  ⟨⟨h.c1.cell 0, h.c1.lt⟩, ⟨h.c2.cell 0, h.c2.lt⟩, ⟨fun i => Bk.cell h.bd i, Bk.lt h.bd⟩, Bk.lt h.kn, ⟨h.ow.cell 0, h.ow.frozen 0, h.ow.lt⟩⟩
end
set_option maxRecDepth 100000 in
set_option maxHeartbeats 16000000 in
theorem best1_any (p1 p2 x bs bk m bb : Nat) (w : World) (h : En w p1 p2 x bs bk m bb) : Calls Tryz.prog 240 #[.agg #[.int .i64 0, .int .i64 0, .int .i64 1, .int .i64 1], .int .i64 0, .pointer (some ⟨p1, 0, none⟩), .pointer (some ⟨p2, 0, none⟩)] w fun e w' => e = .returned (.tuple #[]) ∧ En w' p1 p2 x bs bk m bb ∧ Chg (· = bb) w w' := by
  have HX := Lib.hid (ext_alloc w (.cells #[.int .i64 0, .int .i64 0, .int .i64 1, .int .i64 1] 286))
  have HR := Lib.hid (Bk.new 286 w #[.int .i64 0, .int .i64 0, .int .i64 1, .int .i64 1])
  have HEW := Lib.hid h
  clear h
  go_enter Tryz.func240, Tryz.ntmps240
  go_upto_region 1 with (fail)
  obtain ⟨V, hV⟩ : ∃ V, V = w.alloc (.cells #[.int .i64 0, .int .i64 0, .int .i64 1, .int .i64 1] 286) := ⟨_, rfl⟩
  obtain ⟨q, hq⟩ : ∃ q, q = w.heap.size := ⟨_, rfl⟩
  rw [← hV] at HX HR ⊢
  rw [← hq] at HR ⊢
  clear hV hq
  have HE := Lib.hid (HEW.out.ext HX.out)
  clear HEW
  refine wp_region_T (S := (fun W => Below V.heap.size V W)) 6 (by kernel_rfl) (ext_drew _) (fun hHeld => ?_)
  refine wpAnyT_take (i := 0) (v := ?v1) [] rfl (by kernel_rfl) (fun _ _ _ h => h) (Or.inl ⟨by rfl, ?hy1⟩) hHeld ?rst1
  case hy1 => (intro wx hSw; obtain ⟨a1, b1, d1, k1, o1⟩ := (HE.out.ext hSw).facts; obtain ⟨r1, r2, r3⟩ := (HR.out.ext hSw).facts; go_simp; try (with_reducible rfl))
  try simp only [List.getElem_toArray, List.getElem_cons_zero, Act.put, List.setIfInBounds_toArray, List.set_cons_zero, List.set_cons_succ]
  refine wpAnyT_take (i := 1) (v := ?v2) [] rfl (by kernel_rfl) (fun _ _ _ h => h) (Or.inl ⟨by rfl, ?hy2⟩) hHeld ?rst2
  case hy2 => (intro wx hSw; obtain ⟨a1, b1, d1, k1, o1⟩ := (HE.out.ext hSw).facts; obtain ⟨r1, r2, r3⟩ := (HR.out.ext hSw).facts; go_simp; try (with_reducible rfl))
  try simp only [List.getElem_toArray, List.getElem_cons_zero, List.getElem_cons_succ, Act.put, List.setIfInBounds_toArray, List.set_cons_zero, List.set_cons_succ]
  refine wpAnyT_take (i := 2) (v := ?v3) [] rfl (by kernel_rfl) (fun _ _ _ h => h) (Or.inl ⟨by rfl, ?hy3⟩) hHeld ?rst3
  case hy3 => (intro wx hSw; obtain ⟨a1, b1, d1, k1, o1⟩ := (HE.out.ext hSw).facts; obtain ⟨r1, r2, r3⟩ := (HR.out.ext hSw).facts; go_simp; try (with_reducible rfl))
  try simp only [List.getElem_toArray, List.getElem_cons_zero, List.getElem_cons_succ, Act.put, List.setIfInBounds_toArray, List.set_cons_zero, List.set_cons_succ]
  refine wpAnyT_take (i := 3) (v := ?v4) [] rfl (by kernel_rfl) (fun _ _ _ h => h) (Or.inl ⟨by rfl, ?hy4⟩) hHeld ?rst4
  case hy4 => (intro wx hSw; obtain ⟨a1, b1, d1, k1, o1⟩ := (HE.out.ext hSw).facts; obtain ⟨r1, r2, r3⟩ := (HR.out.ext hSw).facts; go_simp; try (with_reducible rfl))
  try simp only [List.getElem_toArray, List.getElem_cons_zero, List.getElem_cons_succ, Act.put, List.setIfInBounds_toArray, List.set_cons_zero, List.set_cons_succ]
  refine wpAnyT_one (i := 4) (by kernel_rfl) rfl (fun K hK => ?_)
  go_simp
  go_at_call 241
  refine (leaf0_any x bs bk m _ (HE.out.ext (by (first | exact hHeld | exact ext_drew _ | exact Below.refl _ _))).bd (HE.out.ext (by (first | exact hHeld | exact ext_drew _ | exact Below.refl _ _))).kn).mono ?_
  rintro e8 w8 ⟨rfl, hx8⟩
  have B8 := ext_trans (show Below V.heap.size V _ from by (first | exact hHeld | exact ext_drew _ | exact Below.refl _ _)) hx8
  clear hx8
  refine hK.out _ _ (B8) (fun hHeld => ?_)
  clear hK K
  try simp only [List.getElem_toArray, List.getElem_cons_zero, List.getElem_cons_succ, Act.put, List.setIfInBounds_toArray, List.set_cons_zero, List.set_cons_succ]
  refine wpAnyT_take (i := 5) (v := ?v5) [] rfl (by kernel_rfl) (fun _ _ _ h => h) (Or.inl ⟨by rfl, ?hy5⟩) hHeld ?rst5
  case hy5 => (intro wx hSw; obtain ⟨a1, b1, d1, k1, o1⟩ := (HE.out.ext hSw).facts; obtain ⟨r1, r2, r3⟩ := (HR.out.ext hSw).facts; go_simp; try (with_reducible rfl))
  try simp only [List.getElem_toArray, List.getElem_cons_zero, List.getElem_cons_succ, Act.put, List.setIfInBounds_toArray, List.set_cons_zero, List.set_cons_succ]
  refine wpAnyT_last (by kernel_rfl) (by kernel_rfl) rfl (fun K hK => ?_)
  obtain ⟨a1, b1, d1, k1, o1⟩ := (HE.out.ext hHeld).facts
  go_simp
  refine hK.out _ _ ?_
  clear hK K
  have HE2 := Lib.hid ((HE.out.ext hHeld).set)
  have HR2 := Lib.hid ((HR.out.ext hHeld).set_ne (j := 0) (bk_ne (HR.out.ext hHeld) (HE.out.ext hHeld).ow (by decide)) (.int .i64 0))
  have HC2 := Lib.hid (Chg.trans (S := (· = bb)) (Chg.of (ext_trans HX.out hHeld)) (Chg.set (· = bb) w8 rfl (j := 0) (.int .i64 0)) fun _ _ e => e)
  obtain ⟨W2, hW2⟩ : ∃ W2, W2 = w8.setCell ⟨bb, 0, none⟩ (.int .i64 0) := ⟨_, rfl⟩
  rw [← hW2] at HE2 HR2 HC2 ⊢
  clear hW2 a1 b1 d1 k1 o1 HE HR HX hHeld B8
  go_wp2_with (fail)
  go_loopg [6] 2 (fun gg z wr => En wr p1 p2 x bs bk m bb ∧ Bk 286 wr q #[.int .i64 0, .int .i64 0, .int .i64 1, .int .i64 1] ∧ Chg (· = bb) w wr ∧ ∃ i : Nat, i ≤ 2 ∧ z = .int .i64 (2 + (i : Int)) ∧ gg = 2 - i)
  case atStart => exact ⟨HE2.out, HR2.out, HC2.out, 0, by omega, rfl, rfl⟩
  case round =>
    obtain ⟨he, hr, hc, i, hi, rfl, hgg⟩ := hrel
    have HE := Lib.hid he
    have HR := Lib.hid hr
    have HC := Lib.hid hc
    have HG := Lib.hid hgg
    clear he hr hc hgg HE2 HR2 HC2
    obtain ⟨V, hV⟩ : ∃ V, V = wr := ⟨_, rfl⟩
    subst hV
    by_cases hlt : i < 2
    · have h3 : (2 : Int) + (i : Int) ≤ 3 := by omega
      go_upto_region 5 with (fail)
      refine wp_region_T (S := (fun W => Below V.heap.size V W)) 13 (by kernel_rfl) (ext_drew _) (fun hHeld => ?_)
      refine wpAnyT_take (i := 0) (v := ?v6) [] rfl (by kernel_rfl) (fun _ _ _ h => h) (Or.inl ⟨by rfl, ?hy6⟩) hHeld ?rst6
      case hy6 => (intro wx hSw; obtain ⟨a1, b1, d1, k1, o1⟩ := (HE.out.ext hSw).facts; obtain ⟨r1, r2, r3⟩ := (HR.out.ext hSw).facts; go_simp; try (with_reducible rfl))
      try simp only [List.getElem_toArray, List.getElem_cons_zero, Act.put, List.setIfInBounds_toArray, List.set_cons_zero, List.set_cons_succ]
      refine wpAnyT_take (i := 1) (v := ?v7) [] rfl (by kernel_rfl) (fun _ _ _ h => h) (Or.inl ⟨by rfl, ?hy7⟩) hHeld ?rst7
      case hy7 => (intro wx hSw; obtain ⟨a1, b1, d1, k1, o1⟩ := (HE.out.ext hSw).facts; obtain ⟨r1, r2, r3⟩ := (HR.out.ext hSw).facts; go_simp; try (with_reducible rfl))
      try simp only [List.getElem_toArray, List.getElem_cons_zero, List.getElem_cons_succ, Act.put, List.setIfInBounds_toArray, List.set_cons_zero, List.set_cons_succ]
      refine wpAnyT_take (i := 2) (v := ?v8) [] rfl (by kernel_rfl) (fun _ _ _ h => h) (Or.inl ⟨by rfl, ?hy8⟩) hHeld ?rst8
      case hy8 => (intro wx hSw; obtain ⟨a1, b1, d1, k1, o1⟩ := (HE.out.ext hSw).facts; obtain ⟨r1, r2, r3⟩ := (HR.out.ext hSw).facts; go_simp; try (with_reducible rfl))
      try simp only [List.getElem_toArray, List.getElem_cons_zero, List.getElem_cons_succ, Act.put, List.setIfInBounds_toArray, List.set_cons_zero, List.set_cons_succ]
      refine wpAnyT_take (i := 3) (v := ?v9) [] rfl (by kernel_rfl) (fun _ _ _ h => h) (Or.inl ⟨by rfl, ?hy9⟩) hHeld ?rst9
      case hy9 => (intro wx hSw; obtain ⟨a1, b1, d1, k1, o1⟩ := (HE.out.ext hSw).facts; obtain ⟨r1, r2, r3⟩ := (HR.out.ext hSw).facts; go_simp; try (with_reducible rfl))
      try simp only [List.getElem_toArray, List.getElem_cons_zero, List.getElem_cons_succ, Act.put, List.setIfInBounds_toArray, List.set_cons_zero, List.set_cons_succ]
      refine wpAnyT_take (i := 4) (v := ?v10) [] rfl (by kernel_rfl) (fun _ _ _ h => h) (Or.inl ⟨by rfl, ?hy10⟩) hHeld ?rst10
      case hy10 => (intro wx hSw; obtain ⟨a1, b1, d1, k1, o1⟩ := (HE.out.ext hSw).facts; obtain ⟨r1, r2, r3⟩ := (HR.out.ext hSw).facts; go_simp; try (with_reducible rfl))
      try simp only [List.getElem_toArray, List.getElem_cons_zero, List.getElem_cons_succ, Act.put, List.setIfInBounds_toArray, List.set_cons_zero, List.set_cons_succ]
      refine wpAnyT_take (i := 5) (v := ?v11) [] rfl (by kernel_rfl) (fun _ _ _ h => h) (Or.inl ⟨by rfl, ?hy11⟩) hHeld ?rst11
      case hy11 => (intro wx hSw; obtain ⟨a1, b1, d1, k1, o1⟩ := (HE.out.ext hSw).facts; obtain ⟨r1, r2, r3⟩ := (HR.out.ext hSw).facts; go_simp; try (with_reducible rfl))
      try simp only [List.getElem_toArray, List.getElem_cons_zero, List.getElem_cons_succ, Act.put, List.setIfInBounds_toArray, List.set_cons_zero, List.set_cons_succ]
      refine wpAnyT_take (i := 6) (v := ?v12) [] rfl (by kernel_rfl) (fun _ _ _ h => h) (Or.inl ⟨by rfl, ?hy12⟩) hHeld ?rst12
      case hy12 => (intro wx hSw; obtain ⟨a1, b1, d1, k1, o1⟩ := (HE.out.ext hSw).facts; obtain ⟨r1, r2, r3⟩ := (HR.out.ext hSw).facts; go_simp; try (with_reducible rfl))
      try simp only [List.getElem_toArray, List.getElem_cons_zero, List.getElem_cons_succ, Act.put, List.setIfInBounds_toArray, List.set_cons_zero, List.set_cons_succ]
      refine wpAnyT_take (i := 7) (v := ?v13) [] rfl (by kernel_rfl) (fun _ _ _ h => h) (Or.inl ⟨by rfl, ?hy13⟩) hHeld ?rst13
      case hy13 => (intro wx hSw; obtain ⟨a1, b1, d1, k1, o1⟩ := (HE.out.ext hSw).facts; obtain ⟨r1, r2, r3⟩ := (HR.out.ext hSw).facts; go_simp; try (with_reducible rfl))
      try simp only [List.getElem_toArray, List.getElem_cons_zero, List.getElem_cons_succ, Act.put, List.setIfInBounds_toArray, List.set_cons_zero, List.set_cons_succ]
      refine wpAnyT_take (i := 8) (v := ?v14) [] rfl (by kernel_rfl) (fun _ _ _ h => h) (Or.inl ⟨by rfl, ?hy14⟩) hHeld ?rst14
      case hy14 => (intro wx hSw; obtain ⟨a1, b1, d1, k1, o1⟩ := (HE.out.ext hSw).facts; obtain ⟨r1, r2, r3⟩ := (HR.out.ext hSw).facts; go_simp; try (with_reducible rfl))
      try simp only [List.getElem_toArray, List.getElem_cons_zero, List.getElem_cons_succ, Act.put, List.setIfInBounds_toArray, List.set_cons_zero, List.set_cons_succ]
      refine wpAnyT_take (i := 9) (v := ?v15) [] rfl (by kernel_rfl) (fun _ _ _ h => h) (Or.inl ⟨by rfl, ?hy15⟩) hHeld ?rst15
      case hy15 => (intro wx hSw; obtain ⟨a1, b1, d1, k1, o1⟩ := (HE.out.ext hSw).facts; obtain ⟨r1, r2, r3⟩ := (HR.out.ext hSw).facts; go_simp; try (with_reducible rfl))
      try simp only [List.getElem_toArray, List.getElem_cons_zero, List.getElem_cons_succ, Act.put, List.setIfInBounds_toArray, List.set_cons_zero, List.set_cons_succ]
      refine wpAnyT_one (i := 10) (by kernel_rfl) rfl (fun K hK => ?_)
      go_simp
      go_at_call 242
      refine (cuts0_any x _ _ _).mono ?_
      rintro e8 w8 ⟨rfl, hx8⟩
      have B8 := ext_trans (show Below V.heap.size V _ from by (first | exact hHeld | exact ext_drew _ | exact Below.refl _ _)) hx8
      clear hx8
      refine hK.out _ _ (B8) (fun hHeld => ?_)
      clear hK K
      try simp only [List.getElem_toArray, List.getElem_cons_zero, List.getElem_cons_succ, Act.put, List.setIfInBounds_toArray, List.set_cons_zero, List.set_cons_succ]
      refine wpAnyT_take (i := 11) (v := ?v16) [] rfl (by kernel_rfl) (fun _ _ _ h => h) (Or.inl ⟨by rfl, ?hy16⟩) hHeld ?rst16
      case hy16 => (intro wx hSw; obtain ⟨a1, b1, d1, k1, o1⟩ := (HE.out.ext hSw).facts; obtain ⟨r1, r2, r3⟩ := (HR.out.ext hSw).facts; go_simp; try (with_reducible rfl))
      try simp only [List.getElem_toArray, List.getElem_cons_zero, List.getElem_cons_succ, Act.put, List.setIfInBounds_toArray, List.set_cons_zero, List.set_cons_succ]
      refine wpAnyT_take (i := 12) (v := ?v17) [] rfl (by kernel_rfl) (fun _ _ _ h => h) (Or.inl ⟨by rfl, ?hy17⟩) hHeld ?rst17
      case hy17 => (intro wx hSw; obtain ⟨a1, b1, d1, k1, o1⟩ := (HE.out.ext hSw).facts; obtain ⟨r1, r2, r3⟩ := (HR.out.ext hSw).facts; go_simp; try (with_reducible rfl))
      try simp only [List.getElem_toArray, List.getElem_cons_zero, List.getElem_cons_succ, Act.put, List.setIfInBounds_toArray, List.set_cons_zero, List.set_cons_succ]
      refine wpAnyT_last (by kernel_rfl) (by kernel_rfl) rfl (fun K hK => ?_)
      obtain ⟨a1, b1, d1, k1, o1⟩ := (HE.out.ext hHeld).facts
      go_simp
      refine hK.out _ _ ?_
      clear hK K
      have HE3 := Lib.hid ((HE.out.ext hHeld).set)
      have HR3 := Lib.hid ((HR.out.ext hHeld).set_ne (j := 0) (bk_ne (HR.out.ext hHeld) (HE.out.ext hHeld).ow (by decide)) (.int .i64 0))
      have HC3 := Lib.hid (Chg.trans (S := (· = bb)) (HC.out.ext hHeld) (Chg.set (· = bb) w8 rfl (j := 0) (.int .i64 0)) fun _ _ e => e)
      clear a1 b1 d1 k1 o1 hHeld B8
      go_wp2
      go_roundg (2 - (i + 1))
      case measure => have := HG.out; omega
      case rel => exact ⟨HE3.out, HR3.out, HC3.out, i + 1, by omega, by go_num, rfl⟩
    · obtain rfl : i = 2 := by omega
      go_wp2
      refine bodyPost_end (v := .tuple #[]) (by simp [results, Tryz.results240, go_sem]) rfl ?_
      exact ⟨rfl, HE.out, HC.out⟩
set_option maxRecDepth 100000 in
set_option maxHeartbeats 16000000 in
theorem each_any (p1 p2 x bs bk m bb : Nat) (w : World) (h : En w p1 p2 x bs bk m bb) : Calls Tryz.prog 239 #[.pointer (some ⟨x, 0, none⟩), .func (.func 240) #[] #[.pointer (some ⟨p1, 0, none⟩), .pointer (some ⟨p2, 0, none⟩)]] w fun e w' => e = .returned (.tuple #[]) ∧ En w' p1 p2 x bs bk m bb ∧ Chg (· = bb) w w' := by
  have HE0 := Lib.hid h
  clear h
  go_enter Tryz.func239, Tryz.ntmps239
  go_wp2_with (fail)
  go_loopg [4] 1 (fun gg z wr => En wr p1 p2 x bs bk m bb ∧ Chg (· = bb) w wr ∧ ((z = .int .i64 1 ∧ gg = 1) ∨ (z = .int .i64 2 ∧ gg = 0)))
  case atStart => exact ⟨HE0.out, Chg.refl _ _, .inl ⟨rfl, rfl⟩⟩
  case round =>
    obtain ⟨he, hc, hz⟩ := hrel
    have HE1 := Lib.hid he
    have HC1 := Lib.hid hc
    obtain ⟨a1, b1, d1, k1, o1⟩ := he.facts
    clear he hc HE0
    rcases hz with ⟨rfl, rfl⟩ | ⟨rfl, rfl⟩
    · go_wp2_with (fail)
      clear a1 b1 d1 k1 o1
      go_loopg [5] 1 (fun gg z wr => En wr p1 p2 x bs bk m bb ∧ Chg (· = bb) w wr ∧ ((z = .int .i64 1 ∧ gg = 1) ∨ (z = .int .i64 2 ∧ gg = 0)))
      case atStart => exact ⟨HE1.out, HC1.out, .inl ⟨rfl, rfl⟩⟩
      case round =>
        obtain ⟨he, hc, hz⟩ := hrel
        have HE2 := Lib.hid he
        have HC2 := Lib.hid hc
        obtain ⟨a1, b1, d1, k1, o1⟩ := he.facts
        clear he hc HE1 HC1
        rcases hz with ⟨rfl, rfl⟩ | ⟨rfl, rfl⟩
        · go_wp2_with (fail)
          clear a1 b1 d1 k1 o1
          go_loopg [6] 1 (fun gg z wr => En wr p1 p2 x bs bk m bb ∧ Chg (· = bb) w wr ∧ ((z = .int .i64 0 ∧ gg = 1) ∨ (z = .int .i64 1 ∧ gg = 0)))
          case atStart => exact ⟨HE2.out, HC2.out, .inl ⟨rfl, rfl⟩⟩
          case round =>
            obtain ⟨he, hc, hz⟩ := hrel
            have HE3 := Lib.hid he
            have HC3 := Lib.hid hc
            obtain ⟨a1, b1, d1, k1, o1⟩ := he.facts
            clear he hc HE2 HC2
            rcases hz with ⟨rfl, rfl⟩ | ⟨rfl, rfl⟩
            · go_wp2_with (fail)
              clear a1 b1 d1 k1 o1
              go_loopg [7] 1 (fun gg z wr => En wr p1 p2 x bs bk m bb ∧ Chg (· = bb) w wr ∧ ((z = .int .i64 0 ∧ gg = 1) ∨ (z = .int .i64 1 ∧ gg = 0)))
              case atStart => exact ⟨HE3.out, HC3.out, .inl ⟨rfl, rfl⟩⟩
              case round =>
                obtain ⟨he, hc, hz⟩ := hrel
                have HE4 := Lib.hid he
                have HC4 := Lib.hid hc
                obtain ⟨a1, b1, d1, k1, o1⟩ := he.facts
                clear he hc HE3 HC3
                rcases hz with ⟨rfl, rfl⟩ | ⟨rfl, rfl⟩
                · go_upto_region 13 with (fail)
                  have HX := Lib.hid (ext_alloc wr (.cells #[.int .i64 0, .int .i64 0, .int .i64 1, .int .i64 1] 286))
                  have HR := Lib.hid (Bk.new 286 wr #[.int .i64 0, .int .i64 0, .int .i64 1, .int .i64 1])
                  obtain ⟨V, hV⟩ : ∃ V, V = wr.alloc (.cells #[.int .i64 0, .int .i64 0, .int .i64 1, .int .i64 1] 286) := ⟨_, rfl⟩
                  obtain ⟨q, hq⟩ : ∃ q, q = wr.heap.size := ⟨_, rfl⟩
                  rw [← hV] at HX HR ⊢
                  rw [← hq] at HR ⊢
                  clear hV hq a1 b1 d1 k1 o1
                  have HE := Lib.hid (HE4.out.ext HX.out)
                  refine wp_region_T (S := (fun W => Below V.heap.size V W)) 12 (by kernel_rfl) (ext_drew _) (fun hHeld => ?_)
                  refine wpAnyT_take (i := 0) (v := ?v18) [] rfl (by kernel_rfl) (fun _ _ _ h => h) (Or.inl ⟨by rfl, ?hy18⟩) hHeld ?rst18
                  case hy18 => (intro wx hSw; obtain ⟨a1, b1, d1, k1, o1⟩ := (HE.out.ext hSw).facts; obtain ⟨r1, r2, r3⟩ := (HR.out.ext hSw).facts; go_simp; try (with_reducible rfl))
                  try simp only [List.getElem_toArray, List.getElem_cons_zero, Act.put, List.setIfInBounds_toArray, List.set_cons_zero, List.set_cons_succ]
                  refine wpAnyT_take (i := 1) (v := ?v19) [] rfl (by kernel_rfl) (fun _ _ _ h => h) (Or.inl ⟨by rfl, ?hy19⟩) hHeld ?rst19
                  case hy19 => (intro wx hSw; obtain ⟨a1, b1, d1, k1, o1⟩ := (HE.out.ext hSw).facts; obtain ⟨r1, r2, r3⟩ := (HR.out.ext hSw).facts; go_simp; try (with_reducible rfl))
                  try simp only [List.getElem_toArray, List.getElem_cons_zero, List.getElem_cons_succ, Act.put, List.setIfInBounds_toArray, List.set_cons_zero, List.set_cons_succ]
                  refine wpAnyT_take (i := 2) (v := ?v20) [11, 5, 4, 3] rfl (by kernel_rfl) (fun _ _ _ h => h) (Or.inl ⟨by rfl, ?hy20⟩) hHeld ?rst20
                  case hy20 => (intro wx hSw; obtain ⟨a1, b1, d1, k1, o1⟩ := (HE.out.ext hSw).facts; obtain ⟨r1, r2, r3⟩ := (HR.out.ext hSw).facts; go_simp; try (with_reducible rfl))
                  try simp only [List.getElem_toArray, List.getElem_cons_zero, List.getElem_cons_succ, Act.put, List.setIfInBounds_toArray, List.set_cons_zero, List.set_cons_succ]
                  refine wpAnyT_take (i := 3) (v := ?v21) [11, 5, 4] rfl (by kernel_rfl) (fun _ _ _ h => h) (Or.inl ⟨by rfl, ?hy21⟩) hHeld ?rst21
                  case hy21 => (intro wx hSw; obtain ⟨a1, b1, d1, k1, o1⟩ := (HE.out.ext hSw).facts; obtain ⟨r1, r2, r3⟩ := (HR.out.ext hSw).facts; go_simp; try (with_reducible rfl))
                  try simp only [List.getElem_toArray, List.getElem_cons_zero, List.getElem_cons_succ, Act.put, List.setIfInBounds_toArray, List.set_cons_zero, List.set_cons_succ]
                  refine wpAnyT_take (i := 4) (v := ?v22) [11, 5] rfl (by kernel_rfl) (fun _ _ _ h => h) (Or.inl ⟨by rfl, ?hy22⟩) hHeld ?rst22
                  case hy22 => (intro wx hSw; obtain ⟨a1, b1, d1, k1, o1⟩ := (HE.out.ext hSw).facts; obtain ⟨r1, r2, r3⟩ := (HR.out.ext hSw).facts; go_simp; try (with_reducible rfl))
                  try simp only [List.getElem_toArray, List.getElem_cons_zero, List.getElem_cons_succ, Act.put, List.setIfInBounds_toArray, List.set_cons_zero, List.set_cons_succ]
                  refine wpAnyT_take (i := 5) (v := ?v23) [11] rfl (by kernel_rfl) (fun _ _ _ h => h) (Or.inl ⟨by rfl, ?hy23⟩) hHeld ?rst23
                  case hy23 => (intro wx hSw; obtain ⟨a1, b1, d1, k1, o1⟩ := (HE.out.ext hSw).facts; obtain ⟨r1, r2, r3⟩ := (HR.out.ext hSw).facts; go_simp; try (with_reducible rfl))
                  try simp only [List.getElem_toArray, List.getElem_cons_zero, List.getElem_cons_succ, Act.put, List.setIfInBounds_toArray, List.set_cons_zero, List.set_cons_succ]
                  refine wpAnyT_take (i := 6) (v := ?v24) [11, 9, 8, 7] rfl (by kernel_rfl) (fun _ _ _ h => h) (Or.inl ⟨by rfl, ?hy24⟩) hHeld ?rst24
                  case hy24 => (intro wx hSw; obtain ⟨a1, b1, d1, k1, o1⟩ := (HE.out.ext hSw).facts; obtain ⟨r1, r2, r3⟩ := (HR.out.ext hSw).facts; go_simp; try (with_reducible rfl))
                  try simp only [List.getElem_toArray, List.getElem_cons_zero, List.getElem_cons_succ, Act.put, List.setIfInBounds_toArray, List.set_cons_zero, List.set_cons_succ]
                  refine wpAnyT_take (i := 7) (v := ?v25) [11, 9, 8] rfl (by kernel_rfl) (fun _ _ _ h => h) (Or.inl ⟨by rfl, ?hy25⟩) hHeld ?rst25
                  case hy25 => (intro wx hSw; obtain ⟨a1, b1, d1, k1, o1⟩ := (HE.out.ext hSw).facts; obtain ⟨r1, r2, r3⟩ := (HR.out.ext hSw).facts; go_simp; try (with_reducible rfl))
                  try simp only [List.getElem_toArray, List.getElem_cons_zero, List.getElem_cons_succ, Act.put, List.setIfInBounds_toArray, List.set_cons_zero, List.set_cons_succ]
                  refine wpAnyT_take (i := 8) (v := ?v26) [11, 9] rfl (by kernel_rfl) (fun _ _ _ h => h) (Or.inl ⟨by rfl, ?hy26⟩) hHeld ?rst26
                  case hy26 => (intro wx hSw; obtain ⟨a1, b1, d1, k1, o1⟩ := (HE.out.ext hSw).facts; obtain ⟨r1, r2, r3⟩ := (HR.out.ext hSw).facts; go_simp; try (with_reducible rfl))
                  try simp only [List.getElem_toArray, List.getElem_cons_zero, List.getElem_cons_succ, Act.put, List.setIfInBounds_toArray, List.set_cons_zero, List.set_cons_succ]
                  refine wpAnyT_take (i := 9) (v := ?v27) [11] rfl (by kernel_rfl) (fun _ _ _ h => h) (Or.inl ⟨by rfl, ?hy27⟩) hHeld ?rst27
                  case hy27 => (intro wx hSw; obtain ⟨a1, b1, d1, k1, o1⟩ := (HE.out.ext hSw).facts; obtain ⟨r1, r2, r3⟩ := (HR.out.ext hSw).facts; go_simp; try (with_reducible rfl))
                  try simp only [List.getElem_toArray, List.getElem_cons_zero, List.getElem_cons_succ, Act.put, List.setIfInBounds_toArray, List.set_cons_zero, List.set_cons_succ]
                  refine wpAnyT_take (i := 10) (v := ?v28) [11] rfl (by kernel_rfl) (fun _ _ _ h => h) (Or.inl ⟨by rfl, ?hy28⟩) hHeld ?rst28
                  case hy28 => (intro wx hSw; obtain ⟨a1, b1, d1, k1, o1⟩ := (HE.out.ext hSw).facts; obtain ⟨r1, r2, r3⟩ := (HR.out.ext hSw).facts; go_simp; try (with_reducible rfl))
                  try simp only [List.getElem_toArray, List.getElem_cons_zero, List.getElem_cons_succ, Act.put, List.setIfInBounds_toArray, List.set_cons_zero, List.set_cons_succ]
                  refine wpAnyT_one (i := 11) (by kernel_rfl) rfl (fun K hK => ?_)
                  go_simp
                  go_at_call 190
                  refine (number0_any _).mono ?_
                  rintro e8 w8 ⟨rfl, hx8⟩
                  have B8 := ext_trans (show Below V.heap.size V _ from by (first | exact hHeld | exact ext_drew _ | exact Below.refl _ _)) hx8
                  clear hx8
                  refine hK.out _ _ (B8) (fun hHeld => ?_)
                  clear hK K
                  try simp only [List.getElem_toArray, List.getElem_cons_zero, List.getElem_cons_succ, Act.put, List.setIfInBounds_toArray, List.set_cons_zero, List.set_cons_succ]
                  refine wpAnyT_last (by kernel_rfl) (by kernel_rfl) rfl (fun K hK => ?_)
                  go_simp
                  go_at_call 240
                  refine (best1_any p1 p2 x bs bk m bb _ (HE.out.ext hHeld)).mono ?_
                  rintro e9 w9 ⟨rfl, he9, hc9⟩
                  have HE9 := Lib.hid he9
                  have HC9 := Lib.hid hc9
                  clear he9 hc9
                  refine hK.out _ _ ?_
                  clear hK K
                  have HC5 := Lib.hid (((HC4.out.ext HX.out).ext hHeld).trans HC9.out fun _ _ e => e)
                  clear hHeld
                  go_wp2
                  go_roundg 0
                  case measure => omega
                  case rel => exact ⟨HE9.out, HC5.out, .inr ⟨rfl, rfl⟩⟩
                · go_wp2
                  go_roundg 0
                  case measure => omega
                  case rel => exact ⟨HE4.out, HC4.out, .inr ⟨rfl, rfl⟩⟩
            · go_wp2
              go_roundg 0
              case measure => omega
              case rel => exact ⟨HE3.out, HC3.out, .inr ⟨rfl, rfl⟩⟩
        · go_wp2
          go_roundg 0
          case measure => omega
          case rel => exact ⟨HE2.out, HC2.out, .inr ⟨rfl, rfl⟩⟩
    · go_wp2
      refine bodyPost_end (v := .tuple #[]) (by simp [results, Tryz.results239, go_sem]) rfl ?_
      exact ⟨rfl, HE1.out, HC1.out⟩
end Go.Proofs.YtjadbipbidghdaaGreatDoor
