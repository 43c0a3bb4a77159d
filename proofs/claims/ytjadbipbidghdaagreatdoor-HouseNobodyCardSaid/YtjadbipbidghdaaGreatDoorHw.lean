/- A reply joined; money's and kind's closures, walked. Conditions: a state without kinds, the numbers in memory, the table of powers of ten laid. -/
import Derived.Test.YtjadbipbidghdaaGreatDoorHv
import Derived.Deep.AppendLies
namespace Go.Proofs.YtjadbipbidghdaaGreatDoor
open Go.RowKit

set_option maxRecDepth 100000 in
set_option maxHeartbeats 8000000 in
theorem joined_money (b : Nat) (w : World) (h : Bk 3 w b #[.int .i64 0]) (ht : P10 w) : Calls Tryz.prog 18 #[.string ⟨#[109, 111, 110, 101, 121]⟩, .slice (some ⟨b, 0, none⟩) 1 1] w fun e w' => e = .returned (.string ⟨#[109, 111, 110, 101, 121, 32, 48]⟩) ∧ Below w.heap.size w w' := by
  have HI := Lib.hid (itoa_1 48 0 dig0 w ht)
  obtain ⟨f1, f2, f3⟩ := h.facts
  clear h ht
  go_enter Tryz.func18, Tryz.ntmps18
  go_wp2_with (fail)
  go_loopg [9, 0] 1 (fun gg z v wr => (z = .int .i64 0 ∧ gg = 1 ∧ wr = w ∧ v = .string ⟨#[109, 111, 110, 101, 121]⟩) ∨ (z = .int .i64 1 ∧ gg = 0 ∧ Below w.heap.size w wr ∧ v = .string ⟨#[109, 111, 110, 101, 121, 32, 48]⟩))
  case atStart => exact .inl ⟨rfl, rfl, rfl, rfl⟩
  case round =>
    rcases hrel with ⟨rfl, rfl, rfl, rfl⟩ | ⟨rfl, rfl, hx, rfl⟩
    · go_wp2_with (go_at_call 22; refine (HI.out).mono ?_; rintro e w1 ⟨rfl, hx1⟩; have HX1 := Lib.hid hx1; clear hx1)
      go_roundg 0
      case measure => omega
      case rel => exact .inr ⟨rfl, rfl, HX1.out, rfl⟩
    · have HX1 := Lib.hid hx
      clear hx f1 f2 f3
      go_wp2
      go_ret
      exact ⟨rfl, HX1.out⟩
set_option maxRecDepth 100000 in
set_option maxHeartbeats 8000000 in
theorem joined_kind (b : Nat) (w : World) (h : Bk 3 w b #[.int .i64 0]) (ht : P10 w) : Calls Tryz.prog 18 #[.string ⟨#[107, 105, 110, 100]⟩, .slice (some ⟨b, 0, none⟩) 1 1] w fun e w' => e = .returned (.string ⟨#[107, 105, 110, 100, 32, 48]⟩) ∧ Below w.heap.size w w' := by
  have HI := Lib.hid (itoa_1 48 0 dig0 w ht)
  obtain ⟨f1, f2, f3⟩ := h.facts
  clear h ht
  go_enter Tryz.func18, Tryz.ntmps18
  go_wp2_with (fail)
  go_loopg [9, 0] 1 (fun gg z v wr => (z = .int .i64 0 ∧ gg = 1 ∧ wr = w ∧ v = .string ⟨#[107, 105, 110, 100]⟩) ∨ (z = .int .i64 1 ∧ gg = 0 ∧ Below w.heap.size w wr ∧ v = .string ⟨#[107, 105, 110, 100, 32, 48]⟩))
  case atStart => exact .inl ⟨rfl, rfl, rfl, rfl⟩
  case round =>
    rcases hrel with ⟨rfl, rfl, rfl, rfl⟩ | ⟨rfl, rfl, hx, rfl⟩
    · go_wp2_with (go_at_call 22; refine (HI.out).mono ?_; rintro e w1 ⟨rfl, hx1⟩; have HX1 := Lib.hid hx1; clear hx1)
      go_roundg 0
      case measure => omega
      case rel => exact .inr ⟨rfl, rfl, HX1.out, rfl⟩
    · have HX1 := Lib.hid hx
      clear hx f1 f2 f3
      go_wp2
      go_ret
      exact ⟨rfl, HX1.out⟩
theorem St.c0 {w : World} {s b : Nat} {ks : Value} (h : St w s ks b) : w.cell? ⟨s, 0, none⟩ = some (.int .i64 0) := Bk.cell h 0
theorem St.c1 {w : World} {s b : Nat} {ks : Value} (h : St w s ks b) : w.cell? ⟨s, 1, none⟩ = some ks := Bk.cell h 1
theorem St.fz {w : World} {s b : Nat} {ks : Value} (h : St w s ks b) (i : Nat) : w.frozen? ⟨s, i, none⟩ = false := Bk.frozen h i
theorem St.put1 {w : World} {s b : Nat} {ks : Value} (h : St w s ks b) (v : Value) : St (w.setCell ⟨s, 1, none⟩ v) s v b := Bk.set h 1 v
set_option maxRecDepth 100000 in
set_option maxHeartbeats 8000000 in
theorem askmoney_any (s b : Nat) (ks : Value) (w : World) (h : St w s ks b) (ht : P10 w) : Calls Tryz.prog 148 #[.pointer (some ⟨s, 0, none⟩)] w fun e w' => e = .returned (.tuple #[.string ⟨#[109, 111, 110, 101, 121, 32, 48]⟩, .int .i64 0]) ∧ Below w.heap.size w w' := by
  have c0 := h.c0
  have cl := h.lt
  have HX := Lib.hid (ext_alloc w (.cells #[.int .i64 0] 3))
  have HJ := Lib.hid (joined_money w.heap.size (w.alloc (.cells #[.int .i64 0] 3)) (Bk.new _ _ _) (ht.ext (ext_alloc _ _)))
  clear h ht
  go_enter Tryz.func148, Tryz.ntmps148
  go_wp2_with (go_at_call 18; refine (HJ.out).mono ?_; rintro e w1 ⟨rfl, hx1⟩; have HX1 := Lib.hid (ext_trans HX.out hx1); clear hx1)
  refine bodyPost_ret (v := .tuple #[.string ⟨#[109, 111, 110, 101, 121, 32, 48]⟩, .int .i64 0]) (by simp [results, Tryz.results148, go_sem]) rfl ?_
  exact ⟨rfl, HX1.out⟩
theorem P10.keep {w w' : World} {S : Nat → Prop} (h : P10 w) (hc : Chg S w w') (hS : ∀ k, S k → ∃ cs T, w.heap[k]? = some (.cells cs T (0, 0)) ∧ cs.size ≠ 20) : P10 w' := h.of fun g hg => by
  obtain ⟨g', hg', hlt⟩ := h.block
  rw [hg] at hg'
  injection hg' with e
  refine hc.block g (by omega) fun hs => ?_
  obtain ⟨cs, T, h1, h2⟩ := hS g hs
  unfold P10 Lib.TabIs World.var? at h
  rw [hg] at h
  simp only [Option.bind_some] at h
  rw [h1] at h
  injection h with h
  rw [h] at h2
  exact h2 (by simp [Lib.pow10Tab])
theorem info_knd : (Tryz.prog.info? 74).map (fun i => (i.zero, i.size, i.bytes)) = some (some (.agg #[.int .i64 0, .int .i64 0, .int .i64 0, .int .i64 0, .bool false]), 5, 40) := by kernel_rfl
theorem KC.facts {w : World} {p g cap : Nat} (h : KC w p g cap) : w.cell? ⟨p, 0, none⟩ = some (.slice (some ⟨g, 0, none⟩) 5 cap) ∧ w.cell? ⟨g, 0, none⟩ = some (.int .i64 2) ∧ w.cell? ⟨g, 1, none⟩ = some (.int .i64 1) ∧ w.cell? ⟨g, 2, none⟩ = some (.int .i64 1) ∧
    w.cell? ⟨g, 3, none⟩ = some (.int .i64 5) ∧ w.cell? ⟨g, 4, none⟩ = some (.int .i64 0) ∧ p < w.heap.size ∧ g < w.heap.size ∧ 5 ≤ cap :=
  ⟨h.cell, h.num 0 (by omega), h.num 1 (by omega), h.num 2 (by omega), h.num 3 (by omega), h.num 4 (by omega), h.plt, h.glt, h.hcap⟩
set_option maxRecDepth 100000 in
set_option maxHeartbeats 16000000 in
theorem kind1_any (s b p g cap : Nat) (w : World) (h : St w s (.slice none 0 0) b) (hk : KC w p g cap) (ht : P10 w) : Calls Tryz.prog 124 #[.pointer (some ⟨s, 0, none⟩), .pointer (some ⟨p, 0, none⟩)] w fun e w' => e = .returned (.tuple #[.string ⟨#[107, 105, 110, 100, 32, 48]⟩, .int .i64 0]) ∧ ∃ ks, St w' s ks b ∧ Chg (· = s) w w' := by
  have HS := Lib.hid h
  have HT := Lib.hid ht
  have hk0 := hk
  clear h ht hk
  obtain ⟨V, hV⟩ : ∃ V, V = w := ⟨_, rfl⟩
  rw [← hV] at hk0 HS HT ⊢
  have HKC := Lib.hid hk0
  clear hV hk0
  go_enter Tryz.func124, Tryz.ntmps124
  go_upto_region 1 with (fail)
  refine wp_region_T (S := (fun W => Below V.heap.size V W)) 18 (by kernel_rfl) (ext_drew _) (fun hHeld => ?_)
  refine wpAnyT_take (i := 0) (v := ?v1) [] rfl (by kernel_rfl) (fun _ _ _ h => h) (Or.inl ⟨by rfl, ?hy1⟩) hHeld ?rst1
  case hy1 => (intro wx hSw; obtain ⟨m0, m1, m2, m3, m4, m5, ml, mg, mc⟩ := (HKC.out.ext hSw).facts; go_simp; try (with_reducible rfl))
  try simp only [List.getElem_toArray, List.getElem_cons_zero, Act.put, List.setIfInBounds_toArray, List.set_cons_zero, List.set_cons_succ]
  refine wpAnyT_take (i := 1) (v := ?v2) [] rfl (by kernel_rfl) (fun _ _ _ h => h) (Or.inl ⟨by rfl, ?hy2⟩) hHeld ?rst2
  case hy2 => (intro wx hSw; obtain ⟨m0, m1, m2, m3, m4, m5, ml, mg, mc⟩ := (HKC.out.ext hSw).facts; go_simp; try (with_reducible rfl))
  try simp only [List.getElem_toArray, List.getElem_cons_zero, List.getElem_cons_succ, Act.put, List.setIfInBounds_toArray, List.set_cons_zero, List.set_cons_succ]
  refine wpAnyT_take (i := 2) (v := ?v3) [] rfl (by kernel_rfl) (fun _ _ _ h => h) (Or.inl ⟨by rfl, ?hy3⟩) hHeld ?rst3
  case hy3 => (intro wx hSw; obtain ⟨m0, m1, m2, m3, m4, m5, ml, mg, mc⟩ := (HKC.out.ext hSw).facts; go_simp; try (with_reducible rfl))
  try simp only [List.getElem_toArray, List.getElem_cons_zero, List.getElem_cons_succ, Act.put, List.setIfInBounds_toArray, List.set_cons_zero, List.set_cons_succ]
  refine wpAnyT_take (i := 3) (v := ?v4) [] rfl (by kernel_rfl) (fun _ _ _ h => h) (Or.inl ⟨by rfl, ?hy4⟩) hHeld ?rst4
  case hy4 => (intro wx hSw; obtain ⟨m0, m1, m2, m3, m4, m5, ml, mg, mc⟩ := (HKC.out.ext hSw).facts; go_simp; try (with_reducible rfl))
  try simp only [List.getElem_toArray, List.getElem_cons_zero, List.getElem_cons_succ, Act.put, List.setIfInBounds_toArray, List.set_cons_zero, List.set_cons_succ]
  refine wpAnyT_take (i := 4) (v := ?v5) [] rfl (by kernel_rfl) (fun _ _ _ h => h) (Or.inl ⟨by rfl, ?hy5⟩) hHeld ?rst5
  case hy5 => (intro wx hSw; obtain ⟨m0, m1, m2, m3, m4, m5, ml, mg, mc⟩ := (HKC.out.ext hSw).facts; go_simp; try (with_reducible rfl))
  try simp only [List.getElem_toArray, List.getElem_cons_zero, List.getElem_cons_succ, Act.put, List.setIfInBounds_toArray, List.set_cons_zero, List.set_cons_succ]
  refine wpAnyT_take (i := 5) (v := ?v6) [] rfl (by kernel_rfl) (fun _ _ _ h => h) (Or.inl ⟨by rfl, ?hy6⟩) hHeld ?rst6
  case hy6 => (intro wx hSw; obtain ⟨m0, m1, m2, m3, m4, m5, ml, mg, mc⟩ := (HKC.out.ext hSw).facts; go_simp; try (with_reducible rfl))
  try simp only [List.getElem_toArray, List.getElem_cons_zero, List.getElem_cons_succ, Act.put, List.setIfInBounds_toArray, List.set_cons_zero, List.set_cons_succ]
  refine wpAnyT_take (i := 6) (v := ?v7) [] rfl (by kernel_rfl) (fun _ _ _ h => h) (Or.inl ⟨by rfl, ?hy7⟩) hHeld ?rst7
  case hy7 => (intro wx hSw; obtain ⟨m0, m1, m2, m3, m4, m5, ml, mg, mc⟩ := (HKC.out.ext hSw).facts; go_simp; try (with_reducible rfl))
  try simp only [List.getElem_toArray, List.getElem_cons_zero, List.getElem_cons_succ, Act.put, List.setIfInBounds_toArray, List.set_cons_zero, List.set_cons_succ]
  refine wpAnyT_take (i := 7) (v := ?v8) [] rfl (by kernel_rfl) (fun _ _ _ h => h) (Or.inl ⟨by rfl, ?hy8⟩) hHeld ?rst8
  case hy8 => (intro wx hSw; obtain ⟨m0, m1, m2, m3, m4, m5, ml, mg, mc⟩ := (HKC.out.ext hSw).facts; go_simp; try (with_reducible rfl))
  try simp only [List.getElem_toArray, List.getElem_cons_zero, List.getElem_cons_succ, Act.put, List.setIfInBounds_toArray, List.set_cons_zero, List.set_cons_succ]
  refine wpAnyT_take (i := 8) (v := ?v9) [] rfl (by kernel_rfl) (fun _ _ _ h => h) (Or.inl ⟨by rfl, ?hy9⟩) hHeld ?rst9
  case hy9 => (intro wx hSw; obtain ⟨m0, m1, m2, m3, m4, m5, ml, mg, mc⟩ := (HKC.out.ext hSw).facts; go_simp; try (with_reducible rfl))
  try simp only [List.getElem_toArray, List.getElem_cons_zero, List.getElem_cons_succ, Act.put, List.setIfInBounds_toArray, List.set_cons_zero, List.set_cons_succ]
  refine wpAnyT_take (i := 9) (v := ?v10) [] rfl (by kernel_rfl) (fun _ _ _ h => h) (Or.inl ⟨by rfl, ?hy10⟩) hHeld ?rst10
  case hy10 => (intro wx hSw; obtain ⟨m0, m1, m2, m3, m4, m5, ml, mg, mc⟩ := (HKC.out.ext hSw).facts; go_simp; try (with_reducible rfl))
  try simp only [List.getElem_toArray, List.getElem_cons_zero, List.getElem_cons_succ, Act.put, List.setIfInBounds_toArray, List.set_cons_zero, List.set_cons_succ]
  refine wpAnyT_take (i := 10) (v := ?v11) [] rfl (by kernel_rfl) (fun _ _ _ h => h) (Or.inl ⟨by rfl, ?hy11⟩) hHeld ?rst11
  case hy11 => (intro wx hSw; obtain ⟨m0, m1, m2, m3, m4, m5, ml, mg, mc⟩ := (HKC.out.ext hSw).facts; go_simp; try (with_reducible rfl))
  try simp only [List.getElem_toArray, List.getElem_cons_zero, List.getElem_cons_succ, Act.put, List.setIfInBounds_toArray, List.set_cons_zero, List.set_cons_succ]
  refine wpAnyT_take (i := 11) (v := ?v12) [] rfl (by kernel_rfl) (fun _ _ _ h => h) (Or.inl ⟨by rfl, ?hy12⟩) hHeld ?rst12
  case hy12 => (intro wx hSw; obtain ⟨m0, m1, m2, m3, m4, m5, ml, mg, mc⟩ := (HKC.out.ext hSw).facts; go_simp; try (with_reducible rfl))
  try simp only [List.getElem_toArray, List.getElem_cons_zero, List.getElem_cons_succ, Act.put, List.setIfInBounds_toArray, List.set_cons_zero, List.set_cons_succ]
  refine wpAnyT_take (i := 12) (v := ?v13) [] rfl (by kernel_rfl) (fun _ _ _ h => h) (Or.inl ⟨by rfl, ?hy13⟩) hHeld ?rst13
  case hy13 => (intro wx hSw; obtain ⟨m0, m1, m2, m3, m4, m5, ml, mg, mc⟩ := (HKC.out.ext hSw).facts; go_simp; try (with_reducible rfl))
  try simp only [List.getElem_toArray, List.getElem_cons_zero, List.getElem_cons_succ, Act.put, List.setIfInBounds_toArray, List.set_cons_zero, List.set_cons_succ]
  refine wpAnyT_take (i := 13) (v := ?v14) [] rfl (by kernel_rfl) (fun _ _ _ h => h) (Or.inl ⟨by rfl, ?hy14⟩) hHeld ?rst14
  case hy14 => (intro wx hSw; obtain ⟨m0, m1, m2, m3, m4, m5, ml, mg, mc⟩ := (HKC.out.ext hSw).facts; go_simp; try (with_reducible rfl))
  try simp only [List.getElem_toArray, List.getElem_cons_zero, List.getElem_cons_succ, Act.put, List.setIfInBounds_toArray, List.set_cons_zero, List.set_cons_succ]
  refine wpAnyT_take (i := 14) (v := ?v15) [] rfl (by kernel_rfl) (fun _ _ _ h => h) (Or.inl ⟨by rfl, ?hy15⟩) hHeld ?rst15
  case hy15 => (intro wx hSw; obtain ⟨m0, m1, m2, m3, m4, m5, ml, mg, mc⟩ := (HKC.out.ext hSw).facts; go_simp; try (with_reducible rfl))
  try simp only [List.getElem_toArray, List.getElem_cons_zero, List.getElem_cons_succ, Act.put, List.setIfInBounds_toArray, List.set_cons_zero, List.set_cons_succ]
  refine wpAnyT_take (i := 15) (v := ?v16) [] rfl (by kernel_rfl) (fun _ _ _ h => h) (Or.inl ⟨by rfl, ?hy16⟩) hHeld ?rst16
  case hy16 => (intro wx hSw; obtain ⟨m0, m1, m2, m3, m4, m5, ml, mg, mc⟩ := (HKC.out.ext hSw).facts; go_simp; try (with_reducible rfl))
  try simp only [List.getElem_toArray, List.getElem_cons_zero, List.getElem_cons_succ, Act.put, List.setIfInBounds_toArray, List.set_cons_zero, List.set_cons_succ]
  refine wpAnyT_take (i := 16) (v := ?v17) [] rfl (by kernel_rfl) (fun _ _ _ h => h) (Or.inl ⟨by rfl, ?hy17⟩) hHeld ?rst17
  case hy17 => (intro wx hSw; obtain ⟨m0, m1, m2, m3, m4, m5, ml, mg, mc⟩ := (HKC.out.ext hSw).facts; go_simp; try (with_reducible rfl))
  try simp only [List.getElem_toArray, List.getElem_cons_zero, List.getElem_cons_succ, Act.put, List.setIfInBounds_toArray, List.set_cons_zero, List.set_cons_succ]
  refine wpAnyT_one (i := 17) (by kernel_rfl) rfl (fun K hK => ?_)
  go_simp
  refine hK.out _ _ (ext_trans hHeld (ext_alloc _ _)) (fun hHeld => ?_)
  clear hK K
  try simp only [List.getElem_toArray, List.getElem_cons_zero, List.getElem_cons_succ, Act.put, List.setIfInBounds_toArray, List.set_cons_zero, List.set_cons_succ]
  refine wpAnyT_last (by kernel_rfl) (by kernel_rfl) rfl (fun K hK => ?_)
  go_simp
  refine hK.out _ _ ?_
  clear hK K
  have HX := Lib.hid (show Below V.heap.size V (V.alloc (.cells #[.int .i64 2, .int .i64 1, .int .i64 1, .int .i64 5, .bool false] 74)).drew from ext_trans (ext_alloc _ _) (ext_drew _))
  have HQ := Lib.hid ((Bk.new 74 V #[.int .i64 2, .int .i64 1, .int .i64 1, .int .i64 5, .bool false]).ext (ext_drew _))
  obtain ⟨X, hX⟩ : ∃ X, X = (V.alloc (.cells #[.int .i64 2, .int .i64 1, .int .i64 1, .int .i64 5, .bool false] 74)).drew := ⟨_, rfl⟩
  obtain ⟨q, hq⟩ : ∃ q, q = V.heap.size := ⟨_, rfl⟩
  rw [← hX] at HX HQ ⊢
  rw [← hq] at HQ ⊢
  clear hX hq hHeld
  have y1 := (Bk.new 9 X #[.string ⟨#[48]⟩]).ext (ext_alloc (X.alloc (.cells #[.string ⟨#[48]⟩] 9)) (.cells #[.int .i64 2, .int .i64 1, .int .i64 1, .int .i64 5, .bool false] 74))
  have y2 := Bk.new 74 (X.alloc (.cells #[.string ⟨#[48]⟩] 9)) #[.int .i64 2, .int .i64 1, .int .i64 1, .int .i64 5, .bool false]
  have e1 : (X.alloc (.cells #[.string ⟨#[48]⟩] 9)).heap.size = X.heap.size + 1 := by simp
  rw [e1] at y2
  have HCB := Lib.hid (cutbest_any X.heap.size (X.heap.size + 1) _ y1 y2)
  have x3 := ext_trans (ext_alloc X (.cells #[.string ⟨#[48]⟩] 9)) (ext_alloc (X.alloc (.cells #[.string ⟨#[48]⟩] 9)) (.cells #[.int .i64 2, .int .i64 1, .int .i64 1, .int .i64 5, .bool false] 74))
  have HXT := Lib.hid (ext_trans HX.out x3)
  have HQT := Lib.hid (HQ.out.ext x3)
  obtain ⟨f1, f2, f3⟩ := HQ.out.facts
  clear y1 y2 e1 x3
  go_upto_region 7 with (go_at_call 125; refine (HCB.out).mono ?_; rintro e w5 ⟨rfl, hx5⟩; have HX5 := Lib.hid (ext_trans HXT.out hx5); have HQ5 := Lib.hid (HQT.out.ext hx5); obtain ⟨m0, m1, m2, m3, m4, m5, ml, mg, mc⟩ := (HKC.out.ext HX5.out).facts; have hs5 := HS.out.ext HX5.out; have k1 := hs5.c1; have k3 := hs5.lt; have HS5 := Lib.hid hs5; clear hx5 hs5 f1 f2 f3)
  obtain ⟨V7, hV7⟩ : ∃ V7, V7 = w5 := ⟨_, rfl⟩
  rw [← hV7] at HX5 HQ5 HS5 ⊢
  clear hV7 k1 k3 m0 m1 m2 m3 m4 m5 ml mg HCB HXT HQT
  obtain ⟨i0, hi0, hz0, hz1, hz2⟩ := info_parts info_knd
  refine wp_region_T (S := (fun W => Below V7.heap.size V7 W)) 10 (by kernel_rfl) (ext_drew _) (fun hHeld => ?_)
  refine wpAnyT_take (i := 0) (v := ?v18) [] rfl (by kernel_rfl) (fun _ _ _ h => h) (Or.inl ⟨by rfl, ?hy18⟩) hHeld ?rst18
  case hy18 => (intro wx hSw; obtain ⟨u1, u2, u3⟩ := (HQ5.out.ext hSw).facts; have v1 := (HS5.out.ext hSw).c1; have v2 := (HS5.out.ext hSw).lt; go_simp; try (with_reducible rfl))
  try simp only [List.getElem_toArray, List.getElem_cons_zero, Act.put, List.setIfInBounds_toArray, List.set_cons_zero, List.set_cons_succ]
  refine wpAnyT_take (i := 1) (v := ?v19) [] rfl (by kernel_rfl) (fun _ _ _ h => h) (Or.inl ⟨by rfl, ?hy19⟩) hHeld ?rst19
  case hy19 => (intro wx hSw; obtain ⟨u1, u2, u3⟩ := (HQ5.out.ext hSw).facts; have v1 := (HS5.out.ext hSw).c1; have v2 := (HS5.out.ext hSw).lt; go_simp; try (with_reducible rfl))
  try simp only [List.getElem_toArray, List.getElem_cons_zero, List.getElem_cons_succ, Act.put, List.setIfInBounds_toArray, List.set_cons_zero, List.set_cons_succ]
  refine wpAnyT_take (i := 2) (v := ?v20) [] rfl (by kernel_rfl) (fun _ _ _ h => h) (Or.inl ⟨by rfl, ?hy20⟩) hHeld ?rst20
  case hy20 => (intro wx hSw; obtain ⟨u1, u2, u3⟩ := (HQ5.out.ext hSw).facts; have v1 := (HS5.out.ext hSw).c1; have v2 := (HS5.out.ext hSw).lt; go_simp; try (with_reducible rfl))
  try simp only [List.getElem_toArray, List.getElem_cons_zero, List.getElem_cons_succ, Act.put, List.setIfInBounds_toArray, List.set_cons_zero, List.set_cons_succ]
  refine wpAnyT_take (i := 3) (v := ?v21) [] rfl (by kernel_rfl) (fun _ _ _ h => h) (Or.inl ⟨by rfl, ?hy21⟩) hHeld ?rst21
  case hy21 => (intro wx hSw; obtain ⟨u1, u2, u3⟩ := (HQ5.out.ext hSw).facts; have v1 := (HS5.out.ext hSw).c1; have v2 := (HS5.out.ext hSw).lt; go_simp; try (with_reducible rfl))
  try simp only [List.getElem_toArray, List.getElem_cons_zero, List.getElem_cons_succ, Act.put, List.setIfInBounds_toArray, List.set_cons_zero, List.set_cons_succ]
  refine wpAnyT_take (i := 4) (v := ?v22) [] rfl (by kernel_rfl) (fun _ _ _ h => h) (Or.inl ⟨by rfl, ?hy22⟩) hHeld ?rst22
  case hy22 => (intro wx hSw; obtain ⟨u1, u2, u3⟩ := (HQ5.out.ext hSw).facts; have v1 := (HS5.out.ext hSw).c1; have v2 := (HS5.out.ext hSw).lt; go_simp; try (with_reducible rfl))
  try simp only [List.getElem_toArray, List.getElem_cons_zero, List.getElem_cons_succ, Act.put, List.setIfInBounds_toArray, List.set_cons_zero, List.set_cons_succ]
  refine wpAnyT_take (i := 5) (v := ?v23) [] rfl (by kernel_rfl) (fun _ _ _ h => h) (Or.inl ⟨by rfl, ?hy23⟩) hHeld ?rst23
  case hy23 => (intro wx hSw; obtain ⟨u1, u2, u3⟩ := (HQ5.out.ext hSw).facts; have v1 := (HS5.out.ext hSw).c1; have v2 := (HS5.out.ext hSw).lt; go_simp; try (with_reducible rfl))
  try simp only [List.getElem_toArray, List.getElem_cons_zero, List.getElem_cons_succ, Act.put, List.setIfInBounds_toArray, List.set_cons_zero, List.set_cons_succ]
  refine wpAnyT_one (i := 6) (by kernel_rfl) rfl (fun K hK => ?_)
  have u1 := (HQ5.out.ext hHeld).cell 0
  go_simp
  refine hK.out _ _ (ext_trans hHeld (ext_alloc _ _)) (fun hHeld => ?_)
  clear hK K
  try simp only [List.getElem_toArray, List.getElem_cons_zero, List.getElem_cons_succ, Act.put, List.setIfInBounds_toArray, List.set_cons_zero, List.set_cons_succ]
  refine wpAnyT_one (i := 7) (by kernel_rfl) rfl (fun K hK => ?_)
  refine step_append_lies _ (by rfl) _ _ _ (by rfl) V7.heap.size 74 i0 _ 5 40 Tryz.underlying57 hi0 hz0 hz1 hz2 rfl (by decide) (.slice none 0 0) 0 [] (by rfl) (own_nil _ _ _ _) ⟨V7.drew.heap.size, 0, none⟩ 1 1 [.int .i64 2, .int .i64 1, .int .i64 1, .int .i64 5, .bool false] (by rfl) (by rfl) (World.news_of_block (cs := #[.int .i64 2, .int .i64 1, .int .i64 1, .int .i64 5, .bool false]) (t := 74) (fr := (0, 0)) (heap_alloc_new _ _)) (by simp [Value.oneCell']) (by omega) (by unfold maxLen; omega) (by omega) (by have := hHeld.size; exact this) _ rfl ?_
  intro g12 c12 w12 hown12 hgr12 hat12 hlt12
  have B12 := hHeld.grown hgr12 (by have := hHeld.size; exact this) (fun k hk2 => by cases hk2)
  clear hown12 hgr12 hat12
  refine hK.out _ _ (B12) (fun hHeld => ?_)
  clear hK K
  try simp only [List.getElem_toArray, List.getElem_cons_zero, List.getElem_cons_succ, Act.put, List.setIfInBounds_toArray, List.set_cons_zero, List.set_cons_succ]
  refine wpAnyT_take (i := 8) (v := ?v24) [9] rfl (by kernel_rfl) (fun _ _ _ h => h) (Or.inl ⟨by rfl, ?hy24⟩) hHeld ?rst24
  case hy24 => (intro wx hSw; obtain ⟨u1, u2, u3⟩ := (HQ5.out.ext hSw).facts; have v1 := (HS5.out.ext hSw).c1; have v2 := (HS5.out.ext hSw).lt; go_simp; try (with_reducible rfl))
  try simp only [List.getElem_toArray, List.getElem_cons_zero, List.getElem_cons_succ, Act.put, List.setIfInBounds_toArray, List.set_cons_zero, List.set_cons_succ]
  refine wpAnyT_take (i := 9) (v := ?v25) [] rfl (by kernel_rfl) (fun _ _ _ h => h) (Or.inl ⟨by rfl, ?hy25⟩) hHeld ?rst25
  case hy25 => (intro wx hSw; obtain ⟨u1, u2, u3⟩ := (HQ5.out.ext hSw).facts; have v1 := (HS5.out.ext hSw).c1; have v2 := (HS5.out.ext hSw).lt; go_simp; try (with_reducible rfl))
  try simp only [List.getElem_toArray, List.getElem_cons_zero, List.getElem_cons_succ, Act.put, List.setIfInBounds_toArray, List.set_cons_zero, List.set_cons_succ]
  refine wpAnyT_last (by kernel_rfl) (by kernel_rfl) rfl (fun K hK => ?_)
  have v1 := (HS5.out.ext hHeld).c1
  have v2 := (HS5.out.ext hHeld).lt
  have v3 := (HS5.out.ext hHeld).fz 1
  go_simp
  refine hK.out _ _ ?_
  clear hK K
  have HS9 := Lib.hid ((HS5.out.ext hHeld).put1 (.slice (some ⟨g12, 0, none⟩) 1 c12))
  have HC9 := Lib.hid ((Chg.of (ext_trans HX5.out hHeld)).trans (S := (· = s)) (Chg.set (· = s) w12 rfl (j := 1) (.slice (some ⟨g12, 0, none⟩) 1 c12)) fun _ _ e => e)
  obtain ⟨Z, hZ⟩ : ∃ Z, Z = w12.setCell ⟨s, 1, none⟩ (.slice (some ⟨g12, 0, none⟩) 1 c12) := ⟨_, rfl⟩
  rw [← hZ] at HS9 HC9 ⊢
  clear hZ hHeld B12 hi0 hz0 hz1 hz2
  have HTZ := Lib.hid (HT.out.keep HC9.out fun k e => by
    subst e
    exact ⟨_, _, HS.out, by simp [stC]⟩)
  have HX := Lib.hid (ext_alloc Z (.cells #[.int .i64 0] 3))
  have HJ := Lib.hid (joined_kind Z.heap.size (Z.alloc (.cells #[.int .i64 0] 3)) (Bk.new _ _ _) (HTZ.out.ext (ext_alloc _ _)))
  have k1 := HS9.out.c1
  have k3 := HS9.out.lt
  go_wp2_with (go_at_call 18; refine (HJ.out).mono ?_; rintro e w1 ⟨rfl, hx1⟩; have HX1 := Lib.hid (ext_trans HX.out hx1); clear hx1)
  refine bodyPost_ret (v := .tuple #[.string ⟨#[107, 105, 110, 100, 32, 48]⟩, .int .i64 0]) (by simp [results, Tryz.results124, go_sem]) rfl ?_
  exact ⟨rfl, _, HS9.out.ext HX1.out, HC9.out.ext HX1.out⟩
end Go.Proofs.YtjadbipbidghdaaGreatDoor
