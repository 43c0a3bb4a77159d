/- The machine's step walked. Conditions: a valid graph, a valid op that is no repeat, the machine's blocks apart from the graph's. -/
import Derived.Test.YtbhjhajnhpohlaaMch
namespace Go.Proofs.Ytbhjhajnhpohlaa
open Go.RowKit

/-- one op under the fuel -/
def pstep (fuel N : Int) (l : List Sm) (o : Opr) (m : Mc) : Int × Mc :=
  if fuel ≤ m.s then (10, m) else if (pst N l o m).1 = 0 then (0, { (pst N l o m).2 with s := m.s + 1 }) else ((pst N l o m).1, m)
/-- how a step ends -/
def StE (f : Int) (e : Ending) : Prop := (f = 0 ∧ e = .returned (.tuple #[])) ∨ (f ≠ 0 ∧ e = .panicked [{ v := .iface 141 (.int .i64 f), recovered := false }])

section
variable {g bs bu : Nat} {N : Int} {A : Option Addr} {cap : Nat} {fuel f : Int} {m : Mc} {l : List Sm} {w0 w : World}
set_option maxRecDepth 100000 in
set_option maxHeartbeats 4000000 in
theorem step_fuel' (oc og : Int) (ob : Bool) (h : PmS g bs bu l.length N A cap fuel f m w) (hf : fuel ≤ m.s) :
    Calls Try.prog 81 #[.pointer (some ⟨g, 0, none⟩), (⟨oc, og, ob⟩ : Opr).val] w fun e w' => PmS g bs bu l.length N A cap fuel f m w' ∧ But3 g bs bu w w' ∧ StE 10 e := by
  have HB0 := Lib.hid (ext_alloc w (.cells #[.int .i64 oc, .int .i64 og, .bool ob] 128))
  have HP := Lib.hid (h.ext HB0.out)
  have HO := Lib.hid (Bk.new 128 w #[.int .i64 oc, .int .i64 og, .bool ob])
  obtain ⟨f1, f2, f3⟩ := HP.out.1.facts
  obtain ⟨ms, ma, mh, mk, msw, mus⟩ := m
  try dsimp only at hf
  try dsimp only at h0
  try dsimp only at h1
  try dsimp only at h8
  dsimp only at f1 ⊢
  clear h
  show Calls Try.prog 81 #[.pointer (some ⟨g, 0, none⟩), .agg #[.int .i64 oc, .int .i64 og, .bool ob]] w _
  go_enter Try.func81, Try.ntmps81
  go_wp2
  obtain ⟨W, hW⟩ : ∃ W, W = w.alloc (.cells #[.int .i64 oc, .int .i64 og, .bool ob] 128) := ⟨_, rfl⟩
  rw [← hW] at f1 f2 f3 HB0 HP ⊢
  clear hW HO
  refine wp_region_held_drew (S := (fun wx => wx.cell? ⟨g, 1, none⟩ = some (.int .i64 ms) ∧ wx.cell? ⟨g, 9, none⟩ = some (.int .i64 fuel))) (by kernel_rfl) (⟨f1 1, f1 9⟩) (fun hHeld => ?_)
  refine wpAnyH_take (i := 0) (v := ?v1) rfl (by kernel_rfl) (by kernel_rfl) (by kernel_rfl) (fun _ _ _ h => h) (Or.inl ⟨by rfl, ?hy1⟩) hHeld ?rst1
  case hy1 => (intro wx hSw; (try dsimp only at hSw); go_simp; try (with_reducible rfl))
  try simp only [List.getElem_toArray, List.getElem_cons_zero, Act.put, List.setIfInBounds_toArray, List.set_cons_zero, List.set_cons_succ]
  refine wpAnyH_take (i := 1) (v := ?v2) rfl (by kernel_rfl) (by kernel_rfl) (by kernel_rfl) (fun _ _ _ h => h) (Or.inl ⟨by rfl, ?hy2⟩) hHeld ?rst2
  case hy2 => (intro wx hSw; (try dsimp only at hSw); go_simp; try (with_reducible rfl))
  try simp only [List.getElem_toArray, List.getElem_cons_zero, List.getElem_cons_succ, Act.put, List.setIfInBounds_toArray, List.set_cons_zero, List.set_cons_succ]
  refine wpAnyH_take (i := 2) (v := ?v3) rfl (by kernel_rfl) (by kernel_rfl) (by kernel_rfl) (fun _ _ _ h => h) (Or.inl ⟨by rfl, ?hy3⟩) hHeld ?rst3
  case hy3 => (intro wx hSw; (try dsimp only at hSw); go_simp; try (with_reducible rfl))
  try simp only [List.getElem_toArray, List.getElem_cons_zero, List.getElem_cons_succ, Act.put, List.setIfInBounds_toArray, List.set_cons_zero, List.set_cons_succ]
  refine wpAnyH_take (i := 3) (v := ?v4) rfl (by kernel_rfl) (by kernel_rfl) (by kernel_rfl) (fun _ _ _ h => h) (Or.inl ⟨by rfl, ?hy4⟩) hHeld ?rst4
  case hy4 => (intro wx hSw; (try dsimp only at hSw); go_simp; try (with_reducible rfl))
  try simp only [List.getElem_toArray, List.getElem_cons_zero, List.getElem_cons_succ, Act.put, List.setIfInBounds_toArray, List.set_cons_zero, List.set_cons_succ]
  refine wpAnyH_take (i := 4) (v := ?v5) rfl (by kernel_rfl) (by kernel_rfl) (by kernel_rfl) (fun _ _ _ h => h) (Or.inl ⟨by rfl, ?hy5⟩) hHeld ?rst5
  case hy5 => (intro wx hSw; (try dsimp only at hSw); go_simp; try (with_reducible rfl))
  try simp only [List.getElem_toArray, List.getElem_cons_zero, List.getElem_cons_succ, Act.put, List.setIfInBounds_toArray, List.set_cons_zero, List.set_cons_succ]
  refine wpAnyH_take (i := 5) (v := ?v6) rfl (by kernel_rfl) (by kernel_rfl) (by kernel_rfl) (fun _ _ _ h => h) (Or.inl ⟨by rfl, ?hy6⟩) hHeld ?rst6
  case hy6 => (intro wx hSw; (try dsimp only at hSw); go_simp; try (with_reducible rfl))
  try simp only [List.getElem_toArray, List.getElem_cons_zero, List.getElem_cons_succ, Act.put, List.setIfInBounds_toArray, List.set_cons_zero, List.set_cons_succ]
  refine wpAnyH_take (i := 6) (v := ?v7) rfl (by kernel_rfl) (by kernel_rfl) (by kernel_rfl) (fun _ _ _ h => h) (Or.inl ⟨by rfl, ?hy7⟩) hHeld ?rst7
  case hy7 => (intro wx hSw; (try dsimp only at hSw); go_simp; try (with_reducible rfl))
  try simp only [List.getElem_toArray, List.getElem_cons_zero, List.getElem_cons_succ, Act.put, List.setIfInBounds_toArray, List.set_cons_zero, List.set_cons_succ]
  refine wpAnyH_take (i := 7) (v := ?v8) rfl (by kernel_rfl) (by kernel_rfl) (by kernel_rfl) (fun _ _ _ h => h) (Or.inl ⟨by rfl, ?hy8⟩) hHeld ?rst8
  case hy8 => (intro wx hSw; (try dsimp only at hSw); go_simp; try (with_reducible rfl))
  try simp only [List.getElem_toArray, List.getElem_cons_zero, List.getElem_cons_succ, Act.put, List.setIfInBounds_toArray, List.set_cons_zero, List.set_cons_succ]
  refine wpAnyH_take (i := 8) (v := ?v9) rfl (by kernel_rfl) (by kernel_rfl) (by kernel_rfl) (fun _ _ _ h => h) (Or.inl ⟨by rfl, ?hy9⟩) hHeld ?rst9
  case hy9 => (intro wx hSw; (try dsimp only at hSw); go_simp; try (with_reducible rfl))
  try simp only [List.getElem_toArray, List.getElem_cons_zero, List.getElem_cons_succ, Act.put, List.setIfInBounds_toArray, List.set_cons_zero, List.set_cons_succ]
  refine wpAnyH_take (i := 9) (v := ?v10) rfl (by kernel_rfl) (by kernel_rfl) (by kernel_rfl) (fun _ _ _ h => h) (Or.inl ⟨by rfl, ?hy10⟩) hHeld ?rst10
  case hy10 => (intro wx hSw; (try dsimp only at hSw); go_simp; try (with_reducible rfl))
  try simp only [List.getElem_toArray, List.getElem_cons_zero, List.getElem_cons_succ, Act.put, List.setIfInBounds_toArray, List.set_cons_zero, List.set_cons_succ]
  refine wpAnyH_ready (rs := [10]) (by kernel_rfl) (by simp) ?_
  refine AllReadyH.cons rfl (fun K hK => ?_) AllReadyH.nil
  go_simp
  (go_at_call 82; refine (need_no' (decide_eq_false (Int.not_lt.2 hf)) 10 _).mono ?_; rintro e w2 ⟨rfl, hw2⟩; subst w2; exact ⟨rfl, HP.out.ext (ext_drew _), But3.of (ext_trans HB0.out (ext_drew _)), .inr ⟨by decide, rfl⟩⟩)
set_option maxRecDepth 100000 in
set_option maxHeartbeats 4000000 in
theorem step_take_no (og : Int) (h : PmS g bs bu l.length N A cap fuel f m w) (ha : Ap w0.heap.size g bs bu) (hs : 0 ≤ m.s ∧ m.s < 100000) (hf : m.s < fuel) (h0 : 0 ≤ m.h) :
    Calls Try.prog 81 #[.pointer (some ⟨g, 0, none⟩), (⟨0, og, false⟩ : Opr).val] w fun e w' => PmS g bs bu l.length N A cap fuel f m w' ∧ But3 g bs bu w w' ∧ StE 1 e := by
  have HB0 := Lib.hid (ext_alloc w (.cells #[.int .i64 0, .int .i64 og, .bool false] 128))
  have HP := Lib.hid (h.ext HB0.out)
  have HO := Lib.hid (Bk.new 128 w #[.int .i64 0, .int .i64 og, .bool false])
  obtain ⟨f1, f2, f3⟩ := HP.out.1.facts
  obtain ⟨ms, ma, mh, mk, msw, mus⟩ := m
  try dsimp only at hf
  try dsimp only at h0
  try dsimp only at h1
  try dsimp only at h8
  dsimp only at f1 hs ⊢
  clear h
  show Calls Try.prog 81 #[.pointer (some ⟨g, 0, none⟩), .agg #[.int .i64 0, .int .i64 og, .bool false]] w _
  go_enter Try.func81, Try.ntmps81
  go_wp2
  go_quiet (exact Calls.quiet_of_same (need_yes 10 _))
  obtain ⟨V, hV⟩ : ∃ V, V = (w.alloc (.cells #[.int .i64 0, .int .i64 og, .bool false] 128)).drewN nq := ⟨_, rfl⟩
  have HV := Lib.hid (show Below w.heap.size w V from by rw [hV]; exact bdrewN HB0.out _)
  have HPV := Lib.hid (show PmS g bs bu l.length N A cap fuel f ⟨ms, ma, mh, mk, msw, mus⟩ V from by rw [hV]; exact HP.out.ext (ext_drewN _ _))
  have HOV := Lib.hid (show Bk 128 V w.heap.size #[.int .i64 0, .int .i64 og, .bool false] from by rw [hV]; exact HO.out.ext (ext_drewN _ _))
  rw [← hV]
  clear hV f1 f2 f3 HB0 HP HO
  obtain ⟨f1, f2, f3⟩ := HPV.out.1.facts
  obtain ⟨e1, e2, e3⟩ := HOV.out.facts
  dsimp only at f1
  go_wp2_with (go_at_call 82; refine (need_no _ _).mono ?_; rintro e w2 ⟨rfl, hw2⟩; subst w2; exact ⟨rfl, HPV.out, But3.of HV.out, .inr ⟨by decide, rfl⟩⟩)
set_option maxRecDepth 100000 in
set_option maxHeartbeats 4000000 in
theorem step_take (og : Int) (h : PmS g bs bu l.length N A cap fuel f m w) (ha : Ap w0.heap.size g bs bu) (hs : 0 ≤ m.s ∧ m.s < 100000) (hf : m.s < fuel) (h0 : m.h < 0) :
    Calls Try.prog 81 #[.pointer (some ⟨g, 0, none⟩), (⟨0, og, false⟩ : Opr).val] w fun e w' => PmS g bs bu l.length N A cap fuel f { m with h := og, s := m.s + 1 } w' ∧ But3 g bs bu w w' ∧ StE 0 e := by
  have HB0 := Lib.hid (ext_alloc w (.cells #[.int .i64 0, .int .i64 og, .bool false] 128))
  have HP := Lib.hid (h.ext HB0.out)
  have HO := Lib.hid (Bk.new 128 w #[.int .i64 0, .int .i64 og, .bool false])
  obtain ⟨f1, f2, f3⟩ := HP.out.1.facts
  obtain ⟨ms, ma, mh, mk, msw, mus⟩ := m
  try dsimp only at hf
  try dsimp only at h0
  try dsimp only at h1
  try dsimp only at h8
  dsimp only at f1 hs ⊢
  clear h
  show Calls Try.prog 81 #[.pointer (some ⟨g, 0, none⟩), .agg #[.int .i64 0, .int .i64 og, .bool false]] w _
  go_enter Try.func81, Try.ntmps81
  go_wp2
  go_quiet (exact Calls.quiet_of_same (need_yes 10 _))
  obtain ⟨V, hV⟩ : ∃ V, V = (w.alloc (.cells #[.int .i64 0, .int .i64 og, .bool false] 128)).drewN nq := ⟨_, rfl⟩
  have HV := Lib.hid (show Below w.heap.size w V from by rw [hV]; exact bdrewN HB0.out _)
  have HPV := Lib.hid (show PmS g bs bu l.length N A cap fuel f ⟨ms, ma, mh, mk, msw, mus⟩ V from by rw [hV]; exact HP.out.ext (ext_drewN _ _))
  have HOV := Lib.hid (show Bk 128 V w.heap.size #[.int .i64 0, .int .i64 og, .bool false] from by rw [hV]; exact HO.out.ext (ext_drewN _ _))
  rw [← hV]
  clear hV f1 f2 f3 HB0 HP HO
  obtain ⟨f1, f2, f3⟩ := HPV.out.1.facts
  obtain ⟨e1, e2, e3⟩ := HOV.out.facts
  dsimp only at f1
  have hn : ¬ 0 ≤ mh := by omega
  clear h0
  have HR := Lib.hid ((HPV.out.setH ha og).setS ha (ms + 1))
  have HB := Lib.hid (((But3.of (g := g) (bs := bs) (bu := bu) HV.out).set (k := g) (j := 3) (.inl rfl) (.int .i64 og)).set (k := g) (j := 1) (.inl rfl) (.int .i64 (ms + 1)))
  go_wp2_with (go_at_call 82; refine (need_yes _ _).mono ?_; rintro e w2 ⟨rfl, hw2⟩; subst w2)
  go_end0
  exact ⟨HR.out, HB.out, .inl ⟨rfl, rfl⟩⟩
set_option maxRecDepth 100000 in
set_option maxHeartbeats 4000000 in
theorem step_go_no (og : Int) (h : PmS g bs bu l.length N A cap fuel f m w) (ha : Ap w0.heap.size g bs bu) (hs : 0 ≤ m.s ∧ m.s < 100000) (hf : m.s < fuel) (h0 : 0 ≤ m.h) :
    Calls Try.prog 81 #[.pointer (some ⟨g, 0, none⟩), (⟨1, og, false⟩ : Opr).val] w fun e w' => PmS g bs bu l.length N A cap fuel f m w' ∧ But3 g bs bu w w' ∧ StE 2 e := by
  have HB0 := Lib.hid (ext_alloc w (.cells #[.int .i64 1, .int .i64 og, .bool false] 128))
  have HP := Lib.hid (h.ext HB0.out)
  have HO := Lib.hid (Bk.new 128 w #[.int .i64 1, .int .i64 og, .bool false])
  obtain ⟨f1, f2, f3⟩ := HP.out.1.facts
  obtain ⟨ms, ma, mh, mk, msw, mus⟩ := m
  try dsimp only at hf
  try dsimp only at h0
  try dsimp only at h1
  try dsimp only at h8
  dsimp only at f1 hs ⊢
  clear h
  show Calls Try.prog 81 #[.pointer (some ⟨g, 0, none⟩), .agg #[.int .i64 1, .int .i64 og, .bool false]] w _
  go_enter Try.func81, Try.ntmps81
  go_wp2
  go_quiet (exact Calls.quiet_of_same (need_yes 10 _))
  obtain ⟨V, hV⟩ : ∃ V, V = (w.alloc (.cells #[.int .i64 1, .int .i64 og, .bool false] 128)).drewN nq := ⟨_, rfl⟩
  have HV := Lib.hid (show Below w.heap.size w V from by rw [hV]; exact bdrewN HB0.out _)
  have HPV := Lib.hid (show PmS g bs bu l.length N A cap fuel f ⟨ms, ma, mh, mk, msw, mus⟩ V from by rw [hV]; exact HP.out.ext (ext_drewN _ _))
  have HOV := Lib.hid (show Bk 128 V w.heap.size #[.int .i64 1, .int .i64 og, .bool false] from by rw [hV]; exact HO.out.ext (ext_drewN _ _))
  rw [← hV]
  clear hV f1 f2 f3 HB0 HP HO
  obtain ⟨f1, f2, f3⟩ := HPV.out.1.facts
  obtain ⟨e1, e2, e3⟩ := HOV.out.facts
  dsimp only at f1
  go_wp2_with (go_at_call 82; refine (need_no _ _).mono ?_; rintro e w2 ⟨rfl, hw2⟩; subst w2; exact ⟨rfl, HPV.out, But3.of HV.out, .inr ⟨by decide, rfl⟩⟩)
set_option maxRecDepth 100000 in
set_option maxHeartbeats 4000000 in
theorem step_go_far (og : Int) (h : PmS g bs bu l.length N A cap fuel f m w) (ha : Ap w0.heap.size g bs bu) (hs : 0 ≤ m.s ∧ m.s < 100000) (hf : m.s < fuel) (h0 : m.h < 0) (h1 : N ≤ og) :
    Calls Try.prog 81 #[.pointer (some ⟨g, 0, none⟩), (⟨1, og, false⟩ : Opr).val] w fun e w' => PmS g bs bu l.length N A cap fuel f m w' ∧ But3 g bs bu w w' ∧ StE 3 e := by
  have HB0 := Lib.hid (ext_alloc w (.cells #[.int .i64 1, .int .i64 og, .bool false] 128))
  have HP := Lib.hid (h.ext HB0.out)
  have HO := Lib.hid (Bk.new 128 w #[.int .i64 1, .int .i64 og, .bool false])
  obtain ⟨f1, f2, f3⟩ := HP.out.1.facts
  obtain ⟨ms, ma, mh, mk, msw, mus⟩ := m
  try dsimp only at hf
  try dsimp only at h0
  try dsimp only at h1
  try dsimp only at h8
  dsimp only at f1 hs ⊢
  clear h
  show Calls Try.prog 81 #[.pointer (some ⟨g, 0, none⟩), .agg #[.int .i64 1, .int .i64 og, .bool false]] w _
  go_enter Try.func81, Try.ntmps81
  go_wp2
  go_quiet (exact Calls.quiet_of_same (need_yes 10 _))
  obtain ⟨V, hV⟩ : ∃ V, V = (w.alloc (.cells #[.int .i64 1, .int .i64 og, .bool false] 128)).drewN nq := ⟨_, rfl⟩
  have HV := Lib.hid (show Below w.heap.size w V from by rw [hV]; exact bdrewN HB0.out _)
  have HPV := Lib.hid (show PmS g bs bu l.length N A cap fuel f ⟨ms, ma, mh, mk, msw, mus⟩ V from by rw [hV]; exact HP.out.ext (ext_drewN _ _))
  have HOV := Lib.hid (show Bk 128 V w.heap.size #[.int .i64 1, .int .i64 og, .bool false] from by rw [hV]; exact HO.out.ext (ext_drewN _ _))
  rw [← hV]
  clear hV f1 f2 f3 HB0 HP HO
  obtain ⟨f1, f2, f3⟩ := HPV.out.1.facts
  obtain ⟨e1, e2, e3⟩ := HOV.out.facts
  dsimp only at f1
  have hn : ¬ 0 ≤ mh := by omega
  clear h0
  go_upto_region 9 with (go_at_call 82; refine (need_yes _ _).mono ?_; rintro e w2 ⟨rfl, hw2⟩; subst w2)
  refine wp_region_held_drew (S := (fun wx => wx.cell? ⟨g, 7, none⟩ = some (.int .i64 N) ∧ wx.cell? ⟨w.heap.size, 1, none⟩ = some (.int .i64 og))) (by kernel_rfl) (⟨f1 7, e1 1⟩) (fun hHeld => ?_)
  refine wpAnyH_take (i := 0) (v := ?v1) rfl (by kernel_rfl) (by kernel_rfl) (by kernel_rfl) (fun _ _ _ h => h) (Or.inl ⟨by rfl, ?hy1⟩) hHeld ?rst1
  case hy1 => (intro wx hSw; (try dsimp only at hSw); go_simp; try (with_reducible rfl))
  try simp only [List.getElem_toArray, List.getElem_cons_zero, Act.put, List.setIfInBounds_toArray, List.set_cons_zero, List.set_cons_succ]
  refine wpAnyH_take (i := 1) (v := ?v2) rfl (by kernel_rfl) (by kernel_rfl) (by kernel_rfl) (fun _ _ _ h => h) (Or.inl ⟨by rfl, ?hy2⟩) hHeld ?rst2
  case hy2 => (intro wx hSw; (try dsimp only at hSw); go_simp; try (with_reducible rfl))
  try simp only [List.getElem_toArray, List.getElem_cons_zero, List.getElem_cons_succ, Act.put, List.setIfInBounds_toArray, List.set_cons_zero, List.set_cons_succ]
  refine wpAnyH_take (i := 2) (v := ?v3) rfl (by kernel_rfl) (by kernel_rfl) (by kernel_rfl) (fun _ _ _ h => h) (Or.inl ⟨by rfl, ?hy3⟩) hHeld ?rst3
  case hy3 => (intro wx hSw; (try dsimp only at hSw); go_simp; try (with_reducible rfl))
  try simp only [List.getElem_toArray, List.getElem_cons_zero, List.getElem_cons_succ, Act.put, List.setIfInBounds_toArray, List.set_cons_zero, List.set_cons_succ]
  refine wpAnyH_take (i := 3) (v := ?v4) rfl (by kernel_rfl) (by kernel_rfl) (by kernel_rfl) (fun _ _ _ h => h) (Or.inl ⟨by rfl, ?hy4⟩) hHeld ?rst4
  case hy4 => (intro wx hSw; (try dsimp only at hSw); go_simp; try (with_reducible rfl))
  try simp only [List.getElem_toArray, List.getElem_cons_zero, List.getElem_cons_succ, Act.put, List.setIfInBounds_toArray, List.set_cons_zero, List.set_cons_succ]
  refine wpAnyH_take (i := 4) (v := ?v5) rfl (by kernel_rfl) (by kernel_rfl) (by kernel_rfl) (fun _ _ _ h => h) (Or.inl ⟨by rfl, ?hy5⟩) hHeld ?rst5
  case hy5 => (intro wx hSw; (try dsimp only at hSw); go_simp; try (with_reducible rfl))
  try simp only [List.getElem_toArray, List.getElem_cons_zero, List.getElem_cons_succ, Act.put, List.setIfInBounds_toArray, List.set_cons_zero, List.set_cons_succ]
  refine wpAnyH_take (i := 5) (v := ?v6) rfl (by kernel_rfl) (by kernel_rfl) (by kernel_rfl) (fun _ _ _ h => h) (Or.inl ⟨by rfl, ?hy6⟩) hHeld ?rst6
  case hy6 => (intro wx hSw; (try dsimp only at hSw); go_simp; try (with_reducible rfl))
  try simp only [List.getElem_toArray, List.getElem_cons_zero, List.getElem_cons_succ, Act.put, List.setIfInBounds_toArray, List.set_cons_zero, List.set_cons_succ]
  refine wpAnyH_take (i := 6) (v := ?v7) rfl (by kernel_rfl) (by kernel_rfl) (by kernel_rfl) (fun _ _ _ h => h) (Or.inl ⟨by rfl, ?hy7⟩) hHeld ?rst7
  case hy7 => (intro wx hSw; (try dsimp only at hSw); go_simp; try (with_reducible rfl))
  try simp only [List.getElem_toArray, List.getElem_cons_zero, List.getElem_cons_succ, Act.put, List.setIfInBounds_toArray, List.set_cons_zero, List.set_cons_succ]
  refine wpAnyH_take (i := 7) (v := ?v8) rfl (by kernel_rfl) (by kernel_rfl) (by kernel_rfl) (fun _ _ _ h => h) (Or.inl ⟨by rfl, ?hy8⟩) hHeld ?rst8
  case hy8 => (intro wx hSw; (try dsimp only at hSw); go_simp; try (with_reducible rfl))
  try simp only [List.getElem_toArray, List.getElem_cons_zero, List.getElem_cons_succ, Act.put, List.setIfInBounds_toArray, List.set_cons_zero, List.set_cons_succ]
  refine wpAnyH_ready (rs := [8]) (by kernel_rfl) (by simp) ?_
  refine AllReadyH.cons rfl (fun K hK => ?_) AllReadyH.nil
  go_simp
  (go_at_call 82; refine (need_no' (decide_eq_false (Int.not_lt.2 h1)) 3 _).mono ?_; rintro e w2 ⟨rfl, hw2⟩; subst w2; exact ⟨rfl, HPV.out.ext (ext_drew _), But3.of (bext HV.out (ext_drew _) HV.out.size), .inr ⟨by decide, rfl⟩⟩)
set_option maxRecDepth 100000 in
set_option maxHeartbeats 4000000 in
theorem step_go (og : Int) (h : PmS g bs bu l.length N A cap fuel f m w) (ha : Ap w0.heap.size g bs bu) (hs : 0 ≤ m.s ∧ m.s < 100000) (hf : m.s < fuel) (h0 : m.h < 0) (h1 : og < N) :
    Calls Try.prog 81 #[.pointer (some ⟨g, 0, none⟩), (⟨1, og, false⟩ : Opr).val] w fun e w' => PmS g bs bu l.length N A cap fuel f { m with a := og, s := m.s + 1 } w' ∧ But3 g bs bu w w' ∧ StE 0 e := by
  have HB0 := Lib.hid (ext_alloc w (.cells #[.int .i64 1, .int .i64 og, .bool false] 128))
  have HP := Lib.hid (h.ext HB0.out)
  have HO := Lib.hid (Bk.new 128 w #[.int .i64 1, .int .i64 og, .bool false])
  obtain ⟨f1, f2, f3⟩ := HP.out.1.facts
  obtain ⟨ms, ma, mh, mk, msw, mus⟩ := m
  try dsimp only at hf
  try dsimp only at h0
  try dsimp only at h1
  try dsimp only at h8
  dsimp only at f1 hs ⊢
  clear h
  show Calls Try.prog 81 #[.pointer (some ⟨g, 0, none⟩), .agg #[.int .i64 1, .int .i64 og, .bool false]] w _
  go_enter Try.func81, Try.ntmps81
  go_wp2
  go_quiet (exact Calls.quiet_of_same (need_yes 10 _))
  obtain ⟨V, hV⟩ : ∃ V, V = (w.alloc (.cells #[.int .i64 1, .int .i64 og, .bool false] 128)).drewN nq := ⟨_, rfl⟩
  have HV := Lib.hid (show Below w.heap.size w V from by rw [hV]; exact bdrewN HB0.out _)
  have HPV := Lib.hid (show PmS g bs bu l.length N A cap fuel f ⟨ms, ma, mh, mk, msw, mus⟩ V from by rw [hV]; exact HP.out.ext (ext_drewN _ _))
  have HOV := Lib.hid (show Bk 128 V w.heap.size #[.int .i64 1, .int .i64 og, .bool false] from by rw [hV]; exact HO.out.ext (ext_drewN _ _))
  rw [← hV]
  clear hV f1 f2 f3 HB0 HP HO
  obtain ⟨f1, f2, f3⟩ := HPV.out.1.facts
  obtain ⟨e1, e2, e3⟩ := HOV.out.facts
  dsimp only at f1
  have hn : ¬ 0 ≤ mh := by omega
  clear h0
  go_upto_region 9 with (go_at_call 82; refine (need_yes _ _).mono ?_; rintro e w2 ⟨rfl, hw2⟩; subst w2)
  go_quiet (exact Calls.quiet_of_same (need_yes 3 _))
  obtain ⟨X, hX⟩ : ∃ X, X = V.drewN nq := ⟨_, rfl⟩
  have HX := Lib.hid (show Below w.heap.size w X from by rw [hX]; exact bdrewN HV.out _)
  have HPX := Lib.hid (show PmS g bs bu l.length N A cap fuel f ⟨ms, ma, mh, mk, msw, mus⟩ X from by rw [hX]; exact HPV.out.ext (ext_drewN _ _))
  have HOX := Lib.hid (HOV.out.ext (ext_drewN V nq))
  rw [← hX] at HOX ⊢
  clear hX f1 f2 f3 e1 e2 e3 HV HPV HOV
  obtain ⟨f1, f2, f3⟩ := HPX.out.1.facts
  obtain ⟨e1, e2, e3⟩ := HOX.out.facts
  dsimp only at f1
  have HR := Lib.hid ((HPX.out.setA ha og).setS ha (ms + 1))
  have HB := Lib.hid (((But3.of (g := g) (bs := bs) (bu := bu) HX.out).set (k := g) (j := 2) (.inl rfl) (.int .i64 og)).set (k := g) (j := 1) (.inl rfl) (.int .i64 (ms + 1)))
  go_wp2_with (go_at_call 82; refine (need_yes _ _).mono ?_; rintro e w2 ⟨rfl, hw2⟩; subst w2)
  go_end0
  exact ⟨HR.out, HB.out, .inl ⟨rfl, rfl⟩⟩
set_option maxRecDepth 100000 in
set_option maxHeartbeats 4000000 in
theorem step_lock_no (og : Int) (h : PmS g bs bu l.length N A cap fuel f m w) (ha : Ap w0.heap.size g bs bu) (hs : 0 ≤ m.s ∧ m.s < 100000) (hf : m.s < fuel) (h0 : m.h < 0) :
    Calls Try.prog 81 #[.pointer (some ⟨g, 0, none⟩), (⟨2, og, false⟩ : Opr).val] w fun e w' => PmS g bs bu l.length N A cap fuel f m w' ∧ But3 g bs bu w w' ∧ StE 4 e := by
  have HB0 := Lib.hid (ext_alloc w (.cells #[.int .i64 2, .int .i64 og, .bool false] 128))
  have HP := Lib.hid (h.ext HB0.out)
  have HO := Lib.hid (Bk.new 128 w #[.int .i64 2, .int .i64 og, .bool false])
  obtain ⟨f1, f2, f3⟩ := HP.out.1.facts
  obtain ⟨ms, ma, mh, mk, msw, mus⟩ := m
  try dsimp only at hf
  try dsimp only at h0
  try dsimp only at h1
  try dsimp only at h8
  dsimp only at f1 hs ⊢
  clear h
  show Calls Try.prog 81 #[.pointer (some ⟨g, 0, none⟩), .agg #[.int .i64 2, .int .i64 og, .bool false]] w _
  go_enter Try.func81, Try.ntmps81
  go_wp2
  go_quiet (exact Calls.quiet_of_same (need_yes 10 _))
  obtain ⟨V, hV⟩ : ∃ V, V = (w.alloc (.cells #[.int .i64 2, .int .i64 og, .bool false] 128)).drewN nq := ⟨_, rfl⟩
  have HV := Lib.hid (show Below w.heap.size w V from by rw [hV]; exact bdrewN HB0.out _)
  have HPV := Lib.hid (show PmS g bs bu l.length N A cap fuel f ⟨ms, ma, mh, mk, msw, mus⟩ V from by rw [hV]; exact HP.out.ext (ext_drewN _ _))
  have HOV := Lib.hid (show Bk 128 V w.heap.size #[.int .i64 2, .int .i64 og, .bool false] from by rw [hV]; exact HO.out.ext (ext_drewN _ _))
  rw [← hV]
  clear hV f1 f2 f3 HB0 HP HO
  obtain ⟨f1, f2, f3⟩ := HPV.out.1.facts
  obtain ⟨e1, e2, e3⟩ := HOV.out.facts
  dsimp only at f1
  have hn : ¬ 0 ≤ mh := by omega
  clear h0
  go_wp2_with (go_at_call 82; refine (need_no _ _).mono ?_; rintro e w2 ⟨rfl, hw2⟩; subst w2; exact ⟨rfl, HPV.out, But3.of HV.out, .inr ⟨by decide, rfl⟩⟩)
set_option maxRecDepth 100000 in
set_option maxHeartbeats 4000000 in
theorem step_lock (og : Int) (h : PmS g bs bu l.length N A cap fuel f m w) (ha : Ap w0.heap.size g bs bu) (hs : 0 ≤ m.s ∧ m.s < 100000) (hf : m.s < fuel) (h0 : 0 ≤ m.h) (h8 : m.h < 8) :
    Calls Try.prog 81 #[.pointer (some ⟨g, 0, none⟩), (⟨2, og, false⟩ : Opr).val] w fun e w' => PmS g bs bu l.length N A cap fuel f { m.use 4 with s := m.s + 1 } w' ∧ But3 g bs bu w w' ∧ StE 0 e := by
  have HB0 := Lib.hid (ext_alloc w (.cells #[.int .i64 2, .int .i64 og, .bool false] 128))
  have HP := Lib.hid (h.ext HB0.out)
  have HO := Lib.hid (Bk.new 128 w #[.int .i64 2, .int .i64 og, .bool false])
  obtain ⟨f1, f2, f3⟩ := HP.out.1.facts
  obtain ⟨ms, ma, mh, mk, msw, mus⟩ := m
  try dsimp only at hf
  try dsimp only at h0
  try dsimp only at h1
  try dsimp only at h8
  dsimp only at f1 hs ⊢
  clear h
  show Calls Try.prog 81 #[.pointer (some ⟨g, 0, none⟩), .agg #[.int .i64 2, .int .i64 og, .bool false]] w _
  go_enter Try.func81, Try.ntmps81
  go_wp2
  go_quiet (exact Calls.quiet_of_same (need_yes 10 _))
  obtain ⟨V, hV⟩ : ∃ V, V = (w.alloc (.cells #[.int .i64 2, .int .i64 og, .bool false] 128)).drewN nq := ⟨_, rfl⟩
  have HV := Lib.hid (show Below w.heap.size w V from by rw [hV]; exact bdrewN HB0.out _)
  have HPV := Lib.hid (show PmS g bs bu l.length N A cap fuel f ⟨ms, ma, mh, mk, msw, mus⟩ V from by rw [hV]; exact HP.out.ext (ext_drewN _ _))
  have HOV := Lib.hid (show Bk 128 V w.heap.size #[.int .i64 2, .int .i64 og, .bool false] from by rw [hV]; exact HO.out.ext (ext_drewN _ _))
  rw [← hV]
  clear hV f1 f2 f3 HB0 HP HO
  obtain ⟨f1, f2, f3⟩ := HPV.out.1.facts
  obtain ⟨e1, e2, e3⟩ := HOV.out.facts
  dsimp only at f1
  go_upto_region 13 with (go_at_call 82; refine (need_yes _ _).mono ?_; rintro e w2 ⟨rfl, hw2⟩; subst w2)
  go_upto_region 29 with (go_at_call 93; refine (use_any 4 HPV.out (ap0 ha) h0 h8).mono ?_; rintro e w3 ⟨rfl, hp3, hb3⟩; obtain ⟨f1, f2, f3⟩ := hp3.1.facts; dsimp only [Mc.use] at f1)
  have HR := Lib.hid (hp3.setS ha (ms + 1))
  have HB := Lib.hid (((But3.of (g := g) (bs := bs) (bu := bu) HV.out).trans hb3).set (k := g) (j := 1) (.inl rfl) (.int .i64 (ms + 1)))
  clear hp3 hb3
  go_wp2
  go_end0
  exact ⟨HR.out, HB.out, .inl ⟨rfl, rfl⟩⟩
set_option maxRecDepth 100000 in
set_option maxHeartbeats 4000000 in
theorem step_cut_no (og : Int) (h : PmS g bs bu l.length N A cap fuel f m w) (ha : Ap w0.heap.size g bs bu) (hs : 0 ≤ m.s ∧ m.s < 100000) (hf : m.s < fuel) (h0 : m.h < 0) :
    Calls Try.prog 81 #[.pointer (some ⟨g, 0, none⟩), (⟨4, og, false⟩ : Opr).val] w fun e w' => PmS g bs bu l.length N A cap fuel f m w' ∧ But3 g bs bu w w' ∧ StE 4 e := by
  have HB0 := Lib.hid (ext_alloc w (.cells #[.int .i64 4, .int .i64 og, .bool false] 128))
  have HP := Lib.hid (h.ext HB0.out)
  have HO := Lib.hid (Bk.new 128 w #[.int .i64 4, .int .i64 og, .bool false])
  obtain ⟨f1, f2, f3⟩ := HP.out.1.facts
  obtain ⟨ms, ma, mh, mk, msw, mus⟩ := m
  try dsimp only at hf
  try dsimp only at h0
  try dsimp only at h1
  try dsimp only at h8
  dsimp only at f1 hs ⊢
  clear h
  show Calls Try.prog 81 #[.pointer (some ⟨g, 0, none⟩), .agg #[.int .i64 4, .int .i64 og, .bool false]] w _
  go_enter Try.func81, Try.ntmps81
  go_wp2
  go_quiet (exact Calls.quiet_of_same (need_yes 10 _))
  obtain ⟨V, hV⟩ : ∃ V, V = (w.alloc (.cells #[.int .i64 4, .int .i64 og, .bool false] 128)).drewN nq := ⟨_, rfl⟩
  have HV := Lib.hid (show Below w.heap.size w V from by rw [hV]; exact bdrewN HB0.out _)
  have HPV := Lib.hid (show PmS g bs bu l.length N A cap fuel f ⟨ms, ma, mh, mk, msw, mus⟩ V from by rw [hV]; exact HP.out.ext (ext_drewN _ _))
  have HOV := Lib.hid (show Bk 128 V w.heap.size #[.int .i64 4, .int .i64 og, .bool false] from by rw [hV]; exact HO.out.ext (ext_drewN _ _))
  rw [← hV]
  clear hV f1 f2 f3 HB0 HP HO
  obtain ⟨f1, f2, f3⟩ := HPV.out.1.facts
  obtain ⟨e1, e2, e3⟩ := HOV.out.facts
  dsimp only at f1
  have hn : ¬ 0 ≤ mh := by omega
  clear h0
  go_wp2_with (go_at_call 82; refine (need_no _ _).mono ?_; rintro e w2 ⟨rfl, hw2⟩; subst w2; exact ⟨rfl, HPV.out, But3.of HV.out, .inr ⟨by decide, rfl⟩⟩)
set_option maxRecDepth 100000 in
set_option maxHeartbeats 4000000 in
theorem step_cut (og : Int) (h : PmS g bs bu l.length N A cap fuel f m w) (ha : Ap w0.heap.size g bs bu) (hs : 0 ≤ m.s ∧ m.s < 100000) (hf : m.s < fuel) (h0 : 0 ≤ m.h) (h8 : m.h < 8) :
    Calls Try.prog 81 #[.pointer (some ⟨g, 0, none⟩), (⟨4, og, false⟩ : Opr).val] w fun e w' => PmS g bs bu l.length N A cap fuel f { m.use 2 with h := -1, k := wrap64 (m.k + 1), s := m.s + 1 } w' ∧ But3 g bs bu w w' ∧ StE 0 e := by
  have HB0 := Lib.hid (ext_alloc w (.cells #[.int .i64 4, .int .i64 og, .bool false] 128))
  have HP := Lib.hid (h.ext HB0.out)
  have HO := Lib.hid (Bk.new 128 w #[.int .i64 4, .int .i64 og, .bool false])
  obtain ⟨f1, f2, f3⟩ := HP.out.1.facts
  obtain ⟨ms, ma, mh, mk, msw, mus⟩ := m
  try dsimp only at hf
  try dsimp only at h0
  try dsimp only at h1
  try dsimp only at h8
  dsimp only at f1 hs ⊢
  clear h
  show Calls Try.prog 81 #[.pointer (some ⟨g, 0, none⟩), .agg #[.int .i64 4, .int .i64 og, .bool false]] w _
  go_enter Try.func81, Try.ntmps81
  go_wp2
  go_quiet (exact Calls.quiet_of_same (need_yes 10 _))
  obtain ⟨V, hV⟩ : ∃ V, V = (w.alloc (.cells #[.int .i64 4, .int .i64 og, .bool false] 128)).drewN nq := ⟨_, rfl⟩
  have HV := Lib.hid (show Below w.heap.size w V from by rw [hV]; exact bdrewN HB0.out _)
  have HPV := Lib.hid (show PmS g bs bu l.length N A cap fuel f ⟨ms, ma, mh, mk, msw, mus⟩ V from by rw [hV]; exact HP.out.ext (ext_drewN _ _))
  have HOV := Lib.hid (show Bk 128 V w.heap.size #[.int .i64 4, .int .i64 og, .bool false] from by rw [hV]; exact HO.out.ext (ext_drewN _ _))
  rw [← hV]
  clear hV f1 f2 f3 HB0 HP HO
  obtain ⟨f1, f2, f3⟩ := HPV.out.1.facts
  obtain ⟨e1, e2, e3⟩ := HOV.out.facts
  dsimp only at f1
  go_upto_region 26 with (go_at_call 82; refine (need_yes _ _).mono ?_; rintro e w2 ⟨rfl, hw2⟩; subst w2)
  go_upto_region 27 with (go_at_call 93; refine (use_any 2 HPV.out (ap0 ha) h0 h8).mono ?_; rintro e w3 ⟨rfl, hp3, hb3⟩; obtain ⟨f1, f2, f3⟩ := hp3.1.facts; dsimp only [Mc.use] at f1)
  have HR := Lib.hid (((hp3.setH ha (-1)).setK ha (wrap64 (mk + 1))).setS ha (ms + 1))
  have HB := Lib.hid (((((But3.of (g := g) (bs := bs) (bu := bu) HV.out).trans hb3).set (k := g) (j := 3) (.inl rfl) (.int .i64 (-1))).set (k := g) (j := 4) (.inl rfl) (.int .i64 (wrap64 (mk + 1)))).set (k := g) (j := 1) (.inl rfl) (.int .i64 (ms + 1)))
  clear hp3 hb3
  go_wp2
  go_end0
  exact ⟨HR.out, HB.out, .inl ⟨rfl, rfl⟩⟩
end
end Go.Proofs.Ytbhjhajnhpohlaa
