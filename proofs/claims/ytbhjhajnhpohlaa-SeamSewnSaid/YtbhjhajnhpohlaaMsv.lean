/- The machine's step walked at a sew. Conditions: a valid graph, the machine's blocks apart from the graph's. -/
import Derived.Test.YtbhjhajnhpohlaaMst
import Derived.Deep.RegionHeld3
namespace Go.Proofs.Ytbhjhajnhpohlaa
open Go.RowKit

section
variable {g bs bu : Nat} {N : Int} {A : Option Addr} {cap : Nat} {fuel f : Int} {m : Mc} {l : List Sm} {w0 w : World}
set_option maxRecDepth 100000 in
set_option maxHeartbeats 4000000 in
theorem step_sew_no (q : Nat) (ob : Bool) (h : PmS g bs bu l.length N A cap fuel f m w) (ha : Ap w0.heap.size g bs bu) (hs : 0 ≤ m.s ∧ m.s < 100000) (hf : m.s < fuel) (hS : SSl w0 A l) (hw0 : Below w0.heap.size w0 w) (h0 : m.h < 0) :
    Calls Try.prog 81 #[.pointer (some ⟨g, 0, none⟩), (⟨3, (q : Int), ob⟩ : Opr).val] w fun e w' => PmS g bs bu l.length N A cap fuel f m w' ∧ But3 g bs bu w w' ∧ StE 4 e := by
  have HB0 := Lib.hid (ext_alloc w (.cells #[.int .i64 3, .int .i64 (q : Int), .bool ob] 128))
  have HP := Lib.hid (h.ext HB0.out)
  have HO := Lib.hid (Bk.new 128 w #[.int .i64 3, .int .i64 (q : Int), .bool ob])
  obtain ⟨f1, f2, f3⟩ := HP.out.1.facts
  obtain ⟨ms, ma, mh, mk, msw, mus⟩ := m
  try dsimp only at hf
  try dsimp only at h0
  try dsimp only at h1
  try dsimp only at h8
  dsimp only at f1 hs ⊢
  clear h
  show Calls Try.prog 81 #[.pointer (some ⟨g, 0, none⟩), .agg #[.int .i64 3, .int .i64 (q : Int), .bool ob]] w _
  go_enter Try.func81, Try.ntmps81
  go_wp2
  go_quiet (exact Calls.quiet_of_same (need_yes 10 _))
  obtain ⟨V, hV⟩ : ∃ V, V = (w.alloc (.cells #[.int .i64 3, .int .i64 (q : Int), .bool ob] 128)).drewN nq := ⟨_, rfl⟩
  have HV := Lib.hid (show Below w.heap.size w V from by rw [hV]; exact bdrewN HB0.out _)
  have HPV := Lib.hid (show PmS g bs bu l.length N A cap fuel f ⟨ms, ma, mh, mk, msw, mus⟩ V from by rw [hV]; exact HP.out.ext (ext_drewN _ _))
  have HOV := Lib.hid (show Bk 128 V w.heap.size #[.int .i64 3, .int .i64 (q : Int), .bool ob] from by rw [hV]; exact HO.out.ext (ext_drewN _ _))
  rw [← hV]
  clear hV f1 f2 f3 HB0 HP HO
  obtain ⟨f1, f2, f3⟩ := HPV.out.1.facts
  obtain ⟨e1, e2, e3⟩ := HOV.out.facts
  dsimp only at f1
  have hn : ¬ 0 ≤ mh := by omega
  clear h0
  go_wp2_with (go_at_call 82; refine (need_no _ _).mono ?_; rintro e w2 ⟨rfl, hw2⟩; subst w2; exact ⟨rfl, HPV.out, But3.of HV.out, .inr ⟨by decide, rfl⟩⟩)
set_option maxRecDepth 100000 in
set_option maxHeartbeats 4000000 in
theorem step_sew_far (q : Nat) (ob : Bool) (h : PmS g bs bu l.length N A cap fuel f m w) (ha : Ap w0.heap.size g bs bu) (hs : 0 ≤ m.s ∧ m.s < 100000) (hf : m.s < fuel) (hS : SSl w0 A l) (hw0 : Below w0.heap.size w0 w) (h0 : 0 ≤ m.h) (h1 : (l.length : Int) ≤ q) :
    Calls Try.prog 81 #[.pointer (some ⟨g, 0, none⟩), (⟨3, (q : Int), ob⟩ : Opr).val] w fun e w' => PmS g bs bu l.length N A cap fuel f m w' ∧ But3 g bs bu w w' ∧ StE 5 e := by
  have HB0 := Lib.hid (ext_alloc w (.cells #[.int .i64 3, .int .i64 (q : Int), .bool ob] 128))
  have HP := Lib.hid (h.ext HB0.out)
  have HO := Lib.hid (Bk.new 128 w #[.int .i64 3, .int .i64 (q : Int), .bool ob])
  obtain ⟨f1, f2, f3⟩ := HP.out.1.facts
  obtain ⟨ms, ma, mh, mk, msw, mus⟩ := m
  try dsimp only at hf
  try dsimp only at h0
  try dsimp only at h1
  try dsimp only at h8
  dsimp only at f1 hs ⊢
  clear h
  show Calls Try.prog 81 #[.pointer (some ⟨g, 0, none⟩), .agg #[.int .i64 3, .int .i64 (q : Int), .bool ob]] w _
  go_enter Try.func81, Try.ntmps81
  go_wp2
  go_quiet (exact Calls.quiet_of_same (need_yes 10 _))
  obtain ⟨V, hV⟩ : ∃ V, V = (w.alloc (.cells #[.int .i64 3, .int .i64 (q : Int), .bool ob] 128)).drewN nq := ⟨_, rfl⟩
  have HV := Lib.hid (show Below w.heap.size w V from by rw [hV]; exact bdrewN HB0.out _)
  have HPV := Lib.hid (show PmS g bs bu l.length N A cap fuel f ⟨ms, ma, mh, mk, msw, mus⟩ V from by rw [hV]; exact HP.out.ext (ext_drewN _ _))
  have HOV := Lib.hid (show Bk 128 V w.heap.size #[.int .i64 3, .int .i64 (q : Int), .bool ob] from by rw [hV]; exact HO.out.ext (ext_drewN _ _))
  rw [← hV]
  clear hV f1 f2 f3 HB0 HP HO
  obtain ⟨f1, f2, f3⟩ := HPV.out.1.facts
  obtain ⟨e1, e2, e3⟩ := HOV.out.facts
  dsimp only at f1
  go_upto_region 16 with (go_at_call 82; refine (need_yes _ _).mono ?_; rintro e w2 ⟨rfl, hw2⟩; subst w2)
  refine wp_region_held_drew (S := (fun wx => wx.cell? ⟨g, 8, none⟩ = some (.slice A l.length cap) ∧ wx.cell? ⟨w.heap.size, 1, none⟩ = some (.int .i64 (q : Int)))) (by kernel_rfl) (⟨f1 8, e1 1⟩) (fun hHeld => ?_)
  refine wpAnyH_take (i := 0) (v := ?v1) rfl (by kernel_rfl) (by kernel_rfl) (by kernel_rfl) (fun _ _ _ h => h) (Or.inl ⟨by rfl, ?hy1⟩) hHeld ?rst1
  case hy1 => (intro wx hSw; (try dsimp only at hSw); go_simp; try (with_reducible rfl))
  try simp only [List.getElem_toArray, List.getElem_cons_zero, Act.put, List.setIfInBounds_toArray, List.set_cons_zero, List.set_cons_succ]
  refine wpAnyH_take (i := 1) (v := ?v2) rfl (by kernel_rfl) (by kernel_rfl) (by kernel_rfl) (fun _ _ _ h => h) (Or.inl ⟨by rfl, ?hy2⟩) hHeld ?rst2
  case hy2 => (intro wx hSw; (try dsimp only at hSw); go_simp; try (with_reducible rfl))
  try simp only [List.getElem_toArray, List.getElem_cons_zero, List.getElem_cons_succ, Act.put, List.setIfInBounds_toArray, List.set_cons_zero, List.set_cons_succ]
  refine wpAnyH_take (i := 2) (v := ?v3) rfl (by kernel_rfl) (by kernel_rfl) (by kernel_rfl) (fun _ _ _ h => h) (Or.inl ⟨by rfl, ?hy3⟩) hHeld ?rst3
  case hy3 => (intro wx hSw; (try dsimp only at hSw); go_simp; try (with_reducible rfl))
  try simp only [List.getElem_toArray, List.getElem_cons_zero, List.getElem_cons_succ, Act.put, List.setIfInBounds_toArray, List.set_cons_zero, List.set_cons_succ]
  refine wpAnyH_take (i := 3) (v := ?v4) rfl (by kernel_rfl) (by kernel_rfl) (by kernel_rfl) (fun _ _ _ h => h) (Or.inl ⟨by rfl, ?hy4⟩) hHeld ?rst4
  case hy4 => (intro wx hSw; (try dsimp only at hSw); go_simp; try (with_reducible rfl))
  try simp only [List.getElem_toArray, List.getElem_cons_zero, List.getElem_cons_succ, Act.put, List.setIfInBounds_toArray, List.set_cons_zero, List.set_cons_succ]
  refine wpAnyH_take (i := 4) (v := ?v5) rfl (by kernel_rfl) (by kernel_rfl) (by kernel_rfl) (fun _ _ _ h => h) (Or.inl ⟨by rfl, ?hy5⟩) hHeld ?rst5
  case hy5 => (intro wx hSw; (try dsimp only at hSw); go_simp; try (with_reducible rfl))
  try simp only [List.getElem_toArray, List.getElem_cons_zero, List.getElem_cons_succ, Act.put, List.setIfInBounds_toArray, List.set_cons_zero, List.set_cons_succ]
  refine wpAnyH_take (i := 5) (v := ?v6) rfl (by kernel_rfl) (by kernel_rfl) (by kernel_rfl) (fun _ _ _ h => h) (Or.inl ⟨by rfl, ?hy6⟩) hHeld ?rst6
  case hy6 => (intro wx hSw; (try dsimp only at hSw); go_simp; try (with_reducible rfl))
  try simp only [List.getElem_toArray, List.getElem_cons_zero, List.getElem_cons_succ, Act.put, List.setIfInBounds_toArray, List.set_cons_zero, List.set_cons_succ]
  refine wpAnyH_take (i := 6) (v := ?v7) rfl (by kernel_rfl) (by kernel_rfl) (by kernel_rfl) (fun _ _ _ h => h) (Or.inl ⟨by rfl, ?hy7⟩) hHeld ?rst7
  case hy7 => (intro wx hSw; (try dsimp only at hSw); go_simp; try (with_reducible rfl))
  try simp only [List.getElem_toArray, List.getElem_cons_zero, List.getElem_cons_succ, Act.put, List.setIfInBounds_toArray, List.set_cons_zero, List.set_cons_succ]
  refine wpAnyH_take (i := 7) (v := ?v8) rfl (by kernel_rfl) (by kernel_rfl) (by kernel_rfl) (fun _ _ _ h => h) (Or.inl ⟨by rfl, ?hy8⟩) hHeld ?rst8
  case hy8 => (intro wx hSw; (try dsimp only at hSw); go_simp; try (with_reducible rfl))
  try simp only [List.getElem_toArray, List.getElem_cons_zero, List.getElem_cons_succ, Act.put, List.setIfInBounds_toArray, List.set_cons_zero, List.set_cons_succ]
  refine wpAnyH_take (i := 8) (v := ?v9) rfl (by kernel_rfl) (by kernel_rfl) (by kernel_rfl) (fun _ _ _ h => h) (Or.inl ⟨by rfl, ?hy9⟩) hHeld ?rst9
  case hy9 => (intro wx hSw; (try dsimp only at hSw); go_simp; try (with_reducible rfl))
  try simp only [List.getElem_toArray, List.getElem_cons_zero, List.getElem_cons_succ, Act.put, List.setIfInBounds_toArray, List.set_cons_zero, List.set_cons_succ]
  refine wpAnyH_ready (rs := [9]) (by kernel_rfl) (by simp) ?_
  refine AllReadyH.cons rfl (fun K hK => ?_) AllReadyH.nil
  go_simp
  (go_at_call 82; refine (need_no' (decide_eq_false (Nat.not_lt.2 (by omega))) 5 _).mono ?_; rintro e w2 ⟨rfl, hw2⟩; subst w2; exact ⟨rfl, HPV.out.ext (ext_drew _), But3.of (bext HV.out (ext_drew _) HV.out.size), .inr ⟨by decide, rfl⟩⟩)
set_option maxRecDepth 100000 in
set_option maxHeartbeats 4000000 in
theorem step_sew_thr (q : Nat) (ob : Bool) (h : PmS g bs bu l.length N A cap fuel f m w) (ha : Ap w0.heap.size g bs bu) (hs : 0 ≤ m.s ∧ m.s < 100000) (hf : m.s < fuel) (hS : SSl w0 A l) (hw0 : Below w0.heap.size w0 w) (h0 : 0 ≤ m.h) (h8 : m.h < 8) (hq : q < l.length) (h6 : (⟨(q : Int), ob⟩ : Mv).thr l ≠ m.h) :
    Calls Try.prog 81 #[.pointer (some ⟨g, 0, none⟩), (⟨3, (q : Int), ob⟩ : Opr).val] w fun e w' => PmS g bs bu l.length N A cap fuel f m w' ∧ But3 g bs bu w w' ∧ StE 6 e := by
  have H6 := Lib.hid h6
  clear h6
  have HB0 := Lib.hid (ext_alloc w (.cells #[.int .i64 3, .int .i64 (q : Int), .bool ob] 128))
  have HP := Lib.hid (h.ext HB0.out)
  have HO := Lib.hid (Bk.new 128 w #[.int .i64 3, .int .i64 (q : Int), .bool ob])
  obtain ⟨f1, f2, f3⟩ := HP.out.1.facts
  obtain ⟨ms, ma, mh, mk, msw, mus⟩ := m
  try dsimp only at hf
  try dsimp only at h0
  try dsimp only at h1
  try dsimp only at h8
  dsimp only at f1 hs ⊢
  clear h
  show Calls Try.prog 81 #[.pointer (some ⟨g, 0, none⟩), .agg #[.int .i64 3, .int .i64 (q : Int), .bool ob]] w _
  go_enter Try.func81, Try.ntmps81
  go_wp2
  go_quiet (exact Calls.quiet_of_same (need_yes 10 _))
  obtain ⟨V, hV⟩ : ∃ V, V = (w.alloc (.cells #[.int .i64 3, .int .i64 (q : Int), .bool ob] 128)).drewN nq := ⟨_, rfl⟩
  have HV := Lib.hid (show Below w.heap.size w V from by rw [hV]; exact bdrewN HB0.out _)
  have HPV := Lib.hid (show PmS g bs bu l.length N A cap fuel f ⟨ms, ma, mh, mk, msw, mus⟩ V from by rw [hV]; exact HP.out.ext (ext_drewN _ _))
  have HOV := Lib.hid (show Bk 128 V w.heap.size #[.int .i64 3, .int .i64 (q : Int), .bool ob] from by rw [hV]; exact HO.out.ext (ext_drewN _ _))
  rw [← hV]
  clear hV f1 f2 f3 HB0 HP HO
  obtain ⟨f1, f2, f3⟩ := HPV.out.1.facts
  obtain ⟨e1, e2, e3⟩ := HOV.out.facts
  dsimp only at f1
  go_upto_region 16 with (go_at_call 82; refine (need_yes _ _).mono ?_; rintro e w2 ⟨rfl, hw2⟩; subst w2)
  have h1 : (q : Int) < (l.length : Int) := by omega
  go_quiet (exact Calls.quiet_of_same (need_yes 5 _))
  obtain ⟨X, hX⟩ : ∃ X, X = V.drewN nq := ⟨_, rfl⟩
  have HX := Lib.hid (show Below w.heap.size w X from by rw [hX]; exact bdrewN HV.out _)
  have HPX := Lib.hid (show PmS g bs bu l.length N A cap fuel f ⟨ms, ma, mh, mk, msw, mus⟩ X from by rw [hX]; exact HPV.out.ext (ext_drewN _ _))
  have HOX := Lib.hid (HOV.out.ext (ext_drewN V nq))
  rw [← hX] at HOX ⊢
  clear hX f1 f2 f3 e1 e2 e3 HV HPV HOV
  obtain ⟨f1, f2, f3⟩ := HPX.out.1.facts
  obtain ⟨e1, e2, e3⟩ := HOX.out.facts
  dsimp only at f1
  go_upto_region 17 with (fail)
  have hx17 : Below w0.heap.size w0 X := hw0.trans (HX.out.mono hw0.size)
  rcases hS.ext hx17 with hnil | ⟨b3, off3, rfl, hblt3, hc3⟩
  · rw [hnil] at hq; simp at hq
  obtain ⟨c1, c2, c3, c4⟩ := hc3 q hq
  obtain ⟨sm, hsm⟩ : ∃ sm, sm = l[q] := ⟨_, rfl⟩
  rw [← hsm] at c1 c2 c3 c4
  have HSM := Lib.hid hsm
  obtain ⟨sa, sb, sn, st⟩ := sm
  dsimp only at c1 c2 c3 c4
  clear hsm hc3
  have hqi : (q : Int) < (l.length : Int) := by omega
  have HK := Lib.hid (show ∀ wx, Below X.heap.size X wx → (Below X.heap.size X wx ∧ wx.cell? ⟨g, 8, none⟩ = some (.slice (some ⟨b3, off3, none⟩) l.length cap) ∧ wx.cell? ⟨w.heap.size, 1, none⟩ = some (.int .i64 (q : Int)) ∧ wx.cell? ⟨b3, off3 + q * 4, none⟩ = some (.int .i64 sa) ∧ wx.cell? ⟨b3, off3 + q * 4 + 1, none⟩ = some (.int .i64 sb) ∧ wx.cell? ⟨b3, off3 + q * 4 + 2, none⟩ = some (.int .i64 sn) ∧ wx.cell? ⟨b3, off3 + q * 4 + 3, none⟩ = some (.int .i64 st)) from fun wx h1 =>
    ⟨h1, (HPX.out.ext h1).1.cell 8, (HOX.out.ext h1).cell 1, (h1.cell (p := ⟨b3, _, none⟩) hblt3).trans c1, (h1.cell (p := ⟨b3, _, none⟩) hblt3).trans c2, (h1.cell (p := ⟨b3, _, none⟩) hblt3).trans c3, (h1.cell (p := ⟨b3, _, none⟩) hblt3).trans c4⟩)
  go_region_held3 (fun wx => Below X.heap.size X wx ∧ wx.cell? ⟨g, 8, none⟩ = some (.slice (some ⟨b3, off3, none⟩) l.length cap) ∧ wx.cell? ⟨w.heap.size, 1, none⟩ = some (.int .i64 (q : Int)) ∧ wx.cell? ⟨b3, off3 + q * 4, none⟩ = some (.int .i64 sa) ∧ wx.cell? ⟨b3, off3 + q * 4 + 1, none⟩ = some (.int .i64 sb) ∧ wx.cell? ⟨b3, off3 + q * 4 + 2, none⟩ = some (.int .i64 sn) ∧ wx.cell? ⟨b3, off3 + q * 4 + 3, none⟩ = some (.int .i64 st))
    (first | assumption | exact HK.out _ (ext_drew _) | exact HK.out _ (ext_alloc _ _) | exact HK.out _ (ext_trans (ext_drew _) (ext_alloc _ _)) | exact HK.out _ (bext (And.left (by assumption)) (ext_alloc _ _) (Below.size (And.left (by assumption)))) | exact HK.out _ (Below.setCell (And.left (by assumption)) (Nat.le_refl _) _))
    (fail)
  go_wp2
  have hx18 : Below w.heap.size w ((X.alloc (.cells #[.int .i64 sa, .int .i64 sb, .int .i64 sn, .int .i64 st] 106)).drew) := bext HX.out (ext_trans (ext_alloc _ _) (ext_drew _)) HX.out.size
  have hp18 := HPX.out.ext (ext_trans (ext_alloc X (.cells #[.int .i64 sa, .int .i64 sb, .int .i64 sn, .int .i64 st] 106)) (ext_drew _))
  have ho18 := HOX.out.ext (ext_trans (ext_alloc X (.cells #[.int .i64 sa, .int .i64 sb, .int .i64 sn, .int .i64 st] 106)) (ext_drew _))
  have hs18 := (Bk.new 106 X #[.int .i64 sa, .int .i64 sb, .int .i64 sn, .int .i64 st]).ext (ext_drew _)
  obtain ⟨Y, hY⟩ : ∃ Y, Y = (X.alloc (.cells #[.int .i64 sa, .int .i64 sb, .int .i64 sn, .int .i64 st] 106)).drew := ⟨_, rfl⟩
  rw [← hY] at hx18 hp18 ho18 hs18 ⊢
  have HY := Lib.hid hx18
  have HPY := Lib.hid hp18
  have HOY := Lib.hid ho18
  have hsb : X.heap.size < Y.heap.size := hs18.lt
  obtain ⟨y, hy⟩ : ∃ y, y = X.heap.size := ⟨_, rfl⟩
  rw [← hy] at hs18 ⊢
  have hgy : y ≠ g ∧ y ≠ bs ∧ y ≠ bu := by
    have h1 := HPX.out.1.lt
    have h2 := HPX.out.2.1.lt
    have h3 := HPX.out.2.2.lt
    omega
  have HGY := Lib.hid hgy
  have HSY := Lib.hid hs18
  clear hY hy hx18 hp18 ho18 hs18 hsb hgy f1 f2 f3 e1 e2 e3 c1 c2 c3 c4 HK HX HPX HOX
  obtain ⟨f1, f2, f3⟩ := HPY.out.1.facts
  obtain ⟨e1, e2, e3⟩ := HOY.out.facts
  obtain ⟨s1, s2, s3⟩ := HSY.out.facts
  dsimp only at f1
  have h6 : (st == mh) = false := by
    have h := H6.out
    unfold Mv.thr at h
    rw [Int.toNat_natCast, List.getElem?_eq_getElem hq, ← HSM.out] at h
    simpa using h
  refine wp_region_held_drew (S := (fun wx => wx.cell? ⟨g, 3, none⟩ = some (.int .i64 mh) ∧ wx.cell? ⟨y, 3, none⟩ = some (.int .i64 st))) (by kernel_rfl) (⟨f1 3, s1 3⟩) (fun hHeld => ?_)
  refine wpAnyH_take (i := 0) (v := ?v1) rfl (by kernel_rfl) (by kernel_rfl) (by kernel_rfl) (fun _ _ _ h => h) (Or.inl ⟨by rfl, ?hy1⟩) hHeld ?rst1
  case hy1 => (intro wx hSw; (try dsimp only at hSw); go_simp; try (with_reducible rfl))
  try simp only [List.getElem_toArray, List.getElem_cons_zero, Act.put, List.setIfInBounds_toArray, List.set_cons_zero, List.set_cons_succ]
  refine wpAnyH_take (i := 1) (v := ?v2) rfl (by kernel_rfl) (by kernel_rfl) (by kernel_rfl) (fun _ _ _ h => h) (Or.inl ⟨by rfl, ?hy2⟩) hHeld ?rst2
  case hy2 => (intro wx hSw; (try dsimp only at hSw); go_simp; try (with_reducible rfl))
  try simp only [List.getElem_toArray, List.getElem_cons_zero, List.getElem_cons_succ, Act.put, List.setIfInBounds_toArray, List.set_cons_zero, List.set_cons_succ]
  refine wpAnyH_take (i := 2) (v := ?v3) rfl (by kernel_rfl) (by kernel_rfl) (by kernel_rfl) (fun _ _ _ h => h) (Or.inl ⟨by rfl, ?hy3⟩) hHeld ?rst3
  case hy3 => (intro wx hSw; (try dsimp only at hSw); go_simp; try (with_reducible rfl))
  try simp only [List.getElem_toArray, List.getElem_cons_zero, List.getElem_cons_succ, Act.put, List.setIfInBounds_toArray, List.set_cons_zero, List.set_cons_succ]
  refine wpAnyH_take (i := 3) (v := ?v4) rfl (by kernel_rfl) (by kernel_rfl) (by kernel_rfl) (fun _ _ _ h => h) (Or.inl ⟨by rfl, ?hy4⟩) hHeld ?rst4
  case hy4 => (intro wx hSw; (try dsimp only at hSw); go_simp; try (with_reducible rfl))
  try simp only [List.getElem_toArray, List.getElem_cons_zero, List.getElem_cons_succ, Act.put, List.setIfInBounds_toArray, List.set_cons_zero, List.set_cons_succ]
  refine wpAnyH_take (i := 4) (v := ?v5) rfl (by kernel_rfl) (by kernel_rfl) (by kernel_rfl) (fun _ _ _ h => h) (Or.inl ⟨by rfl, ?hy5⟩) hHeld ?rst5
  case hy5 => (intro wx hSw; (try dsimp only at hSw); go_simp; try (with_reducible rfl))
  try simp only [List.getElem_toArray, List.getElem_cons_zero, List.getElem_cons_succ, Act.put, List.setIfInBounds_toArray, List.set_cons_zero, List.set_cons_succ]
  refine wpAnyH_take (i := 5) (v := ?v6) rfl (by kernel_rfl) (by kernel_rfl) (by kernel_rfl) (fun _ _ _ h => h) (Or.inl ⟨by rfl, ?hy6⟩) hHeld ?rst6
  case hy6 => (intro wx hSw; (try dsimp only at hSw); go_simp; try (with_reducible rfl))
  try simp only [List.getElem_toArray, List.getElem_cons_zero, List.getElem_cons_succ, Act.put, List.setIfInBounds_toArray, List.set_cons_zero, List.set_cons_succ]
  refine wpAnyH_take (i := 6) (v := ?v7) rfl (by kernel_rfl) (by kernel_rfl) (by kernel_rfl) (fun _ _ _ h => h) (Or.inl ⟨by rfl, ?hy7⟩) hHeld ?rst7
  case hy7 => (intro wx hSw; (try dsimp only at hSw); go_simp; try (with_reducible rfl))
  try simp only [List.getElem_toArray, List.getElem_cons_zero, List.getElem_cons_succ, Act.put, List.setIfInBounds_toArray, List.set_cons_zero, List.set_cons_succ]
  refine wpAnyH_take (i := 7) (v := ?v8) rfl (by kernel_rfl) (by kernel_rfl) (by kernel_rfl) (fun _ _ _ h => h) (Or.inl ⟨by rfl, ?hy8⟩) hHeld ?rst8
  case hy8 => (intro wx hSw; (try dsimp only at hSw); go_simp; try (with_reducible rfl))
  try simp only [List.getElem_toArray, List.getElem_cons_zero, List.getElem_cons_succ, Act.put, List.setIfInBounds_toArray, List.set_cons_zero, List.set_cons_succ]
  refine wpAnyH_ready (rs := [8]) (by kernel_rfl) (by simp) ?_
  refine AllReadyH.cons rfl (fun K hK => ?_) AllReadyH.nil
  go_simp
  (go_at_call 82; refine (need_no 6 _).mono ?_; rintro e w2 ⟨rfl, hw2⟩; subst w2; exact ⟨rfl, HPY.out.ext (ext_drew _), But3.of (bext HY.out (ext_drew _) HY.out.size), .inr ⟨by decide, rfl⟩⟩)
set_option maxRecDepth 100000 in
set_option maxHeartbeats 4000000 in
theorem step_sew_at (q : Nat) (ob : Bool) (h : PmS g bs bu l.length N A cap fuel f m w) (ha : Ap w0.heap.size g bs bu) (hs : 0 ≤ m.s ∧ m.s < 100000) (hf : m.s < fuel) (hS : SSl w0 A l) (hw0 : Below w0.heap.size w0 w) (hc : l.length ≤ cap) (hcm : cap ≤ 9223372036854775807) (h0 : 0 ≤ m.h) (h8 : m.h < 8) (hq : q < l.length) (h6 : (⟨(q : Int), ob⟩ : Mv).thr l = m.h) (h7 : m.a ≠ (⟨(q : Int), ob⟩ : Mv).from l) :
    Calls Try.prog 81 #[.pointer (some ⟨g, 0, none⟩), (⟨3, (q : Int), ob⟩ : Opr).val] w fun e w' => PmS g bs bu l.length N A cap fuel f m w' ∧ But3 g bs bu w w' ∧ StE 7 e := by
  have HGW := Lib.hid (show g < w.heap.size ∧ bs < w.heap.size ∧ bu < w.heap.size from ⟨h.1.lt, h.2.1.lt, h.2.2.lt⟩)
  have H6 := Lib.hid h6
  have H7 := Lib.hid h7
  clear h6 h7
  have HB0 := Lib.hid (ext_alloc w (.cells #[.int .i64 3, .int .i64 (q : Int), .bool ob] 128))
  have HP := Lib.hid (h.ext HB0.out)
  have HO := Lib.hid (Bk.new 128 w #[.int .i64 3, .int .i64 (q : Int), .bool ob])
  obtain ⟨f1, f2, f3⟩ := HP.out.1.facts
  obtain ⟨ms, ma, mh, mk, msw, mus⟩ := m
  try dsimp only at hf
  try dsimp only at h0
  try dsimp only at h1
  try dsimp only at h8
  dsimp only at f1 hs ⊢
  clear h
  show Calls Try.prog 81 #[.pointer (some ⟨g, 0, none⟩), .agg #[.int .i64 3, .int .i64 (q : Int), .bool ob]] w _
  go_enter Try.func81, Try.ntmps81
  go_wp2
  go_quiet (exact Calls.quiet_of_same (need_yes 10 _))
  obtain ⟨V, hV⟩ : ∃ V, V = (w.alloc (.cells #[.int .i64 3, .int .i64 (q : Int), .bool ob] 128)).drewN nq := ⟨_, rfl⟩
  have HV := Lib.hid (show Below w.heap.size w V from by rw [hV]; exact bdrewN HB0.out _)
  have HPV := Lib.hid (show PmS g bs bu l.length N A cap fuel f ⟨ms, ma, mh, mk, msw, mus⟩ V from by rw [hV]; exact HP.out.ext (ext_drewN _ _))
  have HOV := Lib.hid (show Bk 128 V w.heap.size #[.int .i64 3, .int .i64 (q : Int), .bool ob] from by rw [hV]; exact HO.out.ext (ext_drewN _ _))
  rw [← hV]
  clear hV f1 f2 f3 HB0 HP HO
  obtain ⟨f1, f2, f3⟩ := HPV.out.1.facts
  obtain ⟨e1, e2, e3⟩ := HOV.out.facts
  dsimp only at f1
  go_upto_region 16 with (go_at_call 82; refine (need_yes _ _).mono ?_; rintro e w2 ⟨rfl, hw2⟩; subst w2)
  have h1 : (q : Int) < (l.length : Int) := by omega
  go_quiet (exact Calls.quiet_of_same (need_yes 5 _))
  obtain ⟨X, hX⟩ : ∃ X, X = V.drewN nq := ⟨_, rfl⟩
  have HX := Lib.hid (show Below w.heap.size w X from by rw [hX]; exact bdrewN HV.out _)
  have HPX := Lib.hid (show PmS g bs bu l.length N A cap fuel f ⟨ms, ma, mh, mk, msw, mus⟩ X from by rw [hX]; exact HPV.out.ext (ext_drewN _ _))
  have HOX := Lib.hid (HOV.out.ext (ext_drewN V nq))
  rw [← hX] at HOX ⊢
  clear hX f1 f2 f3 e1 e2 e3 HV HPV HOV
  obtain ⟨f1, f2, f3⟩ := HPX.out.1.facts
  obtain ⟨e1, e2, e3⟩ := HOX.out.facts
  dsimp only at f1
  go_upto_region 17 with (fail)
  have hx17 : Below w0.heap.size w0 X := hw0.trans (HX.out.mono hw0.size)
  rcases hS.ext hx17 with hnil | ⟨b3, off3, rfl, hblt3, hc3⟩
  · rw [hnil] at hq; simp at hq
  obtain ⟨c1, c2, c3, c4⟩ := hc3 q hq
  obtain ⟨sm, hsm⟩ : ∃ sm, sm = l[q] := ⟨_, rfl⟩
  rw [← hsm] at c1 c2 c3 c4
  have HSM := Lib.hid hsm
  obtain ⟨sa, sb, sn, st⟩ := sm
  dsimp only at c1 c2 c3 c4
  clear hsm hc3
  have hqi : (q : Int) < (l.length : Int) := by omega
  have HK := Lib.hid (show ∀ wx, Below X.heap.size X wx → (Below X.heap.size X wx ∧ wx.cell? ⟨g, 8, none⟩ = some (.slice (some ⟨b3, off3, none⟩) l.length cap) ∧ wx.cell? ⟨w.heap.size, 1, none⟩ = some (.int .i64 (q : Int)) ∧ wx.cell? ⟨b3, off3 + q * 4, none⟩ = some (.int .i64 sa) ∧ wx.cell? ⟨b3, off3 + q * 4 + 1, none⟩ = some (.int .i64 sb) ∧ wx.cell? ⟨b3, off3 + q * 4 + 2, none⟩ = some (.int .i64 sn) ∧ wx.cell? ⟨b3, off3 + q * 4 + 3, none⟩ = some (.int .i64 st)) from fun wx h1 =>
    ⟨h1, (HPX.out.ext h1).1.cell 8, (HOX.out.ext h1).cell 1, (h1.cell (p := ⟨b3, _, none⟩) hblt3).trans c1, (h1.cell (p := ⟨b3, _, none⟩) hblt3).trans c2, (h1.cell (p := ⟨b3, _, none⟩) hblt3).trans c3, (h1.cell (p := ⟨b3, _, none⟩) hblt3).trans c4⟩)
  go_region_held3 (fun wx => Below X.heap.size X wx ∧ wx.cell? ⟨g, 8, none⟩ = some (.slice (some ⟨b3, off3, none⟩) l.length cap) ∧ wx.cell? ⟨w.heap.size, 1, none⟩ = some (.int .i64 (q : Int)) ∧ wx.cell? ⟨b3, off3 + q * 4, none⟩ = some (.int .i64 sa) ∧ wx.cell? ⟨b3, off3 + q * 4 + 1, none⟩ = some (.int .i64 sb) ∧ wx.cell? ⟨b3, off3 + q * 4 + 2, none⟩ = some (.int .i64 sn) ∧ wx.cell? ⟨b3, off3 + q * 4 + 3, none⟩ = some (.int .i64 st))
    (first | assumption | exact HK.out _ (ext_drew _) | exact HK.out _ (ext_alloc _ _) | exact HK.out _ (ext_trans (ext_drew _) (ext_alloc _ _)) | exact HK.out _ (bext (And.left (by assumption)) (ext_alloc _ _) (Below.size (And.left (by assumption)))) | exact HK.out _ (Below.setCell (And.left (by assumption)) (Nat.le_refl _) _))
    (fail)
  go_wp2
  have hx18 : Below w.heap.size w ((X.alloc (.cells #[.int .i64 sa, .int .i64 sb, .int .i64 sn, .int .i64 st] 106)).drew) := bext HX.out (ext_trans (ext_alloc _ _) (ext_drew _)) HX.out.size
  have hp18 := HPX.out.ext (ext_trans (ext_alloc X (.cells #[.int .i64 sa, .int .i64 sb, .int .i64 sn, .int .i64 st] 106)) (ext_drew _))
  have ho18 := HOX.out.ext (ext_trans (ext_alloc X (.cells #[.int .i64 sa, .int .i64 sb, .int .i64 sn, .int .i64 st] 106)) (ext_drew _))
  have hs18 := (Bk.new 106 X #[.int .i64 sa, .int .i64 sb, .int .i64 sn, .int .i64 st]).ext (ext_drew _)
  obtain ⟨Y, hY⟩ : ∃ Y, Y = (X.alloc (.cells #[.int .i64 sa, .int .i64 sb, .int .i64 sn, .int .i64 st] 106)).drew := ⟨_, rfl⟩
  rw [← hY] at hx18 hp18 ho18 hs18 ⊢
  have HY := Lib.hid hx18
  have HPY := Lib.hid hp18
  have HOY := Lib.hid ho18
  have hsb : X.heap.size < Y.heap.size := hs18.lt
  obtain ⟨y, hy⟩ : ∃ y, y = X.heap.size := ⟨_, rfl⟩
  rw [← hy] at hs18 ⊢
  have hgy : y ≠ g ∧ y ≠ bs ∧ y ≠ bu := by
    have h1 := HPX.out.1.lt
    have h2 := HPX.out.2.1.lt
    have h3 := HPX.out.2.2.lt
    omega
  have HGY := Lib.hid hgy
  have HSY := Lib.hid hs18
  clear hY hy hx18 hp18 ho18 hs18 hsb hgy f1 f2 f3 e1 e2 e3 c1 c2 c3 c4 HK HX HPX HOX
  obtain ⟨f1, f2, f3⟩ := HPY.out.1.facts
  obtain ⟨e1, e2, e3⟩ := HOY.out.facts
  obtain ⟨s1, s2, s3⟩ := HSY.out.facts
  dsimp only at f1
  have h6 : st = mh := by
    have h := H6.out
    unfold Mv.thr at h
    rw [Int.toNat_natCast, List.getElem?_eq_getElem hq, ← HSM.out] at h
    exact h
  subst h6
  go_quiet (exact Calls.quiet_of_same (need_yes 6 _))
  go_upto_region 19 with (fail)
  obtain ⟨Z, hZ⟩ : ∃ Z, Z = Y.drewN nq := ⟨_, rfl⟩
  have hz0 : Below Y.heap.size Y Z := by rw [hZ]; exact ext_drewN _ _
  have HZ := Lib.hid (bext HY.out hz0 HY.out.size)
  have HPZ := Lib.hid (HPY.out.ext hz0)
  have HOZ := Lib.hid (HOY.out.ext hz0)
  have HSZ := Lib.hid (HSY.out.ext hz0)
  rw [← hZ]
  clear hZ hz0 f1 f2 f3 e1 e2 e3 s1 s2 s3 HPY HOY HSY HY hblt3 hx17
  have HSL := Lib.hid (fun W (hW : Below w.heap.size w W) => hS.ext (hw0.trans (hW.mono hw0.size)))
  have HEN := Lib.hid (fun W h => ends_any N (some ⟨b3, off3, none⟩) cap l ⟨(q : Int), ob⟩ W hc hcm h ⟨Int.natCast_nonneg _, hqi⟩)
  obtain ⟨f1, f2, f3⟩ := HPZ.out.1.facts
  obtain ⟨e1, e2, e3⟩ := HOZ.out.facts
  dsimp only at f1
  have HK := Lib.hid (show ∀ wx, Below Z.heap.size Z wx → (Below Z.heap.size Z wx ∧ wx.cell? ⟨g, 7, none⟩ = some (.int .i64 N) ∧ wx.cell? ⟨g, 8, none⟩ = some (.slice (some ⟨b3, off3, none⟩) l.length cap) ∧ wx.cell? ⟨w.heap.size, 1, none⟩ = some (.int .i64 (q : Int)) ∧ wx.cell? ⟨w.heap.size, 2, none⟩ = some (.bool ob)) from fun wx h1 =>
    ⟨h1, (HPZ.out.ext h1).1.cell 7, (HPZ.out.ext h1).1.cell 8, (HOZ.out.ext h1).cell 1, (HOZ.out.ext h1).cell 2⟩)
  go_cut [6, 7] (fun z1 z2 wx => z1 = .int .i64 ((⟨(q : Int), ob⟩ : Mv).from l) ∧ z2 = .int .i64 ((⟨(q : Int), ob⟩ : Mv).to_ l) ∧ Below Z.heap.size Z wx)
  case first =>
    go_region_held3 (fun wx => Below Z.heap.size Z wx ∧ wx.cell? ⟨g, 7, none⟩ = some (.int .i64 N) ∧ wx.cell? ⟨g, 8, none⟩ = some (.slice (some ⟨b3, off3, none⟩) l.length cap) ∧ wx.cell? ⟨w.heap.size, 1, none⟩ = some (.int .i64 (q : Int)) ∧ wx.cell? ⟨w.heap.size, 2, none⟩ = some (.bool ob))
      (first | assumption | exact HK.out _ (ext_drew _) | exact HK.out _ (bext (And.left (by assumption)) (by assumption) (Below.size (And.left (by assumption)))) | exact HK.out _ (ext_trans (And.left (by assumption)) (by assumption)))
      ((go_at_call 73; refine (HEN.out _ ?_).mono ?_; exact HSL.out _ (bext HZ.out (And.left (by assumption)) HZ.out.size); rintro e w4 ⟨rfl, hx4⟩))
    all_goals
      go_wp2
      go_meet
      exact ⟨rfl, rfl, And.left (by assumption)⟩
  case rest =>
    obtain ⟨rfl, rfl, hx⟩ := hcut
    have HW1 := Lib.hid (bext HZ.out hx HZ.out.size)
    have HP1 := Lib.hid (HPZ.out.ext hx)
    have HO1 := Lib.hid (HOZ.out.ext hx)
    have HS1 := Lib.hid (HSZ.out.ext hx)
    clear f1 f2 f3 e1 e2 e3 HK HPZ HOZ HSZ HZ hx HSL HEN
    obtain ⟨f1, f2, f3⟩ := HP1.out.1.facts
    obtain ⟨e1, e2, e3⟩ := HO1.out.facts
    obtain ⟨s1, s2, s3⟩ := HS1.out.facts
    dsimp only at f1
    obtain ⟨fr, hfr⟩ : ∃ fr, fr = (⟨(q : Int), ob⟩ : Mv).from l := ⟨_, rfl⟩
    obtain ⟨to_, hto⟩ : ∃ to_, to_ = (⟨(q : Int), ob⟩ : Mv).to_ l := ⟨_, rfl⟩
    rw [← hfr] at H7
    go_upto_region 20 with (fail)
    rw [← hfr, ← hto]
    clear hfr
    have h7 : (ma == fr) = false := by have h := H7.out; simpa using h
    go_wp2_with (go_at_call 82; refine (need_no _ _).mono ?_; rintro e w2 ⟨rfl, hw2⟩; subst w2; exact ⟨rfl, HP1.out, But3.of HW1.out, .inr ⟨by decide, rfl⟩⟩)
set_option maxRecDepth 100000 in
set_option maxHeartbeats 4000000 in
theorem step_sew (q : Nat) (ob : Bool) (h : PmS g bs bu l.length N A cap fuel f m w) (ha : Ap w0.heap.size g bs bu) (hs : 0 ≤ m.s ∧ m.s < 100000) (hf : m.s < fuel) (hS : SSl w0 A l) (hw0 : Below w0.heap.size w0 w) (hc : l.length ≤ cap) (hcm : cap ≤ 9223372036854775807) (h0 : 0 ≤ m.h) (h8 : m.h < 8) (hq : q < l.length) (h6 : (⟨(q : Int), ob⟩ : Mv).thr l = m.h) (h7 : m.a = (⟨(q : Int), ob⟩ : Mv).from l) :
    Calls Try.prog 81 #[.pointer (some ⟨g, 0, none⟩), (⟨3, (q : Int), ob⟩ : Opr).val] w fun e w' => PmS g bs bu l.length N A cap fuel f { m.use (wrap64 (3 * (⟨(q : Int), ob⟩ : Mv).len l)) with sw := upd m.sw q (wrap64 (m.sw q + 1)), a := (⟨(q : Int), ob⟩ : Mv).to_ l, s := m.s + 1 } w' ∧ But3 g bs bu w w' ∧ StE 0 e := by
  have HGW := Lib.hid (show g < w.heap.size ∧ bs < w.heap.size ∧ bu < w.heap.size from ⟨h.1.lt, h.2.1.lt, h.2.2.lt⟩)
  have H6 := Lib.hid h6
  have H7 := Lib.hid h7
  clear h6 h7
  have HB0 := Lib.hid (ext_alloc w (.cells #[.int .i64 3, .int .i64 (q : Int), .bool ob] 128))
  have HP := Lib.hid (h.ext HB0.out)
  have HO := Lib.hid (Bk.new 128 w #[.int .i64 3, .int .i64 (q : Int), .bool ob])
  obtain ⟨f1, f2, f3⟩ := HP.out.1.facts
  obtain ⟨ms, ma, mh, mk, msw, mus⟩ := m
  try dsimp only at hf
  try dsimp only at h0
  try dsimp only at h1
  try dsimp only at h8
  dsimp only at f1 hs ⊢
  clear h
  show Calls Try.prog 81 #[.pointer (some ⟨g, 0, none⟩), .agg #[.int .i64 3, .int .i64 (q : Int), .bool ob]] w _
  go_enter Try.func81, Try.ntmps81
  go_wp2
  go_quiet (exact Calls.quiet_of_same (need_yes 10 _))
  obtain ⟨V, hV⟩ : ∃ V, V = (w.alloc (.cells #[.int .i64 3, .int .i64 (q : Int), .bool ob] 128)).drewN nq := ⟨_, rfl⟩
  have HV := Lib.hid (show Below w.heap.size w V from by rw [hV]; exact bdrewN HB0.out _)
  have HPV := Lib.hid (show PmS g bs bu l.length N A cap fuel f ⟨ms, ma, mh, mk, msw, mus⟩ V from by rw [hV]; exact HP.out.ext (ext_drewN _ _))
  have HOV := Lib.hid (show Bk 128 V w.heap.size #[.int .i64 3, .int .i64 (q : Int), .bool ob] from by rw [hV]; exact HO.out.ext (ext_drewN _ _))
  rw [← hV]
  clear hV f1 f2 f3 HB0 HP HO
  obtain ⟨f1, f2, f3⟩ := HPV.out.1.facts
  obtain ⟨e1, e2, e3⟩ := HOV.out.facts
  dsimp only at f1
  go_upto_region 16 with (go_at_call 82; refine (need_yes _ _).mono ?_; rintro e w2 ⟨rfl, hw2⟩; subst w2)
  have h1 : (q : Int) < (l.length : Int) := by omega
  go_quiet (exact Calls.quiet_of_same (need_yes 5 _))
  obtain ⟨X, hX⟩ : ∃ X, X = V.drewN nq := ⟨_, rfl⟩
  have HX := Lib.hid (show Below w.heap.size w X from by rw [hX]; exact bdrewN HV.out _)
  have HPX := Lib.hid (show PmS g bs bu l.length N A cap fuel f ⟨ms, ma, mh, mk, msw, mus⟩ X from by rw [hX]; exact HPV.out.ext (ext_drewN _ _))
  have HOX := Lib.hid (HOV.out.ext (ext_drewN V nq))
  rw [← hX] at HOX ⊢
  clear hX f1 f2 f3 e1 e2 e3 HV HPV HOV
  obtain ⟨f1, f2, f3⟩ := HPX.out.1.facts
  obtain ⟨e1, e2, e3⟩ := HOX.out.facts
  dsimp only at f1
  go_upto_region 17 with (fail)
  have hx17 : Below w0.heap.size w0 X := hw0.trans (HX.out.mono hw0.size)
  rcases hS.ext hx17 with hnil | ⟨b3, off3, rfl, hblt3, hc3⟩
  · rw [hnil] at hq; simp at hq
  obtain ⟨c1, c2, c3, c4⟩ := hc3 q hq
  obtain ⟨sm, hsm⟩ : ∃ sm, sm = l[q] := ⟨_, rfl⟩
  rw [← hsm] at c1 c2 c3 c4
  have HSM := Lib.hid hsm
  obtain ⟨sa, sb, sn, st⟩ := sm
  dsimp only at c1 c2 c3 c4
  clear hsm hc3
  have hqi : (q : Int) < (l.length : Int) := by omega
  have HK := Lib.hid (show ∀ wx, Below X.heap.size X wx → (Below X.heap.size X wx ∧ wx.cell? ⟨g, 8, none⟩ = some (.slice (some ⟨b3, off3, none⟩) l.length cap) ∧ wx.cell? ⟨w.heap.size, 1, none⟩ = some (.int .i64 (q : Int)) ∧ wx.cell? ⟨b3, off3 + q * 4, none⟩ = some (.int .i64 sa) ∧ wx.cell? ⟨b3, off3 + q * 4 + 1, none⟩ = some (.int .i64 sb) ∧ wx.cell? ⟨b3, off3 + q * 4 + 2, none⟩ = some (.int .i64 sn) ∧ wx.cell? ⟨b3, off3 + q * 4 + 3, none⟩ = some (.int .i64 st)) from fun wx h1 =>
    ⟨h1, (HPX.out.ext h1).1.cell 8, (HOX.out.ext h1).cell 1, (h1.cell (p := ⟨b3, _, none⟩) hblt3).trans c1, (h1.cell (p := ⟨b3, _, none⟩) hblt3).trans c2, (h1.cell (p := ⟨b3, _, none⟩) hblt3).trans c3, (h1.cell (p := ⟨b3, _, none⟩) hblt3).trans c4⟩)
  go_region_held3 (fun wx => Below X.heap.size X wx ∧ wx.cell? ⟨g, 8, none⟩ = some (.slice (some ⟨b3, off3, none⟩) l.length cap) ∧ wx.cell? ⟨w.heap.size, 1, none⟩ = some (.int .i64 (q : Int)) ∧ wx.cell? ⟨b3, off3 + q * 4, none⟩ = some (.int .i64 sa) ∧ wx.cell? ⟨b3, off3 + q * 4 + 1, none⟩ = some (.int .i64 sb) ∧ wx.cell? ⟨b3, off3 + q * 4 + 2, none⟩ = some (.int .i64 sn) ∧ wx.cell? ⟨b3, off3 + q * 4 + 3, none⟩ = some (.int .i64 st))
    (first | assumption | exact HK.out _ (ext_drew _) | exact HK.out _ (ext_alloc _ _) | exact HK.out _ (ext_trans (ext_drew _) (ext_alloc _ _)) | exact HK.out _ (bext (And.left (by assumption)) (ext_alloc _ _) (Below.size (And.left (by assumption)))) | exact HK.out _ (Below.setCell (And.left (by assumption)) (Nat.le_refl _) _))
    (fail)
  go_wp2
  have hx18 : Below w.heap.size w ((X.alloc (.cells #[.int .i64 sa, .int .i64 sb, .int .i64 sn, .int .i64 st] 106)).drew) := bext HX.out (ext_trans (ext_alloc _ _) (ext_drew _)) HX.out.size
  have hp18 := HPX.out.ext (ext_trans (ext_alloc X (.cells #[.int .i64 sa, .int .i64 sb, .int .i64 sn, .int .i64 st] 106)) (ext_drew _))
  have ho18 := HOX.out.ext (ext_trans (ext_alloc X (.cells #[.int .i64 sa, .int .i64 sb, .int .i64 sn, .int .i64 st] 106)) (ext_drew _))
  have hs18 := (Bk.new 106 X #[.int .i64 sa, .int .i64 sb, .int .i64 sn, .int .i64 st]).ext (ext_drew _)
  obtain ⟨Y, hY⟩ : ∃ Y, Y = (X.alloc (.cells #[.int .i64 sa, .int .i64 sb, .int .i64 sn, .int .i64 st] 106)).drew := ⟨_, rfl⟩
  rw [← hY] at hx18 hp18 ho18 hs18 ⊢
  have HY := Lib.hid hx18
  have HPY := Lib.hid hp18
  have HOY := Lib.hid ho18
  have hsb : X.heap.size < Y.heap.size := hs18.lt
  obtain ⟨y, hy⟩ : ∃ y, y = X.heap.size := ⟨_, rfl⟩
  rw [← hy] at hs18 ⊢
  have hgy : y ≠ g ∧ y ≠ bs ∧ y ≠ bu := by
    have h1 := HPX.out.1.lt
    have h2 := HPX.out.2.1.lt
    have h3 := HPX.out.2.2.lt
    omega
  have HGY := Lib.hid hgy
  have HSY := Lib.hid hs18
  clear hY hy hx18 hp18 ho18 hs18 hsb hgy f1 f2 f3 e1 e2 e3 c1 c2 c3 c4 HK HX HPX HOX
  obtain ⟨f1, f2, f3⟩ := HPY.out.1.facts
  obtain ⟨e1, e2, e3⟩ := HOY.out.facts
  obtain ⟨s1, s2, s3⟩ := HSY.out.facts
  dsimp only at f1
  have h6 : st = mh := by
    have h := H6.out
    unfold Mv.thr at h
    rw [Int.toNat_natCast, List.getElem?_eq_getElem hq, ← HSM.out] at h
    exact h
  subst h6
  go_quiet (exact Calls.quiet_of_same (need_yes 6 _))
  go_upto_region 19 with (fail)
  obtain ⟨Z, hZ⟩ : ∃ Z, Z = Y.drewN nq := ⟨_, rfl⟩
  have hz0 : Below Y.heap.size Y Z := by rw [hZ]; exact ext_drewN _ _
  have HZ := Lib.hid (bext HY.out hz0 HY.out.size)
  have HPZ := Lib.hid (HPY.out.ext hz0)
  have HOZ := Lib.hid (HOY.out.ext hz0)
  have HSZ := Lib.hid (HSY.out.ext hz0)
  rw [← hZ]
  clear hZ hz0 f1 f2 f3 e1 e2 e3 s1 s2 s3 HPY HOY HSY HY hblt3 hx17
  have HSL := Lib.hid (fun W (hW : Below w.heap.size w W) => hS.ext (hw0.trans (hW.mono hw0.size)))
  have HEN := Lib.hid (fun W h => ends_any N (some ⟨b3, off3, none⟩) cap l ⟨(q : Int), ob⟩ W hc hcm h ⟨Int.natCast_nonneg _, hqi⟩)
  obtain ⟨f1, f2, f3⟩ := HPZ.out.1.facts
  obtain ⟨e1, e2, e3⟩ := HOZ.out.facts
  dsimp only at f1
  have HK := Lib.hid (show ∀ wx, Below Z.heap.size Z wx → (Below Z.heap.size Z wx ∧ wx.cell? ⟨g, 7, none⟩ = some (.int .i64 N) ∧ wx.cell? ⟨g, 8, none⟩ = some (.slice (some ⟨b3, off3, none⟩) l.length cap) ∧ wx.cell? ⟨w.heap.size, 1, none⟩ = some (.int .i64 (q : Int)) ∧ wx.cell? ⟨w.heap.size, 2, none⟩ = some (.bool ob)) from fun wx h1 =>
    ⟨h1, (HPZ.out.ext h1).1.cell 7, (HPZ.out.ext h1).1.cell 8, (HOZ.out.ext h1).cell 1, (HOZ.out.ext h1).cell 2⟩)
  go_cut [6, 7] (fun z1 z2 wx => z1 = .int .i64 ((⟨(q : Int), ob⟩ : Mv).from l) ∧ z2 = .int .i64 ((⟨(q : Int), ob⟩ : Mv).to_ l) ∧ Below Z.heap.size Z wx)
  case first =>
    go_region_held3 (fun wx => Below Z.heap.size Z wx ∧ wx.cell? ⟨g, 7, none⟩ = some (.int .i64 N) ∧ wx.cell? ⟨g, 8, none⟩ = some (.slice (some ⟨b3, off3, none⟩) l.length cap) ∧ wx.cell? ⟨w.heap.size, 1, none⟩ = some (.int .i64 (q : Int)) ∧ wx.cell? ⟨w.heap.size, 2, none⟩ = some (.bool ob))
      (first | assumption | exact HK.out _ (ext_drew _) | exact HK.out _ (bext (And.left (by assumption)) (by assumption) (Below.size (And.left (by assumption)))) | exact HK.out _ (ext_trans (And.left (by assumption)) (by assumption)))
      ((go_at_call 73; refine (HEN.out _ ?_).mono ?_; exact HSL.out _ (bext HZ.out (And.left (by assumption)) HZ.out.size); rintro e w4 ⟨rfl, hx4⟩))
    all_goals
      go_wp2
      go_meet
      exact ⟨rfl, rfl, And.left (by assumption)⟩
  case rest =>
    obtain ⟨rfl, rfl, hx⟩ := hcut
    have HW1 := Lib.hid (bext HZ.out hx HZ.out.size)
    have HP1 := Lib.hid (HPZ.out.ext hx)
    have HO1 := Lib.hid (HOZ.out.ext hx)
    have HS1 := Lib.hid (HSZ.out.ext hx)
    clear f1 f2 f3 e1 e2 e3 HK HPZ HOZ HSZ HZ hx HSL HEN
    obtain ⟨f1, f2, f3⟩ := HP1.out.1.facts
    obtain ⟨e1, e2, e3⟩ := HO1.out.facts
    obtain ⟨s1, s2, s3⟩ := HS1.out.facts
    dsimp only at f1
    obtain ⟨fr, hfr⟩ : ∃ fr, fr = (⟨(q : Int), ob⟩ : Mv).from l := ⟨_, rfl⟩
    obtain ⟨to_, hto⟩ : ∃ to_, to_ = (⟨(q : Int), ob⟩ : Mv).to_ l := ⟨_, rfl⟩
    rw [← hfr] at H7
    go_upto_region 20 with (fail)
    rw [← hfr, ← hto]
    clear hfr
    have h7 : ma = fr := H7.out
    subst h7
    have hlen : (⟨(q : Int), ob⟩ : Mv).len l = sn := by
      unfold Mv.len
      rw [Int.toNat_natCast, List.getElem?_eq_getElem hq, ← HSM.out]
    go_upto_region 21 with (go_at_call 82; refine (need_yes _ _).mono ?_; rintro e w2 ⟨rfl, hw2⟩; subst w2)
    go_upto_region 22 with (go_at_call 93; refine (use_any (wrap64 (3 * sn)) HP1.out (ap0 ha) h0 h8).mono ?_; rintro e w3 ⟨rfl, hp3, hb3⟩)
    clear f1 f2 f3 e1 e2 e3 s1 s2 s3
    have HBZ := Lib.hid ((But3.of (g := g) (bs := bs) (bu := bu) HW1.out).trans hb3)
    have ho3 := hb3.bk HO1.out (by have := HGW.out; omega) (by have := HGW.out; omega) (by have := HGW.out; omega)
    obtain ⟨f1, f2, f3⟩ := hp3.1.facts
    dsimp only [Mc.use] at f1
    obtain ⟨e1, e2, e3⟩ := ho3.facts
    have w1 := hp3.2.1.cell hq
    have w2 := hp3.2.1.frozen q
    have w4 := hp3.2.1.lt
    dsimp only [Mc.use] at w1
    have HR0 := Lib.hid (hp3.setW ha q (wrap64 (msw q + 1)))
    have HB0 := Lib.hid (HBZ.out.set (k := bs) (j := q) (.inr (.inl rfl)) (.int .i64 (wrap64 (msw q + 1))))
    clear hp3 hb3 ho3
    go_cut [] (fun wx => PmS g bs bu l.length N (some ⟨b3, off3, none⟩) cap fuel f { (Mc.use ⟨ms, ma, st, mk, msw, mus⟩ (wrap64 (3 * sn))) with sw := upd msw q (wrap64 (msw q + 1)) } wx ∧ But3 g bs bu w wx)
    case first =>
      go_still_tail 11, (by kernel_rfl)
      go_wp2
      go_meet
      first
        | exact ⟨HR0.out, HB0.out⟩
        | exact ⟨HR0.out.ext (ext_drewN _ _), HB0.out.trans (But3.of (ext_drewN _ _))⟩
    case rest =>
      obtain ⟨hp4, hb4⟩ := hcut
      clear f1 f2 f3 e1 e2 e3 w1 w2 w4 HR0 HB0
      have HR := Lib.hid ((hp4.setA ha to_).setS ha (ms + 1))
      have HB := Lib.hid ((hb4.set (k := g) (j := 2) (.inl rfl) (.int .i64 to_)).set (k := g) (j := 1) (.inl rfl) (.int .i64 (ms + 1)))
      obtain ⟨f1, f2, f3⟩ := hp4.1.facts
      dsimp only [Mc.use] at f1
      clear hp4 hb4
      go_wp2
      go_end0
      subst hto
      exact ⟨HR.out, HB.out, .inl ⟨rfl, rfl⟩⟩
end
end Go.Proofs.Ytbhjhajnhpohlaa
