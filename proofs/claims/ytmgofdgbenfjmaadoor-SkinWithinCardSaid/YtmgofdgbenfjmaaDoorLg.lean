/- The order of Largest and slices.MinFunc by it, walked. Conditions: rectangles within a grid. -/
import Derived.Test.YtmgofdgbenfjmaaDoorSo
namespace Go.Proofs.YtmgofdgbenfjmaaDoor
open Go.RowKit

def lgC (r s : Rn) : Int := orI [cmpI ((s.a * s.b : Nat) : Int) ((r.a * r.b : Nat) : Int), cmpI r.y s.y, cmpI r.x s.x, cmpI s.a r.a]
theorem lgC_lt (r s : Rn) : (lgC r s < 0 ↔ btr r s) := by
  unfold lgC orI orI orI orI orI cmpI btr
  generalize s.a * s.b = p
  generalize r.a * r.b = q
  repeat' split
  all_goals omega
theorem btr_irr (r : Rn) : ¬ btr r r := by unfold btr; omega
theorem btr_tr {r s t : Rn} (h : btr r s) (h' : btr s t) : btr r t := by unfold btr at *; omega
/-- a rectangle of a grid -/
def SmR (r : Rn) : Prop := r.x ≤ 100 ∧ r.y ≤ 100 ∧ r.a ≤ 100 ∧ r.b ≤ 100
set_option maxRecDepth 100000 in
set_option maxHeartbeats 4000000 in
theorem larger_any (r s : Rn) (hr : SmR r) (hs : SmR s) (W : World) : Calls Tryd.prog 58 #[.agg #[.int .i64 (r.x : Int), .int .i64 (r.y : Int), .int .i64 (r.a : Int), .int .i64 (r.b : Int)], .agg #[.int .i64 (s.x : Int), .int .i64 (s.y : Int), .int .i64 (s.a : Int), .int .i64 (s.b : Int)]] W fun e w' => e = .returned (.int .i64 (lgC r s)) ∧ Below W.heap.size W w' := by
  have HC1 := Lib.hid (fun V => compare_any ((s.a * s.b : Nat) : Int) ((r.a * r.b : Nat) : Int) V)
  have HC2 := Lib.hid (fun V => compare_any (r.y : Int) (s.y : Int) V)
  have HC3 := Lib.hid (fun V => compare_any (r.x : Int) (s.x : Int) V)
  have HC4 := Lib.hid (fun V => compare_any (s.a : Int) (r.a : Int) V)
  have HBF := Lib.hid (show lgC r s = orI [cmpI ((s.a * s.b : Nat) : Int) ((r.a * r.b : Nat) : Int), cmpI r.y s.y, cmpI r.x s.x, cmpI s.a r.a] from rfl)
  obtain ⟨bf, hbf⟩ : ∃ bf, bf = lgC r s := ⟨_, rfl⟩
  rw [← hbf] at HBF ⊢
  clear hbf
  obtain ⟨x1, y1, a1, b1⟩ := r
  obtain ⟨x2, y2, a2, b2⟩ := s
  unfold SmR at hr hs
  dsimp only at HC1 HC2 HC3 HC4 HBF hr hs ⊢
  obtain ⟨p1, hp1⟩ : ∃ p1, p1 = a1 * b1 := ⟨_, rfl⟩
  obtain ⟨p2, hp2⟩ : ∃ p2, p2 = a2 * b2 := ⟨_, rfl⟩
  rw [← hp1, ← hp2] at HC1 HBF
  have hp1i : (a1 : Int) * (b1 : Int) = (p1 : Int) := by rw [hp1]; push_cast; rfl
  have hp2i : (a2 : Int) * (b2 : Int) = (p2 : Int) := by rw [hp2]; push_cast; rfl
  have hp1b : p1 ≤ 100 * 100 := by rw [hp1]; exact Nat.mul_le_mul hr.2.2.1 hr.2.2.2
  have hp2b : p2 ≤ 100 * 100 := by rw [hp2]; exact Nat.mul_le_mul hs.2.2.1 hs.2.2.2
  have hw1 : IntKind.i64.wrap (p1 : Int) = (p1 : Int) := by simp [IntKind.wrap, IntKind.bits, IntKind.signed]; omega
  have hw2 : IntKind.i64.wrap (p2 : Int) = (p2 : Int) := by simp [IntKind.wrap, IntKind.bits, IntKind.signed]; omega
  obtain ⟨c1, hc1⟩ : ∃ c1, c1 = cmpI (p2 : Int) (p1 : Int) := ⟨_, rfl⟩
  obtain ⟨c2, hc2⟩ : ∃ c2, c2 = cmpI (y1 : Int) (y2 : Int) := ⟨_, rfl⟩
  obtain ⟨c3, hc3⟩ : ∃ c3, c3 = cmpI (x1 : Int) (x2 : Int) := ⟨_, rfl⟩
  obtain ⟨c4, hc4⟩ : ∃ c4, c4 = cmpI (a2 : Int) (a1 : Int) := ⟨_, rfl⟩
  rw [← hc1, ← hc2, ← hc3, ← hc4] at HBF
  rw [← hc1] at HC1
  rw [← hc2] at HC2
  rw [← hc3] at HC3
  rw [← hc4] at HC4
  clear hc1 hc2 hc3 hc4 hp1 hp2 hr hs
  have HOR := Lib.hid (show ∀ b V, Bk 3 V b #[.int .i64 c1, .int .i64 c2, .int .i64 c3, .int .i64 c4] → Calls Tryd.prog 59 #[.slice (some ⟨b, 0, none⟩) 4 4] V fun e w' => e = .returned (.int .i64 bf) ∧ w' = V from fun b V hV => by rw [HBF.out]; exact or_any b [c1, c2, c3, c4] (by simp) V hV)
  have HB1 := Lib.hid ((Bk.new 31 W #[.int .i64 (x1 : Int), .int .i64 (y1 : Int), .int .i64 (a1 : Int), .int .i64 (b1 : Int)]).alloc (.cells #[.int .i64 (x2 : Int), .int .i64 (y2 : Int), .int .i64 (a2 : Int), .int .i64 (b2 : Int)] 31))
  have hb2 := Bk.new 31 (W.alloc (.cells #[.int .i64 (x1 : Int), .int .i64 (y1 : Int), .int .i64 (a1 : Int), .int .i64 (b1 : Int)] 31)) #[.int .i64 (x2 : Int), .int .i64 (y2 : Int), .int .i64 (a2 : Int), .int .i64 (b2 : Int)]
  rw [World.size_alloc] at hb2
  have HB2 := Lib.hid hb2
  have HXV := Lib.hid (ext_trans (ext_alloc W (.cells #[.int .i64 (x1 : Int), .int .i64 (y1 : Int), .int .i64 (a1 : Int), .int .i64 (b1 : Int)] 31)) (ext_alloc _ (.cells #[.int .i64 (x2 : Int), .int .i64 (y2 : Int), .int .i64 (a2 : Int), .int .i64 (b2 : Int)] 31)))
  clear hb2
  obtain ⟨p, hp⟩ : ∃ p, p = W.heap.size := ⟨_, rfl⟩
  obtain ⟨q, hq⟩ : ∃ q, q = W.heap.size + 1 := ⟨_, rfl⟩
  obtain ⟨V, hV⟩ : ∃ V, V = (W.alloc (.cells #[.int .i64 (x1 : Int), .int .i64 (y1 : Int), .int .i64 (a1 : Int), .int .i64 (b1 : Int)] 31)).alloc (.cells #[.int .i64 (x2 : Int), .int .i64 (y2 : Int), .int .i64 (a2 : Int), .int .i64 (b2 : Int)] 31) := ⟨_, rfl⟩
  have HF := Lib.hid (fun (X : World) (hX : Below V.heap.size V X) => show X.cell? ⟨p, 0, none⟩ = some (.int .i64 (x1 : Int)) ∧ X.cell? ⟨p, 1, none⟩ = some (.int .i64 (y1 : Int)) ∧ X.cell? ⟨p, 2, none⟩ = some (.int .i64 (a1 : Int)) ∧ X.cell? ⟨p, 3, none⟩ = some (.int .i64 (b1 : Int)) ∧ X.cell? ⟨q, 0, none⟩ = some (.int .i64 (x2 : Int)) ∧ X.cell? ⟨q, 1, none⟩ = some (.int .i64 (y2 : Int)) ∧ X.cell? ⟨q, 2, none⟩ = some (.int .i64 (a2 : Int)) ∧ X.cell? ⟨q, 3, none⟩ = some (.int .i64 (b2 : Int)) ∧ p < X.heap.size ∧ q < X.heap.size from by
    have h1 := HB1.out
    have h2 := HB2.out
    rw [← hV] at h1 h2
    rw [← hp] at h1
    rw [← hq] at h2
    have h1 := h1.ext hX
    have h2 := h2.ext hX
    exact ⟨h1.cell 0, h1.cell 1, h1.cell 2, h1.cell 3, h2.cell 0, h2.cell 1, h2.cell 2, h2.cell 3, h1.lt, h2.lt⟩)
  rw [← hV] at HXV
  clear HB1 HB2
  go_enter Tryd.func58, Tryd.ntmps58
  go_upto_region 1 with (fail)
  rw [← hV, ← hq, ← hp]
  clear hV hp hq
  refine wp_region_T (S := fun W => Below V.heap.size V W) 28 (by kernel_rfl) (ext_drew _) (fun hHeld => ?_)
  refine wpAnyT_take (i := 0) (v := ?v1) [] rfl (by kernel_rfl) (fun _ _ _ h => h) (Or.inl ⟨by rfl, ?hy1⟩) hHeld ?rst1
  case hy1 => (intro wx hSw; obtain ⟨q1, q2, q3, q4, q5, q6, q7, q8, q9, q10⟩ := HF.out wx hSw; go_simp; try (with_reducible rfl))
  try simp only [List.getElem_toArray, List.getElem_cons_zero, Act.put, List.setIfInBounds_toArray, List.set_cons_zero, List.set_cons_succ]
  refine wpAnyT_take (i := 1) (v := ?v2) [] rfl (by kernel_rfl) (fun _ _ _ h => h) (Or.inl ⟨by rfl, ?hy2⟩) hHeld ?rst2
  case hy2 => (intro wx hSw; obtain ⟨q1, q2, q3, q4, q5, q6, q7, q8, q9, q10⟩ := HF.out wx hSw; go_simp; try (with_reducible rfl))
  try simp only [List.getElem_toArray, List.getElem_cons_zero, List.getElem_cons_succ, Act.put, List.setIfInBounds_toArray, List.set_cons_zero, List.set_cons_succ]
  refine wpAnyT_take (i := 2) (v := ?v3) [] rfl (by kernel_rfl) (fun _ _ _ h => h) (Or.inl ⟨by rfl, ?hy3⟩) hHeld ?rst3
  case hy3 => (intro wx hSw; obtain ⟨q1, q2, q3, q4, q5, q6, q7, q8, q9, q10⟩ := HF.out wx hSw; go_simp; try (with_reducible rfl))
  try simp only [List.getElem_toArray, List.getElem_cons_zero, List.getElem_cons_succ, Act.put, List.setIfInBounds_toArray, List.set_cons_zero, List.set_cons_succ]
  refine wpAnyT_take (i := 3) (v := ?v4) [] rfl (by kernel_rfl) (fun _ _ _ h => h) (Or.inl ⟨by rfl, ?hy4⟩) hHeld ?rst4
  case hy4 => (intro wx hSw; obtain ⟨q1, q2, q3, q4, q5, q6, q7, q8, q9, q10⟩ := HF.out wx hSw; go_simp; try (with_reducible rfl))
  try simp only [List.getElem_toArray, List.getElem_cons_zero, List.getElem_cons_succ, Act.put, List.setIfInBounds_toArray, List.set_cons_zero, List.set_cons_succ]
  refine wpAnyT_take (i := 4) (v := ?v5) [] rfl (by kernel_rfl) (fun _ _ _ h => h) (Or.inl ⟨by rfl, ?hy5⟩) hHeld ?rst5
  case hy5 => (intro wx hSw; obtain ⟨q1, q2, q3, q4, q5, q6, q7, q8, q9, q10⟩ := HF.out wx hSw; go_simp; try (with_reducible rfl))
  try simp only [List.getElem_toArray, List.getElem_cons_zero, List.getElem_cons_succ, Act.put, List.setIfInBounds_toArray, List.set_cons_zero, List.set_cons_succ]
  refine wpAnyT_take (i := 5) (v := ?v6) [] rfl (by kernel_rfl) (fun _ _ _ h => h) (Or.inl ⟨by rfl, ?hy6⟩) hHeld ?rst6
  case hy6 => (intro wx hSw; obtain ⟨q1, q2, q3, q4, q5, q6, q7, q8, q9, q10⟩ := HF.out wx hSw; go_simp; try (with_reducible rfl))
  try simp only [List.getElem_toArray, List.getElem_cons_zero, List.getElem_cons_succ, Act.put, List.setIfInBounds_toArray, List.set_cons_zero, List.set_cons_succ]
  refine wpAnyT_take (i := 6) (v := ?v7) [] rfl (by kernel_rfl) (fun _ _ _ h => h) (Or.inl ⟨by rfl, ?hy7⟩) hHeld ?rst7
  case hy7 => (intro wx hSw; obtain ⟨q1, q2, q3, q4, q5, q6, q7, q8, q9, q10⟩ := HF.out wx hSw; go_simp; try (with_reducible rfl))
  try simp only [List.getElem_toArray, List.getElem_cons_zero, List.getElem_cons_succ, Act.put, List.setIfInBounds_toArray, List.set_cons_zero, List.set_cons_succ]
  refine wpAnyT_take (i := 7) (v := ?v8) [] rfl (by kernel_rfl) (fun _ _ _ h => h) (Or.inl ⟨by rfl, ?hy8⟩) hHeld ?rst8
  case hy8 => (intro wx hSw; obtain ⟨q1, q2, q3, q4, q5, q6, q7, q8, q9, q10⟩ := HF.out wx hSw; go_simp; try (with_reducible rfl))
  try simp only [List.getElem_toArray, List.getElem_cons_zero, List.getElem_cons_succ, Act.put, List.setIfInBounds_toArray, List.set_cons_zero, List.set_cons_succ]
  refine wpAnyT_take (i := 8) (v := ?v9) [] rfl (by kernel_rfl) (fun _ _ _ h => h) (Or.inl ⟨by rfl, ?hy9⟩) hHeld ?rst9
  case hy9 => (intro wx hSw; obtain ⟨q1, q2, q3, q4, q5, q6, q7, q8, q9, q10⟩ := HF.out wx hSw; go_simp; try (with_reducible rfl))
  try simp only [List.getElem_toArray, List.getElem_cons_zero, List.getElem_cons_succ, Act.put, List.setIfInBounds_toArray, List.set_cons_zero, List.set_cons_succ]
  refine wpAnyT_take (i := 9) (v := ?v10) [] rfl (by kernel_rfl) (fun _ _ _ h => h) (Or.inl ⟨by rfl, ?hy10⟩) hHeld ?rst10
  case hy10 => (intro wx hSw; obtain ⟨q1, q2, q3, q4, q5, q6, q7, q8, q9, q10⟩ := HF.out wx hSw; go_simp; try (with_reducible rfl))
  try simp only [List.getElem_toArray, List.getElem_cons_zero, List.getElem_cons_succ, Act.put, List.setIfInBounds_toArray, List.set_cons_zero, List.set_cons_succ]
  refine wpAnyT_take (i := 11) (v := ?v11) [] rfl (by kernel_rfl) (fun _ _ _ h => h) (Or.inl ⟨by rfl, ?hy11⟩) hHeld ?rst11
  case hy11 => (intro wx hSw; obtain ⟨q1, q2, q3, q4, q5, q6, q7, q8, q9, q10⟩ := HF.out wx hSw; go_simp; try (with_reducible rfl))
  try simp only [List.getElem_toArray, List.getElem_cons_zero, List.getElem_cons_succ, Act.put, List.setIfInBounds_toArray, List.set_cons_zero, List.set_cons_succ]
  refine wpAnyT_take (i := 12) (v := ?v12) [] rfl (by kernel_rfl) (fun _ _ _ h => h) (Or.inl ⟨by rfl, ?hy12⟩) hHeld ?rst12
  case hy12 => (intro wx hSw; obtain ⟨q1, q2, q3, q4, q5, q6, q7, q8, q9, q10⟩ := HF.out wx hSw; go_simp; try (with_reducible rfl))
  try simp only [List.getElem_toArray, List.getElem_cons_zero, List.getElem_cons_succ, Act.put, List.setIfInBounds_toArray, List.set_cons_zero, List.set_cons_succ]
  refine wpAnyT_take (i := 13) (v := ?v13) [] rfl (by kernel_rfl) (fun _ _ _ h => h) (Or.inl ⟨by rfl, ?hy13⟩) hHeld ?rst13
  case hy13 => (intro wx hSw; obtain ⟨q1, q2, q3, q4, q5, q6, q7, q8, q9, q10⟩ := HF.out wx hSw; go_simp; try (with_reducible rfl))
  try simp only [List.getElem_toArray, List.getElem_cons_zero, List.getElem_cons_succ, Act.put, List.setIfInBounds_toArray, List.set_cons_zero, List.set_cons_succ]
  refine wpAnyT_take (i := 14) (v := ?v14) [] rfl (by kernel_rfl) (fun _ _ _ h => h) (Or.inl ⟨by rfl, ?hy14⟩) hHeld ?rst14
  case hy14 => (intro wx hSw; obtain ⟨q1, q2, q3, q4, q5, q6, q7, q8, q9, q10⟩ := HF.out wx hSw; go_simp; try (with_reducible rfl))
  try simp only [List.getElem_toArray, List.getElem_cons_zero, List.getElem_cons_succ, Act.put, List.setIfInBounds_toArray, List.set_cons_zero, List.set_cons_succ]
  refine wpAnyT_take (i := 16) (v := ?v15) [] rfl (by kernel_rfl) (fun _ _ _ h => h) (Or.inl ⟨by rfl, ?hy15⟩) hHeld ?rst15
  case hy15 => (intro wx hSw; obtain ⟨q1, q2, q3, q4, q5, q6, q7, q8, q9, q10⟩ := HF.out wx hSw; go_simp; try (with_reducible rfl))
  try simp only [List.getElem_toArray, List.getElem_cons_zero, List.getElem_cons_succ, Act.put, List.setIfInBounds_toArray, List.set_cons_zero, List.set_cons_succ]
  refine wpAnyT_take (i := 17) (v := ?v16) [] rfl (by kernel_rfl) (fun _ _ _ h => h) (Or.inl ⟨by rfl, ?hy16⟩) hHeld ?rst16
  case hy16 => (intro wx hSw; obtain ⟨q1, q2, q3, q4, q5, q6, q7, q8, q9, q10⟩ := HF.out wx hSw; go_simp; try (with_reducible rfl))
  try simp only [List.getElem_toArray, List.getElem_cons_zero, List.getElem_cons_succ, Act.put, List.setIfInBounds_toArray, List.set_cons_zero, List.set_cons_succ]
  refine wpAnyT_take (i := 18) (v := ?v17) [] rfl (by kernel_rfl) (fun _ _ _ h => h) (Or.inl ⟨by rfl, ?hy17⟩) hHeld ?rst17
  case hy17 => (intro wx hSw; obtain ⟨q1, q2, q3, q4, q5, q6, q7, q8, q9, q10⟩ := HF.out wx hSw; go_simp; try (with_reducible rfl))
  try simp only [List.getElem_toArray, List.getElem_cons_zero, List.getElem_cons_succ, Act.put, List.setIfInBounds_toArray, List.set_cons_zero, List.set_cons_succ]
  refine wpAnyT_take (i := 19) (v := ?v18) [] rfl (by kernel_rfl) (fun _ _ _ h => h) (Or.inl ⟨by rfl, ?hy18⟩) hHeld ?rst18
  case hy18 => (intro wx hSw; obtain ⟨q1, q2, q3, q4, q5, q6, q7, q8, q9, q10⟩ := HF.out wx hSw; go_simp; try (with_reducible rfl))
  try simp only [List.getElem_toArray, List.getElem_cons_zero, List.getElem_cons_succ, Act.put, List.setIfInBounds_toArray, List.set_cons_zero, List.set_cons_succ]
  refine wpAnyT_take (i := 21) (v := ?v19) [] rfl (by kernel_rfl) (fun _ _ _ h => h) (Or.inl ⟨by rfl, ?hy19⟩) hHeld ?rst19
  case hy19 => (intro wx hSw; obtain ⟨q1, q2, q3, q4, q5, q6, q7, q8, q9, q10⟩ := HF.out wx hSw; go_simp; try (with_reducible rfl))
  try simp only [List.getElem_toArray, List.getElem_cons_zero, List.getElem_cons_succ, Act.put, List.setIfInBounds_toArray, List.set_cons_zero, List.set_cons_succ]
  refine wpAnyT_take (i := 22) (v := ?v20) [] rfl (by kernel_rfl) (fun _ _ _ h => h) (Or.inl ⟨by rfl, ?hy20⟩) hHeld ?rst20
  case hy20 => (intro wx hSw; obtain ⟨q1, q2, q3, q4, q5, q6, q7, q8, q9, q10⟩ := HF.out wx hSw; go_simp; try (with_reducible rfl))
  try simp only [List.getElem_toArray, List.getElem_cons_zero, List.getElem_cons_succ, Act.put, List.setIfInBounds_toArray, List.set_cons_zero, List.set_cons_succ]
  refine wpAnyT_take (i := 23) (v := ?v21) [] rfl (by kernel_rfl) (fun _ _ _ h => h) (Or.inl ⟨by rfl, ?hy21⟩) hHeld ?rst21
  case hy21 => (intro wx hSw; obtain ⟨q1, q2, q3, q4, q5, q6, q7, q8, q9, q10⟩ := HF.out wx hSw; go_simp; try (with_reducible rfl))
  try simp only [List.getElem_toArray, List.getElem_cons_zero, List.getElem_cons_succ, Act.put, List.setIfInBounds_toArray, List.set_cons_zero, List.set_cons_succ]
  refine wpAnyT_take (i := 24) (v := ?v22) [] rfl (by kernel_rfl) (fun _ _ _ h => h) (Or.inl ⟨by rfl, ?hy22⟩) hHeld ?rst22
  case hy22 => (intro wx hSw; obtain ⟨q1, q2, q3, q4, q5, q6, q7, q8, q9, q10⟩ := HF.out wx hSw; go_simp; try (with_reducible rfl))
  try simp only [List.getElem_toArray, List.getElem_cons_zero, List.getElem_cons_succ, Act.put, List.setIfInBounds_toArray, List.set_cons_zero, List.set_cons_succ]
  refine wpAnyT_one (i := 10) (by kernel_rfl) rfl (fun K hK => ?_)
  go_simp
  go_at_call 60
  refine (HC1.out _).mono ?_
  rintro e1 w1 ⟨rfl, rfl⟩
  refine hK.out _ _ (hHeld) (fun hHeld => ?_)
  clear hK K
  try simp only [List.getElem_toArray, List.getElem_cons_zero, List.getElem_cons_succ, Act.put, List.setIfInBounds_toArray, List.set_cons_zero, List.set_cons_succ]
  refine wpAnyT_one (i := 15) (by kernel_rfl) rfl (fun K hK => ?_)
  go_simp
  go_at_call 60
  refine (HC2.out _).mono ?_
  rintro e2 w2 ⟨rfl, rfl⟩
  refine hK.out _ _ (hHeld) (fun hHeld => ?_)
  clear hK K
  try simp only [List.getElem_toArray, List.getElem_cons_zero, List.getElem_cons_succ, Act.put, List.setIfInBounds_toArray, List.set_cons_zero, List.set_cons_succ]
  refine wpAnyT_one (i := 20) (by kernel_rfl) rfl (fun K hK => ?_)
  go_simp
  go_at_call 60
  refine (HC3.out _).mono ?_
  rintro e3 w3 ⟨rfl, rfl⟩
  refine hK.out _ _ (hHeld) (fun hHeld => ?_)
  clear hK K
  try simp only [List.getElem_toArray, List.getElem_cons_zero, List.getElem_cons_succ, Act.put, List.setIfInBounds_toArray, List.set_cons_zero, List.set_cons_succ]
  refine wpAnyT_one (i := 25) (by kernel_rfl) rfl (fun K hK => ?_)
  go_simp
  go_at_call 60
  refine (HC4.out _).mono ?_
  rintro e4 w4 ⟨rfl, rfl⟩
  refine hK.out _ _ (hHeld) (fun hHeld => ?_)
  clear hK K
  try simp only [List.getElem_toArray, List.getElem_cons_zero, List.getElem_cons_succ, Act.put, List.setIfInBounds_toArray, List.set_cons_zero, List.set_cons_succ]
  refine wpAnyT_one (i := 26) (by kernel_rfl) rfl (fun K hK => ?_)
  go_simp
  refine hK.out _ _ (ext_trans (ext_alloc V _) (ext_drew _)) (fun hHeld => ?_)
  clear hK K
  try simp only [List.getElem_toArray, List.getElem_cons_zero, List.getElem_cons_succ, Act.put, List.setIfInBounds_toArray, List.set_cons_zero, List.set_cons_succ]
  refine wpAnyT_one (i := 27) (by kernel_rfl) rfl (fun K hK => ?_)
  go_simp
  go_at_call 59
  refine (HOR.out _ _ ((Bk.new 3 V _).ext (ext_drew _))).mono ?_
  rintro e5 w5 ⟨rfl, rfl⟩
  refine hK.out _ _ (hHeld) (fun hHeld => ?_)
  clear hK K
  try simp only [List.getElem_toArray, List.getElem_cons_zero, List.getElem_cons_succ, Act.put, List.setIfInBounds_toArray, List.set_cons_zero, List.set_cons_succ]
  refine wpAnyT_last (by kernel_rfl) (by kernel_rfl) rfl (fun K hK => ?_)
  go_simp
  refine hK.out _ _ ?_
  clear hK K
  go_wp2
  go_ret
  exact ⟨rfl, ext_trans HXV.out (ext_trans (ext_alloc V _) (ext_drew _))⟩
theorem rect_put (W : World) (q : Nat) {r : Rn} (s : Rn) (h : Bk 31 W q (rcs r).toArray) : Bk 31 ((((W.setCell ⟨q, 0, none⟩ (.int .i64 (s.x : Int))).setCell ⟨q, 1, none⟩ (.int .i64 (s.y : Int))).setCell ⟨q, 2, none⟩ (.int .i64 (s.a : Int))).setCell ⟨q, 3, none⟩ (.int .i64 (s.b : Int))) q (rcs s).toArray := by
  exact (((h.set 0 _).set 1 _).set 2 _).set 3 _
set_option maxRecDepth 100000 in
set_option maxHeartbeats 8000000 in
theorem minfunc_any (A : Option Addr) (cap : Nat) (l : List Rn) (w : World) (hl : l.length ≤ 10000000) (h0 : l ≠ []) (hs : ∀ r ∈ l, SmR r) (h : RSl w A l) :
    Calls Tryd.prog 57 #[.slice A l.length cap, .func (.func 58) #[] #[]] w fun e w' => Below w.heap.size w w' ∧ ∃ m : Rn, e = .returned (.agg #[.int .i64 (m.x : Int), .int .i64 (m.y : Int), .int .i64 (m.a : Int), .int .i64 (m.b : Int)]) ∧ m ∈ l ∧ ∀ s ∈ l, ¬ btr s m := by
  rcases h with h | ⟨b, off, rfl, hblt, hcl⟩
  · exact absurd h h0
  have hl1 : 1 ≤ l.length := by
    cases l with
    | nil => exact absurd rfl h0
    | cons _ _ => simp
  have HC := Lib.hid (show ∀ W, Below w.heap.size w W → b < W.heap.size ∧ ∀ j (hj : j < l.length), W.cell? ⟨b, off + j * 4, none⟩ = some (.int .i64 (l[j].x : Int)) ∧ W.cell? ⟨b, off + j * 4 + 1, none⟩ = some (.int .i64 (l[j].y : Int)) ∧ W.cell? ⟨b, off + j * 4 + 2, none⟩ = some (.int .i64 (l[j].a : Int)) ∧ W.cell? ⟨b, off + j * 4 + 3, none⟩ = some (.int .i64 (l[j].b : Int)) from fun W hW =>
    ⟨Nat.lt_of_lt_of_le hblt hW.size, fun j hj => ⟨(hW.cell (p := ⟨b, _, none⟩) hblt).trans (hcl j hj).1, (hW.cell (p := ⟨b, _, none⟩) hblt).trans (hcl j hj).2.1, (hW.cell (p := ⟨b, _, none⟩) hblt).trans (hcl j hj).2.2.1, (hW.cell (p := ⟨b, _, none⟩) hblt).trans (hcl j hj).2.2.2⟩⟩)
  have HS := Lib.hid hs
  obtain ⟨r0, hr0⟩ : ∃ r0, r0 = l[0]'(by omega) := ⟨_, rfl⟩
  have hx0 := ext_alloc w (.cells #[.int .i64 0, .int .i64 0, .int .i64 0, .int .i64 0] 31)
  have HZ := Lib.hid (Bk.new 31 w #[.int .i64 0, .int .i64 0, .int .i64 0, .int .i64 0])
  obtain ⟨hb0, hcl0⟩ := HC.out _ hx0
  obtain ⟨c1, c2, c3, c4⟩ := hcl0 0 (by omega)
  simp only [Nat.zero_mul, Nat.add_zero] at c1 c2 c3 c4
  rw [← hr0] at c1 c2 c3 c4
  have HR0 := Lib.hid hr0
  have HX0 := Lib.hid hx0
  obtain ⟨x0, y0, a0, b0⟩ := r0
  dsimp only at c1 c2 c3 c4
  have HXM := Lib.hid (ext_alloc (w.alloc (.cells #[.int .i64 0, .int .i64 0, .int .i64 0, .int .i64 0] 31)) (.cells #[.int .i64 (x0 : Int), .int .i64 (y0 : Int), .int .i64 (a0 : Int), .int .i64 (b0 : Int)] 31))
  have HM0 := Lib.hid (Bk.new 31 (w.alloc (.cells #[.int .i64 0, .int .i64 0, .int .i64 0, .int .i64 0] 31)) #[.int .i64 (x0 : Int), .int .i64 (y0 : Int), .int .i64 (a0 : Int), .int .i64 (b0 : Int)])
  have hl1I : ¬ (l.length : Int) < 1 := by omega
  clear hcl hs h0 hcl0 hr0 hx0 hblt
  go_enter Tryd.func57, Tryd.ntmps57
  go_upto_region 4 with (fail)
  obtain ⟨rp, hrp⟩ : ∃ rp, rp = w.heap.size := ⟨_, rfl⟩
  obtain ⟨mq, hmq⟩ : ∃ mq, mq = w.heap.size + 1 := ⟨_, rfl⟩
  obtain ⟨w2, hw2⟩ : ∃ w2, w2 = (w.alloc (.cells #[.int .i64 0, .int .i64 0, .int .i64 0, .int .i64 0] 31)).alloc (.cells #[.int .i64 (x0 : Int), .int .i64 (y0 : Int), .int .i64 (a0 : Int), .int .i64 (b0 : Int)] 31) := ⟨_, rfl⟩
  have HZ2 := Lib.hid (HZ.out.ext HXM.out)
  have HB2 := Lib.hid (bext HX0.out HXM.out HX0.out.size)
  have hm0 := HM0.out
  rw [World.size_alloc] at hm0
  rw [← hw2] at hm0 HZ2 HB2 ⊢
  rw [← hmq] at hm0 ⊢
  rw [← hrp] at HZ2 ⊢
  have hrw : w.heap.size ≤ rp := by omega
  have hmw : w.heap.size ≤ mq := by omega
  have hrm : rp ≠ mq := by omega
  have HM2 := Lib.hid hm0
  clear hw2 hmq hrp hm0 HZ HX0 HXM HM0 c1 c2 c3 c4 hb0
  go_wp2_with (fail)
  go_loopg [6] l.length (fun gg z wr => ∃ (i : Nat) (m : Rn), z = .int .i64 i ∧ 1 ≤ i ∧ i ≤ l.length ∧ gg = l.length - i + 1 ∧ Bk 31 wr mq (rcs m).toArray ∧ Bk 31 wr rp #[.int .i64 0, .int .i64 0, .int .i64 0, .int .i64 0] ∧ Below w.heap.size w wr ∧ m ∈ l ∧ ∀ j (hj : j < l.length), j < i → ¬ btr l[j] m)
  case atStart => exact ⟨1, ⟨x0, y0, a0, b0⟩, rfl, Nat.le_refl _, hl1, by omega, HM2.out, HZ2.out, HB2.out, by rw [HR0.out]; exact List.getElem_mem _, fun j hj hji => by
    obtain rfl : j = 0 := by omega
    rw [HR0.out]; exact btr_irr _⟩
  case round =>
    obtain ⟨i, m, rfl, hi1, hi2, hgg, hm, hz, hb, hml, hmin⟩ := hrel
    have HG := Lib.hid hgg
    have HM := Lib.hid hm
    have HZ := Lib.hid hz
    have HB := Lib.hid hb
    have HML := Lib.hid hml
    have HMN := Lib.hid hmin
    clear hgg hm hz hb hml hmin HM2 HZ2 HB2
    by_cases hlt : i < l.length
    · have hltI : (i : Int) < (l.length : Int) := by omega
      obtain ⟨r, hr⟩ : ∃ r, r = l[i] := ⟨_, rfl⟩
      have HRI := Lib.hid hr
      have HLG := Lib.hid (fun W => larger_any r m (HS.out r (by rw [hr]; exact List.getElem_mem _)) (HS.out m HML.out) W)
      have HLT := Lib.hid (lgC_lt r m)
      obtain ⟨cv, hcv⟩ : ∃ cv, cv = lgC r m := ⟨_, rfl⟩
      rw [← hcv] at HLG HLT
      have HF7 := Lib.hid (show ∀ W, Below wr.heap.size wr W → W.cell? ⟨b, off + i * 4, none⟩ = some (.int .i64 (r.x : Int)) ∧ W.cell? ⟨b, off + i * 4 + 1, none⟩ = some (.int .i64 (r.y : Int)) ∧ W.cell? ⟨b, off + i * 4 + 2, none⟩ = some (.int .i64 (r.a : Int)) ∧ W.cell? ⟨b, off + i * 4 + 3, none⟩ = some (.int .i64 (r.b : Int)) ∧ W.cell? ⟨mq, 0, none⟩ = some (.int .i64 (m.x : Int)) ∧ W.cell? ⟨mq, 1, none⟩ = some (.int .i64 (m.y : Int)) ∧ W.cell? ⟨mq, 2, none⟩ = some (.int .i64 (m.a : Int)) ∧ W.cell? ⟨mq, 3, none⟩ = some (.int .i64 (m.b : Int)) ∧ b < W.heap.size ∧ mq < W.heap.size from fun W hW => by
        obtain ⟨h1, h2⟩ := HC.out W (bext HB.out hW HB.out.size)
        obtain ⟨k1, k2, k3, k4⟩ := h2 i hlt
        rw [← hr] at k1 k2 k3 k4
        have h3 := HM.out.ext hW
        exact ⟨k1, k2, k3, k4, h3.cell 0, h3.cell 1, h3.cell 2, h3.cell 3, h1, h3.lt⟩)
      have HPUT := Lib.hid (fun W (hW : Below wr.heap.size wr W) => rect_put W mq r (HM.out.ext hW))
      clear hr hcv
      by_cases hcn : cv < 0
      · have HBT := Lib.hid (HLT.out.1 hcn)
        go_upto_region 7 with (fail)
        obtain ⟨q1, q2, q3, q4, q5, q6, q7, q8, q9, q10⟩ := HF7.out wr (Below.refl _ _)
        refine wp_region_T (S := fun W => Below wr.heap.size wr W) 7 (by kernel_rfl) (ext_drew _) (fun hHeld => ?_)
        refine wpAnyT_take (i := 0) (v := ?v23) [6] rfl (by kernel_rfl) (fun _ _ _ h => h) (Or.inl ⟨by rfl, ?hy23⟩) hHeld ?rst23
        case hy23 => (intro wx hSw; obtain ⟨q1, q2, q3, q4, q5, q6, q7, q8, q9, q10⟩ := HF7.out wx hSw; go_simp; try (with_reducible rfl))
        try simp only [List.getElem_toArray, List.getElem_cons_zero, Act.put, List.setIfInBounds_toArray, List.set_cons_zero, List.set_cons_succ]
        refine wpAnyT_take (i := 1) (v := ?v24) [6, 4, 3] rfl (by kernel_rfl) (fun _ _ _ h => h) (Or.inl ⟨by rfl, ?hy24⟩) hHeld ?rst24
        case hy24 => (intro wx hSw; obtain ⟨q1, q2, q3, q4, q5, q6, q7, q8, q9, q10⟩ := HF7.out wx hSw; go_simp; try (with_reducible rfl))
        try simp only [List.getElem_toArray, List.getElem_cons_zero, List.getElem_cons_succ, Act.put, List.setIfInBounds_toArray, List.set_cons_zero, List.set_cons_succ]
        refine wpAnyT_take (i := 2) (v := ?v25) [6, 4, 3] rfl (by kernel_rfl) (fun _ _ _ h => h) (Or.inl ⟨by rfl, ?hy25⟩) hHeld ?rst25
        case hy25 => (intro wx hSw; obtain ⟨q1, q2, q3, q4, q5, q6, q7, q8, q9, q10⟩ := HF7.out wx hSw; go_simp; try (with_reducible rfl))
        try simp only [List.getElem_toArray, List.getElem_cons_zero, List.getElem_cons_succ, Act.put, List.setIfInBounds_toArray, List.set_cons_zero, List.set_cons_succ]
        refine wpAnyT_take (i := 3) (v := ?v26) [6, 4] rfl (by kernel_rfl) (fun _ _ _ h => h) (Or.inl ⟨by rfl, ?hy26⟩) hHeld ?rst26
        case hy26 => (intro wx hSw; obtain ⟨q1, q2, q3, q4, q5, q6, q7, q8, q9, q10⟩ := HF7.out wx hSw; go_simp; try (with_reducible rfl))
        try simp only [List.getElem_toArray, List.getElem_cons_zero, List.getElem_cons_succ, Act.put, List.setIfInBounds_toArray, List.set_cons_zero, List.set_cons_succ]
        refine wpAnyT_take (i := 4) (v := ?v27) [6] rfl (by kernel_rfl) (fun _ _ _ h => h) (Or.inl ⟨by rfl, ?hy27⟩) hHeld ?rst27
        case hy27 => (intro wx hSw; obtain ⟨q1, q2, q3, q4, q5, q6, q7, q8, q9, q10⟩ := HF7.out wx hSw; go_simp; try (with_reducible rfl))
        try simp only [List.getElem_toArray, List.getElem_cons_zero, List.getElem_cons_succ, Act.put, List.setIfInBounds_toArray, List.set_cons_zero, List.set_cons_succ]
        refine wpAnyT_take (i := 5) (v := ?v28) [6] rfl (by kernel_rfl) (fun _ _ _ h => h) (Or.inl ⟨by rfl, ?hy28⟩) hHeld ?rst28
        case hy28 => (intro wx hSw; obtain ⟨q1, q2, q3, q4, q5, q6, q7, q8, q9, q10⟩ := HF7.out wx hSw; go_simp; try (with_reducible rfl))
        try simp only [List.getElem_toArray, List.getElem_cons_zero, List.getElem_cons_succ, Act.put, List.setIfInBounds_toArray, List.set_cons_zero, List.set_cons_succ]
        refine wpAnyT_one (i := 6) (by kernel_rfl) rfl (fun K hK => ?_)
        go_simp
        go_at_call 58
        refine (HLG.out _).mono ?_
        rintro e9 w9 ⟨rfl, hx9⟩
        have B9 := bext hHeld hx9 hHeld.size
        clear hx9
        refine hK.out _ _ (B9) (fun hHeld => ?_)
        clear hK K
        try simp only [List.getElem_toArray, List.getElem_cons_zero, List.getElem_cons_succ, Act.put, List.setIfInBounds_toArray, List.set_cons_zero, List.set_cons_succ]
        refine wpAnyT_last (by kernel_rfl) (by kernel_rfl) rfl (fun K hK => ?_)
        go_simp
        refine hK.out _ _ ?_
        clear hK K
        clear q1 q2 q3 q4 q5 q6 q7 q8 q9 q10
        obtain ⟨q1, q2, q3, q4, q5, q6, q7, q8, q9, q10⟩ := HF7.out w9 hHeld
        have p2 := (HM.out.ext hHeld).frozen
        have HP9 := Lib.hid (HPUT.out w9 hHeld)
        have HZ9 := Lib.hid (HZ.out.ext hHeld)
        have HB9 := Lib.hid (bext HB.out hHeld HB.out.size)
        go_wp2
        go_roundg (l.length - (i + 1) + 1)
        case measure => have := HG.out; omega
        case rel => exact ⟨i + 1, r, by go_num, by omega, by omega, rfl, HP9.out, ((((HZ9.out.set_ne hrm _).set_ne hrm _).set_ne hrm _).set_ne hrm _), ((((HB9.out.setCell hmw _).setCell hmw _).setCell hmw _).setCell hmw _), by rw [HRI.out]; exact List.getElem_mem _, fun j hj hji hbt => by
          by_cases e : j = i
          · subst e; rw [← HRI.out] at hbt; exact btr_irr _ hbt
          · exact HMN.out j hj (by omega) (btr_tr hbt HBT.out)⟩
      · have HBT := Lib.hid (fun h => hcn (HLT.out.2 h))
        go_upto_region 7 with (fail)
        obtain ⟨q1, q2, q3, q4, q5, q6, q7, q8, q9, q10⟩ := HF7.out wr (Below.refl _ _)
        refine wp_region_T (S := fun W => Below wr.heap.size wr W) 7 (by kernel_rfl) (ext_drew _) (fun hHeld => ?_)
        refine wpAnyT_take (i := 0) (v := ?v29) [6] rfl (by kernel_rfl) (fun _ _ _ h => h) (Or.inl ⟨by rfl, ?hy29⟩) hHeld ?rst29
        case hy29 => (intro wx hSw; obtain ⟨q1, q2, q3, q4, q5, q6, q7, q8, q9, q10⟩ := HF7.out wx hSw; go_simp; try (with_reducible rfl))
        try simp only [List.getElem_toArray, List.getElem_cons_zero, Act.put, List.setIfInBounds_toArray, List.set_cons_zero, List.set_cons_succ]
        refine wpAnyT_take (i := 1) (v := ?v30) [6, 4, 3] rfl (by kernel_rfl) (fun _ _ _ h => h) (Or.inl ⟨by rfl, ?hy30⟩) hHeld ?rst30
        case hy30 => (intro wx hSw; obtain ⟨q1, q2, q3, q4, q5, q6, q7, q8, q9, q10⟩ := HF7.out wx hSw; go_simp; try (with_reducible rfl))
        try simp only [List.getElem_toArray, List.getElem_cons_zero, List.getElem_cons_succ, Act.put, List.setIfInBounds_toArray, List.set_cons_zero, List.set_cons_succ]
        refine wpAnyT_take (i := 2) (v := ?v31) [6, 4, 3] rfl (by kernel_rfl) (fun _ _ _ h => h) (Or.inl ⟨by rfl, ?hy31⟩) hHeld ?rst31
        case hy31 => (intro wx hSw; obtain ⟨q1, q2, q3, q4, q5, q6, q7, q8, q9, q10⟩ := HF7.out wx hSw; go_simp; try (with_reducible rfl))
        try simp only [List.getElem_toArray, List.getElem_cons_zero, List.getElem_cons_succ, Act.put, List.setIfInBounds_toArray, List.set_cons_zero, List.set_cons_succ]
        refine wpAnyT_take (i := 3) (v := ?v32) [6, 4] rfl (by kernel_rfl) (fun _ _ _ h => h) (Or.inl ⟨by rfl, ?hy32⟩) hHeld ?rst32
        case hy32 => (intro wx hSw; obtain ⟨q1, q2, q3, q4, q5, q6, q7, q8, q9, q10⟩ := HF7.out wx hSw; go_simp; try (with_reducible rfl))
        try simp only [List.getElem_toArray, List.getElem_cons_zero, List.getElem_cons_succ, Act.put, List.setIfInBounds_toArray, List.set_cons_zero, List.set_cons_succ]
        refine wpAnyT_take (i := 4) (v := ?v33) [6] rfl (by kernel_rfl) (fun _ _ _ h => h) (Or.inl ⟨by rfl, ?hy33⟩) hHeld ?rst33
        case hy33 => (intro wx hSw; obtain ⟨q1, q2, q3, q4, q5, q6, q7, q8, q9, q10⟩ := HF7.out wx hSw; go_simp; try (with_reducible rfl))
        try simp only [List.getElem_toArray, List.getElem_cons_zero, List.getElem_cons_succ, Act.put, List.setIfInBounds_toArray, List.set_cons_zero, List.set_cons_succ]
        refine wpAnyT_take (i := 5) (v := ?v34) [6] rfl (by kernel_rfl) (fun _ _ _ h => h) (Or.inl ⟨by rfl, ?hy34⟩) hHeld ?rst34
        case hy34 => (intro wx hSw; obtain ⟨q1, q2, q3, q4, q5, q6, q7, q8, q9, q10⟩ := HF7.out wx hSw; go_simp; try (with_reducible rfl))
        try simp only [List.getElem_toArray, List.getElem_cons_zero, List.getElem_cons_succ, Act.put, List.setIfInBounds_toArray, List.set_cons_zero, List.set_cons_succ]
        refine wpAnyT_one (i := 6) (by kernel_rfl) rfl (fun K hK => ?_)
        go_simp
        go_at_call 58
        refine (HLG.out _).mono ?_
        rintro e9 w9 ⟨rfl, hx9⟩
        have B9 := bext hHeld hx9 hHeld.size
        clear hx9
        refine hK.out _ _ (B9) (fun hHeld => ?_)
        clear hK K
        try simp only [List.getElem_toArray, List.getElem_cons_zero, List.getElem_cons_succ, Act.put, List.setIfInBounds_toArray, List.set_cons_zero, List.set_cons_succ]
        refine wpAnyT_last (by kernel_rfl) (by kernel_rfl) rfl (fun K hK => ?_)
        go_simp
        refine hK.out _ _ ?_
        clear hK K
        go_wp2
        go_roundg (l.length - (i + 1) + 1)
        case measure => have := HG.out; omega
        case rel => exact ⟨i + 1, m, by go_num, by omega, by omega, rfl, HM.out.ext hHeld, HZ.out.ext hHeld, bext HB.out hHeld HB.out.size, HML.out, fun j hj hji => by
          by_cases e : j = i
          · subst e; rw [← HRI.out]; exact HBT.out
          · exact HMN.out j hj (by omega)⟩
    · have hltI : ¬ (i : Int) < (l.length : Int) := by omega
      obtain ⟨mx, my, ma, mb⟩ := m
      obtain ⟨q1, q2, q3⟩ := HM.out.facts
      have e0 := q1 0
      have e1 := q1 1
      have e2 := q1 2
      have e3 := q1 3
      simp only [rcs, List.getElem?_toArray, List.getElem?_cons_zero, List.getElem?_cons_succ] at e0 e1 e2 e3
      obtain ⟨r1, r2, r3⟩ := HZ.out.facts
      clear q1
      go_wp2
      have p1 := (four_set HZ.out (.int .i64 (mx : Int)) (.int .i64 (my : Int)) (.int .i64 (ma : Int)) (.int .i64 (mb : Int))).facts.1
      refine bodyPost_ret (v := .agg #[.int .i64 (mx : Int), .int .i64 (my : Int), .int .i64 (ma : Int), .int .i64 (mb : Int)]) (by simp [results, Tryd.results57, go_sem, p1]) rfl ?_
      refine ⟨four_b HB.out hrw _ _ _ _, ⟨mx, my, ma, mb⟩, rfl, HML.out, fun s hs => ?_⟩
      obtain ⟨j, hj, rfl⟩ := List.getElem_of_mem hs
      exact HMN.out j hj (by omega)
end Go.Proofs.YtmgofdgbenfjmaaDoor
