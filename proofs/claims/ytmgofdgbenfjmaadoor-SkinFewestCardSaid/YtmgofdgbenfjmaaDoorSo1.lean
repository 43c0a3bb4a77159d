/- Texts joined: So, Sq. Conditions: see each. -/
import Derived.Test.YtmgofdgbenfjmaaDoorFu1
import Derived.Test.YtmgofdgbenfjmaaDoorSoL
namespace Go.Proofs.YtmgofdgbenfjmaaDoor
open Go.RowKit

instance : Inhabited Rn := ⟨⟨0, 0, 0, 0⟩⟩
def cmpI (u v : Int) : Int := if u < v then -1 else if v < u then 1 else 0
theorem cmpI_bd (u v : Int) : -1 ≤ cmpI u v ∧ cmpI u v ≤ 1 := by unfold cmpI; split <;> (try split) <;> omega
/-- the first that is not 0 -/
def orI : List Int → Int
  | [] => 0
  | c :: l => if c = 0 then orI l else c
def befC (r s : Rn) : Int := orI [cmpI r.y s.y, cmpI r.x s.x, cmpI r.a s.a, cmpI r.b s.b]
theorem befC_lt (r s : Rn) : (befC r s < 0 ↔ rlt r s) := by
  unfold befC orI orI orI orI orI cmpI rlt
  repeat' split
  all_goals omega
theorem isnan_any (x : Int) (W : World) : Calls Tryd.prog 92 #[.int .i64 x] W fun e w' => e = .returned (.bool false) ∧ w' = W := by
  go_enter Tryd.func92, Tryd.ntmps92
  go_wp2
  refine bodyPost_ret (v := .bool false) (by simp [results, Tryd.results92, go_sem]) rfl ?_
  exact ⟨rfl, rfl⟩
set_option maxRecDepth 100000 in
theorem compare_any (x y : Int) (W : World) : Calls Tryd.prog 60 #[.int .i64 x, .int .i64 y] W fun e w' => e = .returned (.int .i64 (cmpI x y)) ∧ w' = W := by
  have HN := Lib.hid (fun x W => isnan_any x W)
  by_cases h1 : x < y
  · rw [show cmpI x y = -1 from by unfold cmpI; rw [if_pos h1]]
    go_enter Tryd.func60, Tryd.ntmps60
    go_wp2_with (go_at_call 92; refine (HN.out _ _).mono ?_; rintro e w' ⟨rfl, rfl⟩)
    go_ret
    exact ⟨rfl, rfl⟩
  · by_cases h2 : y < x
    · rw [show cmpI x y = 1 from by unfold cmpI; rw [if_neg h1, if_pos h2]]
      go_enter Tryd.func60, Tryd.ntmps60
      go_wp2_with (go_at_call 92; refine (HN.out _ _).mono ?_; rintro e w' ⟨rfl, rfl⟩)
      go_ret
      exact ⟨rfl, rfl⟩
    · rw [show cmpI x y = 0 from by unfold cmpI; rw [if_neg h1, if_neg h2]]
      go_enter Tryd.func60, Tryd.ntmps60
      go_wp2_with (go_at_call 92; refine (HN.out _ _).mono ?_; rintro e w' ⟨rfl, rfl⟩)
      go_ret
      exact ⟨rfl, rfl⟩
theorem orI_drop {l : List Int} {j : Nat} (hj : j < l.length) : orI (l.drop j) = if l[j] = 0 then orI (l.drop (j + 1)) else l[j] := by
  rw [List.drop_eq_getElem_cons hj]; rfl
set_option maxRecDepth 100000 in
set_option maxHeartbeats 1000000 in
theorem or_any (b : Nat) (l : List Int) (hl : l.length ≤ 100) (W : World) (h : Bk 3 W b (ints l).toArray) : Calls Tryd.prog 59 #[.slice (some ⟨b, 0, none⟩) l.length l.length] W fun e w' => e = .returned (.int .i64 (orI l)) ∧ w' = W := by
  have HB := Lib.hid (show ∀ j (hj : j < l.length), W.cell? ⟨b, j, none⟩ = some (.int .i64 l[j]) from fun j hj => by rw [h.cell j]; simp [ints, hj])
  have hb := h.lt
  have HD := Lib.hid (fun j (hj : j < l.length) => orI_drop hj)
  obtain ⟨r, hr⟩ : ∃ r, r = orI l := ⟨_, rfl⟩
  have HR := Lib.hid (show r = orI (l.drop 0) from hr)
  rw [← hr]
  clear h hr
  go_enter Tryd.func59, Tryd.ntmps59
  go_wp2_with (fail)
  go_loopg [8] l.length (fun gg z wr => ∃ j : Nat, z = .int .i64 j ∧ j ≤ l.length ∧ gg = l.length - j ∧ wr = W ∧ r = orI (l.drop j))
  case atStart => exact ⟨0, rfl, by omega, by omega, rfl, HR.out⟩
  case round =>
    obtain ⟨j, rfl, hj, hg, rfl, ho⟩ := hrel
    have HG := Lib.hid hg
    have HO := Lib.hid ho
    clear hg ho
    by_cases hlt : j < l.length
    · have c1 := HB.out j hlt
      have HDJ := Lib.hid (HD.out j hlt)
      obtain ⟨c, hc⟩ : ∃ c, c = l[j] := ⟨_, rfl⟩
      rw [← hc] at c1 HDJ
      clear hc
      by_cases h0 : c = 0
      · have HE := Lib.hid (show r = orI (l.drop (j + 1)) from by rw [HO.out, HDJ.out, if_pos h0])
        have hne : (c != 0) = false := by rw [h0]; rfl
        clear h0
        go_wp2
        go_roundg (l.length - (j + 1))
        case measure => have := HG.out; omega
        case rel => exact ⟨j + 1, by go_num, by omega, rfl, rfl, HE.out⟩
      · have HE := Lib.hid (show c = r from by rw [HO.out, HDJ.out, if_neg h0])
        have hne : (c != 0) = true := by simpa using h0
        clear h0
        go_wp2
        go_ret
        exact ⟨by first | rfl | (show Ending.returned (.int .i64 c) = _; rw [HE.out]), rfl⟩
    · have hjl : j = l.length := by omega
      have HE := Lib.hid (show r = 0 from by rw [HO.out, hjl, List.drop_length]; rfl)
      subst hjl
      go_wp2
      go_ret
      exact ⟨by first | rfl | (show Ending.returned (.int .i64 0) = _; rw [HE.out]), rfl⟩
theorem grow3 (W : World) (a b c : Obj) : (((W.alloc a).alloc b).alloc c).drew = Go.Sort.grow (W.drewN 1) #[a, b, c] := by
  rw [Go.Sort.alloc_eq_grow, Go.Sort.alloc_eq_grow, Go.Sort.alloc_eq_grow, Go.Sort.grow_grow, Go.Sort.grow_grow]
  rfl
set_option maxRecDepth 100000 in
set_option maxHeartbeats 4000000 in
theorem before_any (r s : Rn) (W : World) : Calls Tryd.prog 91 #[.agg #[.int .i64 (r.x : Int), .int .i64 (r.y : Int), .int .i64 (r.a : Int), .int .i64 (r.b : Int)], .agg #[.int .i64 (s.x : Int), .int .i64 (s.y : Int), .int .i64 (s.a : Int), .int .i64 (s.b : Int)]] W fun e w' => e = .returned (.int .i64 (befC r s)) ∧ ∃ q os', w' = Go.Sort.grow (W.drewN q) os' := by
  have HC1 := Lib.hid (fun V => compare_any (r.y : Int) (s.y : Int) V)
  have HC2 := Lib.hid (fun V => compare_any (r.x : Int) (s.x : Int) V)
  have HC3 := Lib.hid (fun V => compare_any (r.a : Int) (s.a : Int) V)
  have HC4 := Lib.hid (fun V => compare_any (r.b : Int) (s.b : Int) V)
  have HBF := Lib.hid (show befC r s = orI [cmpI r.y s.y, cmpI r.x s.x, cmpI r.a s.a, cmpI r.b s.b] from rfl)
  obtain ⟨bf, hbf⟩ : ∃ bf, bf = befC r s := ⟨_, rfl⟩
  rw [← hbf] at HBF ⊢
  clear hbf
  obtain ⟨x1, y1, a1, b1⟩ := r
  obtain ⟨x2, y2, a2, b2⟩ := s
  dsimp only at HC1 HC2 HC3 HC4 HBF ⊢
  obtain ⟨c1, hc1⟩ : ∃ c1, c1 = cmpI (y1 : Int) (y2 : Int) := ⟨_, rfl⟩
  obtain ⟨c2, hc2⟩ : ∃ c2, c2 = cmpI (x1 : Int) (x2 : Int) := ⟨_, rfl⟩
  obtain ⟨c3, hc3⟩ : ∃ c3, c3 = cmpI (a1 : Int) (a2 : Int) := ⟨_, rfl⟩
  obtain ⟨c4, hc4⟩ : ∃ c4, c4 = cmpI (b1 : Int) (b2 : Int) := ⟨_, rfl⟩
  rw [← hc1, ← hc2, ← hc3, ← hc4] at HBF
  rw [← hc1] at HC1
  rw [← hc2] at HC2
  rw [← hc3] at HC3
  rw [← hc4] at HC4
  clear hc1 hc2 hc3 hc4
  have HOR := Lib.hid (show ∀ b V, Bk 3 V b #[.int .i64 c1, .int .i64 c2, .int .i64 c3, .int .i64 c4] → Calls Tryd.prog 59 #[.slice (some ⟨b, 0, none⟩) 4 4] V fun e w' => e = .returned (.int .i64 bf) ∧ w' = V from fun b V hV => by rw [HBF.out]; exact or_any b [c1, c2, c3, c4] (by simp) V hV)
  have HB1 := Lib.hid ((Bk.new 31 W #[.int .i64 (x1 : Int), .int .i64 (y1 : Int), .int .i64 (a1 : Int), .int .i64 (b1 : Int)]).alloc (.cells #[.int .i64 (x2 : Int), .int .i64 (y2 : Int), .int .i64 (a2 : Int), .int .i64 (b2 : Int)] 31))
  have hb2 := Bk.new 31 (W.alloc (.cells #[.int .i64 (x1 : Int), .int .i64 (y1 : Int), .int .i64 (a1 : Int), .int .i64 (b1 : Int)] 31)) #[.int .i64 (x2 : Int), .int .i64 (y2 : Int), .int .i64 (a2 : Int), .int .i64 (b2 : Int)]
  rw [World.size_alloc] at hb2
  have HB2 := Lib.hid hb2
  clear hb2
  obtain ⟨p, hp⟩ : ∃ p, p = W.heap.size := ⟨_, rfl⟩
  obtain ⟨q, hq⟩ : ∃ q, q = W.heap.size + 1 := ⟨_, rfl⟩
  obtain ⟨V, hV⟩ : ∃ V, V = (W.alloc (.cells #[.int .i64 (x1 : Int), .int .i64 (y1 : Int), .int .i64 (a1 : Int), .int .i64 (b1 : Int)] 31)).alloc (.cells #[.int .i64 (x2 : Int), .int .i64 (y2 : Int), .int .i64 (a2 : Int), .int .i64 (b2 : Int)] 31) := ⟨_, rfl⟩
  have HF := Lib.hid (fun (X : World) (hX : Below V.heap.size V X) => show X.cell? ⟨p, 0, none⟩ = some (.int .i64 (x1 : Int)) ∧ X.cell? ⟨p, 1, none⟩ = some (.int .i64 (y1 : Int)) ∧ X.cell? ⟨p, 2, none⟩ = some (.int .i64 (a1 : Int)) ∧ X.cell? ⟨p, 3, none⟩ = some (.int .i64 (b1 : Int)) ∧ X.cell? ⟨q, 0, none⟩ = some (.int .i64 (x2 : Int)) ∧ X.cell? ⟨q, 1, none⟩ = some (.int .i64 (y2 : Int)) ∧ X.cell? ⟨q, 2, none⟩ = some (.int .i64 (a2 : Int)) ∧ X.cell? ⟨q, 3, none⟩ = some (.int .i64 (b2 : Int)) ∧ p < X.heap.size ∧ q < X.heap.size from by
    have h1 := HB1.out
    have h2 := HB2.out
    rw [← hV] at h1 h2
    rw [← hp] at h1
    rw [← hq] at h2
    have h1 := h1.ext hX
    have h2 := h2.ext hX
    exact ⟨h1.cell 0, h1.cell 1, h1.cell 2, h1.cell 3, h2.cell 0, h2.cell 1, h2.cell 2, h2.cell 3, h1.lt, h2.lt⟩)
  have HV := Lib.hid hV
  clear HB1 HB2
  go_enter Tryd.func91, Tryd.ntmps91
  go_upto_region 1 with (fail)
  rw [← hV, ← hq, ← hp]
  clear hV hp hq
  refine wp_region_T (S := fun W => Below V.heap.size V W) 22 (by kernel_rfl) (ext_drew _) (fun hHeld => ?_)
  refine wpAnyT_take (i := 0) (v := ?v1) [] rfl (by kernel_rfl) (fun _ _ _ h => h) (Or.inl ⟨by rfl, ?hy1⟩) hHeld ?rst1
  case hy1 => (intro wx hSw; obtain ⟨q1, q2, q3, q4, q5, q6, q7, q8, q9, q10⟩ := HF.out wx hSw; go_simp; try (with_reducible rfl))
  try simp only [List.getElem_toArray, List.getElem_cons_zero, Act.put, List.setIfInBounds_toArray, List.set_cons_zero, List.set_cons_succ]
  refine wpAnyT_take (i := 1) (v := ?v2) [] rfl (by kernel_rfl) (fun _ _ _ h => h) (Or.inl ⟨by rfl, ?hy2⟩) hHeld ?rst2
  case hy2 => (intro wx hSw; obtain ⟨q1, q2, q3, q4, q5, q6, q7, q8, q9, q10⟩ := HF.out wx hSw; go_simp; try (with_reducible rfl))
  try simp only [List.getElem_toArray, List.getElem_cons_zero, List.getElem_cons_succ, Act.put, List.setIfInBounds_toArray, List.set_cons_zero, List.set_cons_succ]
  refine wpAnyT_take (i := 2) (v := ?v3) [] rfl (by kernel_rfl) (fun _ _ _ h => h) (Or.inl ⟨by rfl, ?hy3⟩) hHeld ?rst3
  case hy3 => (intro wx hSw; obtain ⟨q1, q2, q3, q4, q5, q6, q7, q8, q9, q10⟩ := HF.out wx hSw; go_simp; try (with_reducible rfl))
  try simp only [List.getElem_toArray, List.getElem_cons_zero, List.getElem_cons_succ, Act.put, List.setIfInBounds_toArray, List.set_cons_zero, List.set_cons_succ]
  refine wpAnyT_take (i := 3) (v := ?v4) [] rfl (by kernel_rfl) (fun _ _ _ h => h) (Or.inl ⟨by rfl, ?hy4⟩) hHeld ?rst4
  case hy4 => (intro wx hSw; obtain ⟨q1, q2, q3, q4, q5, q6, q7, q8, q9, q10⟩ := HF.out wx hSw; go_simp; try (with_reducible rfl))
  try simp only [List.getElem_toArray, List.getElem_cons_zero, List.getElem_cons_succ, Act.put, List.setIfInBounds_toArray, List.set_cons_zero, List.set_cons_succ]
  refine wpAnyT_take (i := 5) (v := ?v5) [] rfl (by kernel_rfl) (fun _ _ _ h => h) (Or.inl ⟨by rfl, ?hy5⟩) hHeld ?rst5
  case hy5 => (intro wx hSw; obtain ⟨q1, q2, q3, q4, q5, q6, q7, q8, q9, q10⟩ := HF.out wx hSw; go_simp; try (with_reducible rfl))
  try simp only [List.getElem_toArray, List.getElem_cons_zero, List.getElem_cons_succ, Act.put, List.setIfInBounds_toArray, List.set_cons_zero, List.set_cons_succ]
  refine wpAnyT_take (i := 6) (v := ?v6) [] rfl (by kernel_rfl) (fun _ _ _ h => h) (Or.inl ⟨by rfl, ?hy6⟩) hHeld ?rst6
  case hy6 => (intro wx hSw; obtain ⟨q1, q2, q3, q4, q5, q6, q7, q8, q9, q10⟩ := HF.out wx hSw; go_simp; try (with_reducible rfl))
  try simp only [List.getElem_toArray, List.getElem_cons_zero, List.getElem_cons_succ, Act.put, List.setIfInBounds_toArray, List.set_cons_zero, List.set_cons_succ]
  refine wpAnyT_take (i := 7) (v := ?v7) [] rfl (by kernel_rfl) (fun _ _ _ h => h) (Or.inl ⟨by rfl, ?hy7⟩) hHeld ?rst7
  case hy7 => (intro wx hSw; obtain ⟨q1, q2, q3, q4, q5, q6, q7, q8, q9, q10⟩ := HF.out wx hSw; go_simp; try (with_reducible rfl))
  try simp only [List.getElem_toArray, List.getElem_cons_zero, List.getElem_cons_succ, Act.put, List.setIfInBounds_toArray, List.set_cons_zero, List.set_cons_succ]
  refine wpAnyT_take (i := 8) (v := ?v8) [] rfl (by kernel_rfl) (fun _ _ _ h => h) (Or.inl ⟨by rfl, ?hy8⟩) hHeld ?rst8
  case hy8 => (intro wx hSw; obtain ⟨q1, q2, q3, q4, q5, q6, q7, q8, q9, q10⟩ := HF.out wx hSw; go_simp; try (with_reducible rfl))
  try simp only [List.getElem_toArray, List.getElem_cons_zero, List.getElem_cons_succ, Act.put, List.setIfInBounds_toArray, List.set_cons_zero, List.set_cons_succ]
  refine wpAnyT_take (i := 10) (v := ?v9) [] rfl (by kernel_rfl) (fun _ _ _ h => h) (Or.inl ⟨by rfl, ?hy9⟩) hHeld ?rst9
  case hy9 => (intro wx hSw; obtain ⟨q1, q2, q3, q4, q5, q6, q7, q8, q9, q10⟩ := HF.out wx hSw; go_simp; try (with_reducible rfl))
  try simp only [List.getElem_toArray, List.getElem_cons_zero, List.getElem_cons_succ, Act.put, List.setIfInBounds_toArray, List.set_cons_zero, List.set_cons_succ]
  refine wpAnyT_take (i := 11) (v := ?v10) [] rfl (by kernel_rfl) (fun _ _ _ h => h) (Or.inl ⟨by rfl, ?hy10⟩) hHeld ?rst10
  case hy10 => (intro wx hSw; obtain ⟨q1, q2, q3, q4, q5, q6, q7, q8, q9, q10⟩ := HF.out wx hSw; go_simp; try (with_reducible rfl))
  try simp only [List.getElem_toArray, List.getElem_cons_zero, List.getElem_cons_succ, Act.put, List.setIfInBounds_toArray, List.set_cons_zero, List.set_cons_succ]
  refine wpAnyT_take (i := 12) (v := ?v11) [] rfl (by kernel_rfl) (fun _ _ _ h => h) (Or.inl ⟨by rfl, ?hy11⟩) hHeld ?rst11
  case hy11 => (intro wx hSw; obtain ⟨q1, q2, q3, q4, q5, q6, q7, q8, q9, q10⟩ := HF.out wx hSw; go_simp; try (with_reducible rfl))
  try simp only [List.getElem_toArray, List.getElem_cons_zero, List.getElem_cons_succ, Act.put, List.setIfInBounds_toArray, List.set_cons_zero, List.set_cons_succ]
  refine wpAnyT_take (i := 13) (v := ?v12) [] rfl (by kernel_rfl) (fun _ _ _ h => h) (Or.inl ⟨by rfl, ?hy12⟩) hHeld ?rst12
  case hy12 => (intro wx hSw; obtain ⟨q1, q2, q3, q4, q5, q6, q7, q8, q9, q10⟩ := HF.out wx hSw; go_simp; try (with_reducible rfl))
  try simp only [List.getElem_toArray, List.getElem_cons_zero, List.getElem_cons_succ, Act.put, List.setIfInBounds_toArray, List.set_cons_zero, List.set_cons_succ]
  refine wpAnyT_take (i := 15) (v := ?v13) [] rfl (by kernel_rfl) (fun _ _ _ h => h) (Or.inl ⟨by rfl, ?hy13⟩) hHeld ?rst13
  case hy13 => (intro wx hSw; obtain ⟨q1, q2, q3, q4, q5, q6, q7, q8, q9, q10⟩ := HF.out wx hSw; go_simp; try (with_reducible rfl))
  try simp only [List.getElem_toArray, List.getElem_cons_zero, List.getElem_cons_succ, Act.put, List.setIfInBounds_toArray, List.set_cons_zero, List.set_cons_succ]
  refine wpAnyT_take (i := 16) (v := ?v14) [] rfl (by kernel_rfl) (fun _ _ _ h => h) (Or.inl ⟨by rfl, ?hy14⟩) hHeld ?rst14
  case hy14 => (intro wx hSw; obtain ⟨q1, q2, q3, q4, q5, q6, q7, q8, q9, q10⟩ := HF.out wx hSw; go_simp; try (with_reducible rfl))
  try simp only [List.getElem_toArray, List.getElem_cons_zero, List.getElem_cons_succ, Act.put, List.setIfInBounds_toArray, List.set_cons_zero, List.set_cons_succ]
  refine wpAnyT_take (i := 17) (v := ?v15) [] rfl (by kernel_rfl) (fun _ _ _ h => h) (Or.inl ⟨by rfl, ?hy15⟩) hHeld ?rst15
  case hy15 => (intro wx hSw; obtain ⟨q1, q2, q3, q4, q5, q6, q7, q8, q9, q10⟩ := HF.out wx hSw; go_simp; try (with_reducible rfl))
  try simp only [List.getElem_toArray, List.getElem_cons_zero, List.getElem_cons_succ, Act.put, List.setIfInBounds_toArray, List.set_cons_zero, List.set_cons_succ]
  refine wpAnyT_take (i := 18) (v := ?v16) [] rfl (by kernel_rfl) (fun _ _ _ h => h) (Or.inl ⟨by rfl, ?hy16⟩) hHeld ?rst16
  case hy16 => (intro wx hSw; obtain ⟨q1, q2, q3, q4, q5, q6, q7, q8, q9, q10⟩ := HF.out wx hSw; go_simp; try (with_reducible rfl))
  try simp only [List.getElem_toArray, List.getElem_cons_zero, List.getElem_cons_succ, Act.put, List.setIfInBounds_toArray, List.set_cons_zero, List.set_cons_succ]
  refine wpAnyT_one (i := 4) (by kernel_rfl) rfl (fun K hK => ?_)
  go_simp
  go_at_call 60
  refine (HC1.out _).mono ?_
  rintro e1 w1 ⟨rfl, rfl⟩
  refine hK.out _ _ (hHeld) (fun hHeld => ?_)
  clear hK K
  try simp only [List.getElem_toArray, List.getElem_cons_zero, List.getElem_cons_succ, Act.put, List.setIfInBounds_toArray, List.set_cons_zero, List.set_cons_succ]
  refine wpAnyT_one (i := 9) (by kernel_rfl) rfl (fun K hK => ?_)
  go_simp
  go_at_call 60
  refine (HC2.out _).mono ?_
  rintro e2 w2 ⟨rfl, rfl⟩
  refine hK.out _ _ (hHeld) (fun hHeld => ?_)
  clear hK K
  try simp only [List.getElem_toArray, List.getElem_cons_zero, List.getElem_cons_succ, Act.put, List.setIfInBounds_toArray, List.set_cons_zero, List.set_cons_succ]
  refine wpAnyT_one (i := 14) (by kernel_rfl) rfl (fun K hK => ?_)
  go_simp
  go_at_call 60
  refine (HC3.out _).mono ?_
  rintro e3 w3 ⟨rfl, rfl⟩
  refine hK.out _ _ (hHeld) (fun hHeld => ?_)
  clear hK K
  try simp only [List.getElem_toArray, List.getElem_cons_zero, List.getElem_cons_succ, Act.put, List.setIfInBounds_toArray, List.set_cons_zero, List.set_cons_succ]
  refine wpAnyT_one (i := 19) (by kernel_rfl) rfl (fun K hK => ?_)
  go_simp
  go_at_call 60
  refine (HC4.out _).mono ?_
  rintro e4 w4 ⟨rfl, rfl⟩
  refine hK.out _ _ (hHeld) (fun hHeld => ?_)
  clear hK K
  try simp only [List.getElem_toArray, List.getElem_cons_zero, List.getElem_cons_succ, Act.put, List.setIfInBounds_toArray, List.set_cons_zero, List.set_cons_succ]
  refine wpAnyT_one (i := 20) (by kernel_rfl) rfl (fun K hK => ?_)
  go_simp
  refine hK.out _ _ (ext_trans (ext_alloc V _) (ext_drew _)) (fun hHeld => ?_)
  clear hK K
  try simp only [List.getElem_toArray, List.getElem_cons_zero, List.getElem_cons_succ, Act.put, List.setIfInBounds_toArray, List.set_cons_zero, List.set_cons_succ]
  refine wpAnyT_one (i := 21) (by kernel_rfl) rfl (fun K hK => ?_)
  go_simp
  go_at_call 59
  refine (HOR.out _ _ ((Bk.new 3 V _).ext (ext_drew _))).mono ?_
  rintro e5 w5 ⟨rfl, rfl⟩
  refine hK.out _ _ (hHeld) (fun hHeld => ?_)
  clear hK K
  try simp only [List.getElem_toArray, List.getElem_cons_zero, List.getElem_cons_succ, Act.put, List.setIfInBounds_toArray, List.set_cons_zero, List.set_cons_succ]
  refine wpAnyT_last (by kernel_rfl) (by kernel_rfl) rfl (fun K hK => ?_)
  go_simp
  refine hK.out _ _ ?_
  clear hK K
  go_wp2
  go_ret
  refine ⟨rfl, 1, #[.cells #[.int .i64 (x1 : Int), .int .i64 (y1 : Int), .int .i64 (a1 : Int), .int .i64 (b1 : Int)] 31, .cells #[.int .i64 (x2 : Int), .int .i64 (y2 : Int), .int .i64 (a2 : Int), .int .i64 (b2 : Int)] 31, .cells #[.int .i64 c1, .int .i64 c2, .int .i64 c3, .int .i64 c4] 3], ?_⟩
  rw [HV.out]
  exact grow3 W _ _ _
open Go.Sort in
/-- the order is strict and weak -/
theorem swo_bef : SWO (ltOf befC) where
  irrefl r := by
    unfold ltOf
    rw [decide_eq_false_iff_not, befC_lt]; exact rlt_irr r
  trans r s t h1 h2 := by
    unfold ltOf at *
    rw [decide_eq_true_eq, befC_lt] at *
    exact rlt_tr h1 h2
  ntrans r s t h1 h2 := by
    unfold ltOf at *
    rw [decide_eq_false_iff_not, befC_lt] at *
    unfold rlt at *
    omega
theorem rcs_len (r : Rn) : (rcs r).length = 4 := rfl
theorem rcs_one (r : Rn) : ∀ v ∈ rcs r, v.oneCell' = true := by
  intro v hv
  simp [rcs] at hv
  rcases hv with rfl | rfl | rfl | rfl <;> rfl

open Go.RowKit Go.Shelf

set_option maxRecDepth 100000 in
theorem insertion_none (p : Option Addr) (cap : Nat) (fv : Value) (w : World) :
    Calls Tryd.prog 140 #[.slice p 0 cap, .int .i64 0, .int .i64 0, fv] w fun e w' => e = .returned (.tuple #[]) ∧ w' = w := by
  go_enter Tryd.func140, Tryd.ntmps140
  go_wp2_with (fail)
  refine wp_loop_rounds 1 ?_
  rw [rounds_succ]
  go_wp2
  go_end0
  exact ⟨rfl, rfl⟩
set_option maxRecDepth 100000 in
theorem pdq_none (p : Option Addr) (cap : Nat) (lim : Int) (fv : Value) (w : World) :
    Calls Tryd.prog 119 #[.slice p 0 cap, .int .i64 0, .int .i64 0, .int .i64 lim, fv] w fun e w' => e = .returned (.tuple #[]) ∧ w' = w := by
  have hi := fun W => insertion_none p cap fv W
  go_enter Tryd.func119, Tryd.ntmps119
  go_wp2_with (fail)
  refine wp_loop_rounds 1 ?_
  rw [rounds_succ]
  go_wp2_with (go_at_call 140; refine (hi _).mono ?_; rintro e w' ⟨rfl, rfl⟩)
  (try simp only [Exit.inBlock, Exit.then]); refine bodyPost_ret (results_none rfl _ _ _) rfl ?_
  exact ⟨rfl, rfl⟩
set_option maxRecDepth 100000 in
theorem sort_none (p : Option Addr) (cap : Nat) (fv : Value) (w : World) :
    Calls Tryd.prog 90 #[.slice p 0 cap, fv] w fun e w' => e = .returned (.tuple #[]) ∧ w' = w := by
  have hp := fun lim W => pdq_none p cap lim fv W
  have L := Tryd.sortR
  have hl : ∀ W, Calls Tryd.prog 120 #[.int .u64 0] W fun e w' => e = .returned (.int .i64 (Lib.bitLen 0 : Nat)) ∧ w' = W := fun W => by
    have h := Any.bits_Len (SlLaysF0.n15.bits (P := Tryd.prog) (ρ := Tryd.sortR_ren) { L with }) 0 W (by omega) (by omega)
    exact h
  clear L
  go_enter Tryd.func90, Tryd.ntmps90
  go_wp2_with (first | (go_at_call 120; refine (hl _).mono ?_; rintro e w' ⟨rfl, rfl⟩) | (go_at_call 119; refine (hp _ _).mono ?_; rintro e w' ⟨rfl, rfl⟩))
  go_end0
  exact ⟨rfl, rfl⟩
/-- the sort's worlds leave what lies below the row -/
theorem sortWorld_below {B : Nat} {w : World} {g n : Nat} {d : Array Rn} {os : Array Obj} (hB : B ≤ g) (hBw : B ≤ w.heap.size) : Below B w (sortWorldK rcs 4 w g 0 n d os) := by
  refine ⟨rfl, rfl, rfl, ?_, fun k hk => ?_⟩
  · exact size_sortWorldK_c rcs 4 w g 0 n d os
  · unfold sortWorldK Go.Sort.grow Go.Sort.putRowK Go.Sort.putRow Go.Sort.mapBlock Go.Sort.ahead
    dsimp only
    rw [Array.getElem?_append_left (by rw [Array.size_modify]; omega), Array.getElem?_modify, if_neg (by omega)]
theorem pair_sorted {d : Array Rn} (hn : d.toList.Nodup) (hs : Go.Sort.SortedIn (ltOf befC) 0 d.size d) : d.toList.Pairwise rlt := by
  rw [List.pairwise_iff_getElem]
  intro i j hi hj hij
  have hi' : i < d.size := by simpa using hi
  have hj' : j < d.size := by simpa using hj
  have h := hs i j (Nat.zero_le _) hij hj'
  unfold ltOf at h
  rw [decide_eq_false_iff_not, befC_lt] at h
  have e1 : d[i]! = d.toList[i] := by rw [getElem!_pos d i hi']; simp
  have e2 : d[j]! = d.toList[j] := by rw [getElem!_pos d j hj']; simp
  rw [e1, e2] at h
  by_cases hlt : rlt d.toList[i] d.toList[j]
  · exact hlt
  · have := rlt_tot hlt h
    exact absurd this (List.pairwise_iff_getElem.1 hn i j hi hj hij)
set_option maxHeartbeats 1000000 in
theorem sort_any (base : Nat) (A : Option Addr) (cap : Nat) (ms : List Rn) (W : World) (hv : Vr base W (.slice A ms.length cap) ms) (hbw : base ≤ W.heap.size) (hlen : ms.length ≤ 10000000) (hnd : ms.Nodup) :
    Calls Tryd.prog 90 #[.slice A ms.length cap, .func (.func 91) #[] #[]] W fun e w' => e = .returned (.tuple #[]) ∧ Below base W w' ∧ ∃ ms', ms'.Pairwise rlt ∧ (∀ r, r ∈ ms' ↔ r ∈ ms) ∧ ms'.length = ms.length ∧ RSl w' A ms' := by
  by_cases h0 : ms = []
  · subst h0
    refine (sort_none A cap _ W).mono ?_
    rintro e w' ⟨rfl, rfl⟩
    exact ⟨rfl, Below.refl _ _, [], List.Pairwise.nil, fun r => Iff.rfl, rfl, .inl rfl⟩
  · obtain ⟨hl, hv⟩ := hv
    rcases hv with ⟨_, hz⟩ | ⟨g, c, cur, hv, hg, hh, hn, hm, hcur, hx⟩
    · exact absurd (List.eq_nil_of_length_eq_zero hz) h0
    · injection hv with e1 _ e3
      subst e1
      have hf : ∀ a : Rn, (rcs a).length = 4 := fun _ => rfl
      have hH : Go.Sort.HoldsK rcs 4 W g 0 ms.toArray := by
        intro t ht
        rw [Go.Sort.size_flatK] at ht
        have ht' : t < ms.length * 4 := by simpa using ht
        rw [Nat.zero_add, cell_of_row W g t cur _ (0, 0) hh]
        refine ⟨?_, frozen_of_row W g t cur _ hh⟩
        rw [Go.Sort.get_flatK _ _ _ _ ht]
        have hq : t / 4 < ms.length := by omega
        have h1 : (ms.flatMap rcs)[t / 4 * 4 + t % 4]? = (rcs ms[t / 4])[t % 4]? := flat_get hf ms (t / 4) (t % 4) hq (by omega)
        rw [show t / 4 * 4 + t % 4 = t by omega, ← hx, List.getElem?_take] at h1
        rw [if_pos (by omega)] at h1
        have h2 : cur[t]? = (rcs ms[t / 4])[t % 4]? := by simpa using h1
        rw [h2]
        have e : ms.toArray[t / 4]! = ms[t / 4] := by rw [getElem!_pos ms.toArray (t / 4) (by simpa using hq)]; simp
        rw [e]
        have hr : t % 4 < (rcs ms[t / 4]).length := by rw [hf]; omega
        rw [List.getElem?_eq_getElem hr, getElem!_pos (rcs ms[t / 4]) (t % 4) hr]
        rfl
      have eg : ∀ args w, (callFunc 91 args).run Tryd.prog w = .ok (.enter 91 args) w := enters_of Tryd.func91 (by kernel_rfl) rfl
      have hgl : g < W.heap.size := lt_of_block hh
      have hcon := AnyQ.slices_SortFunc Tryd.sortR 4 Tryd.isAgg31 Tryd.sizeOf31 rcs rcs_len rcs_one befC swo_bef 91 #[] g 0 cap ms.toArray W eg (fun _ _ _ _ x y => before_any x y _) hH hgl (by simp; omega)
      rw [show ms.toArray.size = ms.length from by simp] at hcon
      refine hcon.mono ?_
      rintro e w' ⟨rfl, d', n, os, hp, hs, rfl⟩
      obtain ⟨hps, _, hpp⟩ := hp
      have hds : d'.size = ms.length := by simpa using hps
      have hperm : d'.toList.Perm ms := by
        have e1 : d'.extract 0 ms.length = d' := by rw [← hds]; simp
        have e2 : ms.toArray.extract 0 ms.length = ms.toArray := by
          have : ms.length = ms.toArray.size := by simp
          rw [this]; simp
        rw [e1, e2] at hpp
        simpa using hpp
      have hnd' : d'.toList.Nodup := hperm.nodup_iff.2 hnd
      refine ⟨rfl, sortWorld_below hg hbw, d'.toList, pair_sorted hnd' (by rw [hds]; exact hs), fun r => hperm.mem_iff, by simpa using hds, .inr ⟨g, 0, rfl, ?_, fun j hj => ?_⟩⟩
      · exact Nat.lt_of_lt_of_le hgl (size_sortWorldK_c rcs 4 W g 0 n d' os)
      · have hj' : j < d'.size := by simpa using hj
        have hH2 := holdsK_sortWorldK_c rcs 4 W g 0 ms.toArray d' n os hH hgl (by simpa using hds)
        have e : d'[j]! = d'.toList[j] := by rw [getElem!_pos d' j hj']; simp
        have k0 := (hH2.cell (c := 0) hj' (by omega)).1
        have k1 := (hH2.cell (c := 1) hj' (by omega)).1
        have k2 := (hH2.cell (c := 2) hj' (by omega)).1
        have k3 := (hH2.cell (c := 3) hj' (by omega)).1
        rw [e] at k0 k1 k2 k3
        exact ⟨k0, k1, k2, k3⟩
end Go.Proofs.YtmgofdgbenfjmaaDoor
