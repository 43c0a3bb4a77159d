/- The journal and the book walked, as a new house uses them. Conditions: a disk with power, empty. -/
import Derived.Test.YtjadbipbidghdaaGreatDoorHb
import Derived.Test.YtjadbipbidghdaaGreatDoorRgT
import Derived.StillTailTactics
namespace Go.Proofs.YtjadbipbidghdaaGreatDoor
open Go.RowKit

/-- the journal in its block -/
def Lg (w : World) (L : Nat) (rec : Value) (D : Nat) : Prop := Bk 134 w L #[.int .i64 1, .slice none 0 0, rec, .pointer (some ⟨D, 0, none⟩), .int .i64 0, .bool false]
theorem below_mono {B B' : Nat} {w w' : World} (h : Below B w w') (hb : B' ≤ B) : Below B' w w' := h.mono hb
set_option maxRecDepth 100000 in
set_option maxHeartbeats 8000000 in
theorem write_any (D : Nat) (s : Int) (w : World) (h : Dk w D (.slice none 0 0) s) :
    Calls Tryz.prog 63 #[.agg #[.int .i64 1, .slice none 0 0, .slice none 0 0], .pointer (some ⟨D, 0, none⟩), .int .i64 0] w fun e w' => e = .returned (.int .i64 0) ∧ ∃ v, ∃ n : Nat, Dk w' D v (n : Int) ∧ By w.heap.size w' v n ∧ n ≤ 100 ∧ Chg (· = D) w w' := by
  have HX := Lib.hid (ext_alloc w (.cells #[.int .i64 1, .slice none 0 0, .slice none 0 0] 132))
  have HB := Lib.hid (Bk.new 132 w #[.int .i64 1, .slice none 0 0, .slice none 0 0])
  have HD := Lib.hid h
  have hDw : D < w.heap.size := h.lt
  clear h
  go_enter Tryz.func63, Tryz.ntmps63
  go_upto_region 1 with (fail)
  obtain ⟨X, hX⟩ : ∃ X, X = w.alloc (.cells #[.int .i64 1, .slice none 0 0, .slice none 0 0] 132) := ⟨_, rfl⟩
  obtain ⟨q, hq⟩ : ∃ q, q = w.heap.size := ⟨_, rfl⟩
  rw [← hX] at HX HB ⊢
  rw [← hq] at HB ⊢
  have hDq : D ≠ q := by omega
  clear hX hq
  have HD1 := Lib.hid (show Dk X D (.slice none 0 0) s from Bk.ext HD.out HX.out)
  have HCL := Lib.hid (clear_any D _ s X HD1.out)
  go_upto_region 4 with (go_at_call 108; refine (HCL.out).mono ?_; rintro e w1 ⟨rfl, hd1, hc1⟩; have HD2 := Lib.hid hd1; have HC1 := Lib.hid hc1; clear hd1 hc1)
  have HC2 := Lib.hid (Chg.trans (Chg.of (S := (· = D)) HX.out) HC1.out fun _ _ e => e)
  have HB1 := Lib.hid (HC1.out.bk HB.out (fun e => hDq e.symm))
  obtain ⟨V, hV⟩ : ∃ V, V = w1 := ⟨_, rfl⟩
  rw [← hV] at HD2 HC2 HB1 ⊢
  have hwV : w.heap.size ≤ V.heap.size := HC2.out.size
  clear hV HC1 HB HX HD1 HCL
  have HF := Lib.hid (show ∀ W, Below V.heap.size V W → W.cell? ⟨q, 0, none⟩ = some (.int .i64 1) ∧ W.cell? ⟨q, 1, none⟩ = some (.slice none 0 0) ∧ W.cell? ⟨q, 2, none⟩ = some (.slice none 0 0) ∧ q < W.heap.size from fun W hW => by
    have hk := HB1.out.ext hW
    exact ⟨hk.cell 0, hk.cell 1, hk.cell 2, hk.lt⟩)
  have HP1 := Lib.hid (fun W (hW : Below V.heap.size V W) => (putnum_any W.heap.size (.slice none 0 0) 0 1 8 W (By.nil _ _) (Nat.le_refl _) (by omega) (by omega) (by omega)).mono (R' := fun e w' => ∃ v', e = .returned v' ∧ By V.heap.size w' v' 8 ∧ Below W.heap.size W w') fun e w' hr => by obtain ⟨v', k1, k2, k3⟩ := hr; exact ⟨v', k1, k2.base hW.size, k3⟩)
  have HP2 := Lib.hid (fun v W (hW : Below V.heap.size V W) (hv : By V.heap.size W v 8) => putnum_any V.heap.size v 8 0 4 W hv hW.size (by omega) (by omega) (by omega))
  have HFR := Lib.hid (fun v W (hW : Below V.heap.size V W) (hv : By V.heap.size W v 12) => (frame_any W.heap.size (.slice none 0 0) v 0 12 W (By.nil _ _) (hv.rd (Nat.le_refl _)) (Nat.le_refl _) (by omega) (by omega)).mono (R' := fun e w' => ∃ v', e = .returned v' ∧ By V.heap.size w' v' 20 ∧ Below W.heap.size W w') fun e w' hr => by obtain ⟨v', k1, k2, k3⟩ := hr; exact ⟨v', k1, k2.base hW.size, k3⟩)
  refine wp_region_T (S := (fun W => Below V.heap.size V W)) 8 (by kernel_rfl) (ext_drew _) (fun hHeld => ?_)
  refine wpAnyT_take (i := 0) (v := ?v1) [] rfl (by kernel_rfl) (fun _ _ _ h => h) (Or.inl ⟨by rfl, ?hy1⟩) hHeld ?rst1
  case hy1 => (intro wx hSw; obtain ⟨q1, q2, q3, q4⟩ := HF.out wx hSw; go_simp; try (with_reducible rfl))
  try simp only [List.getElem_toArray, List.getElem_cons_zero, Act.put, List.setIfInBounds_toArray, List.set_cons_zero, List.set_cons_succ]
  refine wpAnyT_take (i := 1) (v := ?v2) [] rfl (by kernel_rfl) (fun _ _ _ h => h) (Or.inl ⟨by rfl, ?hy2⟩) hHeld ?rst2
  case hy2 => (intro wx hSw; obtain ⟨q1, q2, q3, q4⟩ := HF.out wx hSw; go_simp; try (with_reducible rfl))
  try simp only [List.getElem_toArray, List.getElem_cons_zero, List.getElem_cons_succ, Act.put, List.setIfInBounds_toArray, List.set_cons_zero, List.set_cons_succ]
  refine wpAnyT_take (i := 3) (v := ?v3) [] rfl (by kernel_rfl) (fun _ _ _ h => h) (Or.inl ⟨by rfl, ?hy3⟩) hHeld ?rst3
  case hy3 => (intro wx hSw; obtain ⟨q1, q2, q3, q4⟩ := HF.out wx hSw; go_simp; try (with_reducible rfl))
  try simp only [List.getElem_toArray, List.getElem_cons_zero, List.getElem_cons_succ, Act.put, List.setIfInBounds_toArray, List.set_cons_zero, List.set_cons_succ]
  refine wpAnyT_take (i := 4) (v := ?v4) [] rfl (by kernel_rfl) (fun _ _ _ h => h) (Or.inl ⟨by rfl, ?hy4⟩) hHeld ?rst4
  case hy4 => (intro wx hSw; obtain ⟨q1, q2, q3, q4⟩ := HF.out wx hSw; go_simp; try (with_reducible rfl))
  try simp only [List.getElem_toArray, List.getElem_cons_zero, List.getElem_cons_succ, Act.put, List.setIfInBounds_toArray, List.set_cons_zero, List.set_cons_succ]
  refine wpAnyT_take (i := 5) (v := ?v5) [] rfl (by kernel_rfl) (fun _ _ _ h => h) (Or.inl ⟨by rfl, ?hy5⟩) hHeld ?rst5
  case hy5 => (intro wx hSw; obtain ⟨q1, q2, q3, q4⟩ := HF.out wx hSw; go_simp; try (with_reducible rfl))
  try simp only [List.getElem_toArray, List.getElem_cons_zero, List.getElem_cons_succ, Act.put, List.setIfInBounds_toArray, List.set_cons_zero, List.set_cons_succ]
  refine wpAnyT_one (i := 2) (by kernel_rfl) rfl (fun K hK => ?_)
  go_simp
  go_at_call_of 99 (Value.int .i64 8)
  refine (HP1.out _ hHeld).mono ?_
  rintro e8 w8 ⟨v8, rfl, hv8, hx8⟩
  have B8 := hHeld.trans (hx8.mono hHeld.size)
  have HV8 := Lib.hid hv8
  obtain ⟨A8, c8, he8, _, _⟩ := hv8.sl
  subst he8
  clear hx8 hv8
  refine hK.out _ _ (B8) (fun hHeld => ?_)
  clear hK K
  try simp only [List.getElem_toArray, List.getElem_cons_zero, List.getElem_cons_succ, Act.put, List.setIfInBounds_toArray, List.set_cons_zero, List.set_cons_succ]
  refine wpAnyT_one (i := 6) (by kernel_rfl) rfl (fun K hK => ?_)
  go_simp
  go_at_call_of 99 (Value.int .i64 4)
  refine (HP2.out _ _ hHeld HV8.out).mono ?_
  rintro e9 w9 ⟨v9, rfl, hv9, hx9⟩
  have B9 := hHeld.trans hx9
  have HV9 := Lib.hid hv9
  obtain ⟨A9, c9, he9, _, _⟩ := hv9.sl
  subst he9
  clear hx9 hv9
  refine hK.out _ _ (B9) (fun hHeld => ?_)
  clear hK K
  try simp only [List.getElem_toArray, List.getElem_cons_zero, List.getElem_cons_succ, Act.put, List.setIfInBounds_toArray, List.set_cons_zero, List.set_cons_succ]
  refine wpAnyT_one (i := 7) (by kernel_rfl) rfl (fun K hK => ?_)
  go_simp
  go_at_call 54
  refine (HFR.out _ _ hHeld HV9.out).mono ?_
  rintro e10 w10 ⟨v10, rfl, hv10, hx10⟩
  have B10 := hHeld.trans (hx10.mono hHeld.size)
  have HV10 := Lib.hid hv10
  obtain ⟨A10, c10, he10, _, _⟩ := hv10.sl
  subst he10
  clear hx10 hv10
  refine hK.out _ _ (B10) (fun hHeld => ?_)
  clear hK K
  try simp only [List.getElem_toArray, List.getElem_cons_zero, List.getElem_cons_succ, Act.put, List.setIfInBounds_toArray, List.set_cons_zero, List.set_cons_succ]
  refine wpAnyT_last (by kernel_rfl) (by kernel_rfl) rfl (fun K hK => ?_)
  go_simp
  refine hK.out _ _ ?_
  clear hK K
  obtain ⟨U, hU⟩ : ∃ U, U = w10 := ⟨_, rfl⟩
  rw [← hU] at HV10 hHeld ⊢
  have HU := Lib.hid hHeld
  clear hU hHeld HP1 HP2 HFR
  have HF5 := Lib.hid (frame_any V.heap.size (.slice A10 20 c10) (.slice none 0 0) 20 0 U HV10.out (.inl ⟨rfl, rfl⟩) HU.out.size (by omega) (by omega))
  obtain ⟨q1, q2, q3, q4⟩ := HF.out U HU.out
  go_upto_region 6 with (go_at_call 54; refine (HF5.out).mono ?_; rintro e w5 ⟨v5, rfl, hv5, hx5⟩; obtain ⟨A5, c5, he5, _, _⟩ := hv5.sl; subst he5; have HV5 := Lib.hid hv5; have HX5 := Lib.hid (HU.out.trans hx5); clear hv5 hx5)
  clear q1 q2 q3 q4
  obtain ⟨q1, q2, q3, q4⟩ := HF.out w5 HX5.out
  go_wp2_with (fail)
  go_loopg [33, 8] 1 (fun gg z v wr => z = .int .i64 0 ∧ v = .slice A5 28 c5 ∧ gg = 1 ∧ wr = w5)
  case atStart => exact ⟨rfl, rfl, rfl, rfl⟩
  case round =>
    obtain ⟨rfl, rfl, rfl, rfl⟩ := hrel
    have h8 : ¬ (0 : Int) < ((0 : Nat) : Int) := by omega
    have HD5 := Lib.hid (show Dk wr D (.slice none 0 0) 0 from Bk.ext HD2.out HX5.out)
    have HAP := Lib.hid (appendD_any D (.slice none 0 0) 0 0 wr.heap.size (.slice A5 28 c5) 28 wr.heap.size wr HD5.out (By.nil _ _) (Nat.le_refl _) (HV5.out.rd (Nat.le_refl _)) (by omega) (by omega))
    have HSY := Lib.hid (fun v W (h1 : Dk W D v 0) (h2 : By wr.heap.size W v 28) => sync_any D v 28 0 wr.heap.size W h1 h2)
    go_wp2_with (first
      | (go_at_call 53; refine (HAP.out).mono ?_; rintro e w6 ⟨rfl, v6, hd6, hv6, hc6⟩; have HD6 := Lib.hid hd6; have HV6 := Lib.hid hv6; have HC6 := Lib.hid hc6; clear hd6 hv6 hc6)
      | (go_at_call 56; refine (HSY.out _ _ HD6.out HV6.out).mono ?_; rintro e w7 ⟨rfl, hd7, hc7⟩; have HD7 := Lib.hid hd7; have HC7 := Lib.hid hc7; clear hd7 hc7))
    go_ret
    have hne : ∀ k, v6.ownBlock = some k → ¬ k = D := fun k hk e => by
      obtain ⟨xs, hx, _⟩ := HV6.out
      exact own_ne hx HD6.out (by decide) (by rw [← e]; exact hk.symm)
    have hsz : w.heap.size ≤ wr.heap.size := Nat.le_trans hwV HX5.out.size
    refine ⟨rfl, v6, 28, HD7.out, (HC7.out.by_ HV6.out hne).base hsz, by omega, ?_⟩
    exact ((HC2.out.ext HX5.out).trans HC6.out fun k _ e => e.elim id fun e => by cases e).trans HC7.out fun k _ e => e
set_option maxRecDepth 100000 in
set_option maxHeartbeats 8000000 in
theorem lognone_any (L : Nat) (rec : Value) (D : Nat) (w : World) (h : Lg w L rec D) : Calls Tryz.prog 68 #[.pointer (some ⟨L, 0, none⟩)] w fun e w' => e = .returned (.bool false) ∧ w' = w := by
  unfold Lg at h
  obtain ⟨f1, f2, f3⟩ := h.facts
  clear h
  go_enter Tryz.func68, Tryz.ntmps68
  go_wp2
  go_ret
  exact ⟨rfl, rfl⟩
set_option maxRecDepth 100000 in
set_option maxHeartbeats 8000000 in
theorem snapshot_any (L : Nat) (rec : Value) (D : Nat) (w : World) (h : Lg w L rec D) : Calls Tryz.prog 31 #[.pointer (some ⟨L, 0, none⟩)] w fun e w' => e = .returned (.slice none 0 0) ∧ w' = w := by
  have HN := Lib.hid (lognone_any L rec D w h)
  have HC := Lib.hid (clone0_any w)
  unfold Lg at h
  obtain ⟨f1, f2, f3⟩ := h.facts
  clear h
  go_enter Tryz.func31, Tryz.ntmps31
  go_wp2_with (first
    | (go_at_call 68; refine (HN.out).mono ?_; rintro e w1 ⟨rfl, rfl⟩)
    | (go_at_call 57; refine (HC.out).mono ?_; rintro e w2 ⟨rfl, rfl⟩))
  go_ret
  exact ⟨rfl, rfl⟩
set_option maxRecDepth 100000 in
set_option maxHeartbeats 8000000 in
theorem records_any (L D : Nat) (w : World) (h : Lg w L (.slice none 0 0) D) : Calls Tryz.prog 34 #[.pointer (some ⟨L, 0, none⟩)] w fun e w' => e = .returned (.slice none 0 0) ∧ w' = w := by
  have HN := Lib.hid (lognone_any L _ D w h)
  unfold Lg at h
  obtain ⟨f1, f2, f3⟩ := h.facts
  clear h
  go_enter Tryz.func34, Tryz.ntmps34
  go_wp2_with (go_at_call 68; refine (HN.out).mono ?_; rintro e w1 ⟨rfl, rfl⟩)
  go_loopg [14, 3] 1 (fun gg z v wr => z = .int .i64 0 ∧ v = .slice none 0 0 ∧ gg = 1 ∧ wr = w1)
  case atStart => exact ⟨rfl, rfl, rfl, rfl⟩
  case round =>
    obtain ⟨rfl, rfl, rfl, rfl⟩ := hrel
    have h8 : ¬ (0 : Int) < ((0 : Nat) : Int) := by omega
    go_wp2
    go_ret
    exact ⟨rfl, rfl⟩
/-- a book without posts -/
def Bo (w : World) (b : Nat) : Prop := ∃ cs, Bk 148 w b cs ∧ cs[0]? = some (.bool true) ∧ cs[513]? = some (.slice none 0 0)
theorem Bo.ext {w w' : World} {b : Nat} (h : Bo w b) (hb : Below w.heap.size w w') : Bo w' b := by obtain ⟨cs, h1, h2, h3⟩ := h; exact ⟨cs, h1.ext hb, h2, h3⟩
theorem Bo.cells {w : World} {b : Nat} (h : Bo w b) : w.cell? ⟨b, 0, none⟩ = some (.bool true) ∧ w.cell? ⟨b, 513, none⟩ = some (.slice none 0 0) ∧ b < w.heap.size := by
  obtain ⟨cs, h1, h2, h3⟩ := h
  exact ⟨(h1.cell 0).trans h2, (h1.cell 513).trans h3, h1.lt⟩
set_option maxRecDepth 100000 in
set_option maxHeartbeats 8000000 in
theorem newbook_any (w : World) : Calls Tryz.prog 67 #[] w fun e w' => e = .returned (.pointer (some ⟨w.heap.size, 0, none⟩)) ∧ Bo w' w.heap.size ∧ Below w.heap.size w w' := by
  go_enter Tryz.func67, Tryz.ntmps67
  go_wp2
  go_ret
  refine ⟨rfl, ⟨_, Bk.new _ _ _, by rfl, by rfl⟩, ext_alloc _ _⟩
set_option maxRecDepth 100000 in
set_option maxHeartbeats 8000000 in
theorem booknone_any (b : Nat) (w : World) (h : Bo w b) : Calls Tryz.prog 64 #[.pointer (some ⟨b, 0, none⟩)] w fun e w' => e = .returned (.bool false) ∧ w' = w := by
  obtain ⟨f1, f2, f3⟩ := h.cells
  clear h
  go_enter Tryz.func64, Tryz.ntmps64
  go_wp2
  go_ret
  exact ⟨rfl, rfl⟩
set_option maxRecDepth 100000 in
set_option maxHeartbeats 8000000 in
theorem save_any (b : Nat) (w : World) (h : Bo w b) : Calls Tryz.prog 51 #[.pointer (some ⟨b, 0, none⟩)] w fun e w' => e = .returned (.slice none 0 0) ∧ w' = w := by
  have HN := Lib.hid (booknone_any b w h)
  obtain ⟨f1, f2, f3⟩ := h.cells
  clear h
  go_enter Tryz.func51, Tryz.ntmps51
  go_wp2_with (go_at_call 64; refine (HN.out).mono ?_; rintro e w1 ⟨rfl, rfl⟩)
  go_loopg [15, 3] 1 (fun gg z v wr => z = .int .i64 0 ∧ v = .slice none 0 0 ∧ gg = 1 ∧ wr = w1)
  case atStart => exact ⟨rfl, rfl, rfl, rfl⟩
  case round =>
    obtain ⟨rfl, rfl, rfl, rfl⟩ := hrel
    have h8 : ¬ (0 : Int) < ((0 : Nat) : Int) := by omega
    go_wp2
    go_ret
    exact ⟨rfl, rfl⟩
set_option maxRecDepth 100000 in
set_option maxHeartbeats 8000000 in
theorem load_any (w : World) : Calls Tryz.prog 50 #[.slice none 0 0] w fun e w' => e = .returned (.tuple #[.pointer (some ⟨w.heap.size, 0, none⟩), .int .i64 0]) ∧ Bo w' w.heap.size ∧ Below w.heap.size w w' := by
  have HN := Lib.hid (newbook_any w)
  go_enter Tryz.func50, Tryz.ntmps50
  go_wp2_with (go_at_call 67; refine (HN.out).mono ?_; rintro e w1 ⟨rfl, hb1, hx1⟩; have HB1 := Lib.hid hb1; have HX1 := Lib.hid hx1; clear hb1 hx1)
  go_loopg [0] 1 (fun gg z wr => z = .slice none 0 0 ∧ gg = 1 ∧ wr = w1)
  case atStart => exact ⟨rfl, rfl, rfl⟩
  case round =>
    obtain ⟨rfl, rfl, rfl⟩ := hrel
    have h8 : ¬ (0 : Int) < ((0 : Nat) : Int) := by omega
    go_wp2
    refine bodyPost_ret (v := .tuple #[.pointer (some ⟨w.heap.size, 0, none⟩), .int .i64 0]) (by simp [results, Tryz.results50, go_sem]) rfl ?_
    exact ⟨rfl, HB1.out, HX1.out⟩
end Go.Proofs.YtjadbipbidghdaaGreatDoor
