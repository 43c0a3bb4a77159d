/- The reference's holes walked. Conditions: the class function of a grid, a class's box. -/
import Derived.Test.YtmgofdgbenfjmaaDoorHoP
import Derived.Test.YtmgofdgbenfjmaaDoorRu
namespace Go.Proofs.YtmgofdgbenfjmaaDoor
open Go.RowKit

/-- in a rectangle -/
def InR (X Y A B x y : Int) : Prop := X ≤ x ∧ x - X < A ∧ Y ≤ y ∧ y - Y < B
instance (X Y A B x y : Int) : Decidable (InR X Y A B x y) := by unfold InR; infer_instance
set_option maxRecDepth 100000 in
set_option maxHeartbeats 4000000 in
theorem rinI_any (X Y A B x y : Int) (W : World) (hX : -100 ≤ X ∧ X ≤ 100) (hY : -100 ≤ Y ∧ Y ≤ 100) (hx : -100 ≤ x ∧ x ≤ 100) (hy : -100 ≤ y ∧ y ≤ 100) :
    Calls Tryd.prog 89 #[.agg #[.int .i64 X, .int .i64 Y, .int .i64 A, .int .i64 B], .int .i64 x, .int .i64 y] W fun e w' => e = .returned (.bool (decide (InR X Y A B x y))) ∧ Below W.heap.size W w' := by
  by_cases h0 : X ≤ x
  · by_cases h1 : x - X < A
    · by_cases h2 : Y ≤ y
      · by_cases h3 : y - Y < B
        · rw [decide_eq_true (show InR X Y A B x y from ⟨h0, h1, h2, h3⟩)]
          go_enter Tryd.func89, Tryd.ntmps89
          go_wp2
          go_ret
          exact ⟨rfl, ext_alloc _ _⟩
        · rw [decide_eq_false (show ¬ InR X Y A B x y from fun h => h3 h.2.2.2)]
          go_enter Tryd.func89, Tryd.ntmps89
          go_wp2
          go_ret
          exact ⟨rfl, ext_alloc _ _⟩
      · rw [decide_eq_false (show ¬ InR X Y A B x y from fun h => h2 h.2.2.1)]
        go_enter Tryd.func89, Tryd.ntmps89
        go_wp2
        go_ret
        exact ⟨rfl, ext_alloc _ _⟩
    · rw [decide_eq_false (show ¬ InR X Y A B x y from fun h => h1 h.2.1)]
      go_enter Tryd.func89, Tryd.ntmps89
      go_wp2
      go_ret
      exact ⟨rfl, ext_alloc _ _⟩
  · rw [decide_eq_false (show ¬ InR X Y A B x y from fun h => h0 h.1)]
    go_enter Tryd.func89, Tryd.ntmps89
    go_wp2
    go_ret
    exact ⟨rfl, ext_alloc _ _⟩
theorem falses_cellsB (n : Nat) : madeCells #[Value.bool false] n = cellsB n fun _ => false := by
  apply Array.ext'
  rw [toList_madeCells_one]
  simp [cellsB]
  apply List.ext_getElem <;> simp
theorem run_falses (n : Nat) (h : n ≤ 1000000) (W : World) : (Instr.makeSlice 58 (.int .i64 (n : Int)) (.int .i64 (n : Int))).run Tryd.prog W = .ok (.slice (some ⟨W.heap.size, 0, none⟩) n n) (W.alloc (.cells (cellsB n fun _ => false) 4)) := by
  obtain ⟨i, hi, hz, hsz, hby⟩ := info_parts (show (Tryd.prog.info? 4).map (fun i => (i.zero, i.size, i.bytes)) = some (some (.bool false), 1, 1) from by kernel_rfl)
  have hr := run_make (P := Tryd.prog) W 58 4 i (.bool false) Tryd.underlying58 hi hz .i64 .i64 n n (by omega) (by omega) (by rw [hby]; omega) (by omega)
  rw [hr, hsz, Nat.mul_one, Int.toNat_natCast]
  rw [show (Value.bool false).cells = #[Value.bool false] from rfl, falses_cellsB]
theorem own_cut {w : World} {base : Nat} {e : TypeId} {sz : Nat} {A : Option Addr} {n cap : Nat} {xs : List Value} (h : w.ownsRow base e sz (.slice A n cap) n xs) {m : Nat} (hm : m ≤ n) (hA : 0 < n) : w.ownsRow base e sz (.slice A m cap) m (xs.take (m * sz)) := by
  obtain ⟨hl, h⟩ := h
  rcases h with ⟨hv, h0⟩ | ⟨g, c, cur, hv, hg, hh, hn, hmx, hcur, hx⟩
  · omega
  · injection hv with e1 _ e3
    subst e1
    have e3' : cap = c := e3
    subst e3'
    have hms : m * sz ≤ n * sz := Nat.mul_le_mul_right _ hm
    refine ⟨by rw [List.length_take, hl]; omega, .inr ⟨g, cap, cur, rfl, hg, hh, by omega, hmx, hcur, ?_⟩⟩
    rw [← hx, List.take_take]
    congr 1
    omega
/-- the stack of numbers -/
def Vn (base : Nat) (w : World) (v : Value) (T : List Nat) : Prop := Vi base w v (T.map fun (k : Nat) => (k : Int))
theorem Vn.top {base : Nat} {w : World} {v : Value} {T : List Nat} {c : Nat} (h : Vn base w v (T ++ [c])) : ∃ g cap, v = .slice (some ⟨g, 0, none⟩) (T.length + 1) cap ∧ T.length + 1 ≤ cap ∧ cap ≤ maxLen ∧ base ≤ g ∧ g < w.heap.size ∧ w.cell? ⟨g, T.length, none⟩ = some (.int .i64 (c : Int)) ∧ Vn base w (.slice (some ⟨g, 0, none⟩) T.length cap) T := by
  unfold Vn Vi at h
  obtain ⟨A, cap, hv, h1, h2, h3⟩ := own_cells h
  rw [hv] at h
  have e : ((T ++ [c]).map fun (k : Nat) => (k : Int)).length = T.length + 1 := by simp
  rw [e] at h h1 h3
  rcases h3 with h3 | ⟨g, rfl, hb, hg, hc⟩
  · omega
  · refine ⟨g, cap, by rw [hv, e], h1, h2, hb, hg, hc T.length _ (by simp [ints]), ?_⟩
    have h4 := own_cut h (m := T.length) (by omega) (by omega)
    have e2 : (ints ((T ++ [c]).map fun (k : Nat) => (k : Int))).take (T.length * 1) = ints (T.map fun (k : Nat) => (k : Int)) := by
      rw [Nat.mul_one, List.map_append, ints_append, List.take_left' (by simp [ints])]
    rw [e2] at h4
    unfold Vn Vi
    rw [List.length_map]
    exact h4
theorem Vn.empty {base : Nat} {w : World} {v : Value} (h : Vn base w v []) : ∃ A cap, v = .slice A 0 cap := by
  obtain ⟨A, cap, hv, _⟩ := own_cells h
  exact ⟨A, cap, hv⟩
theorem updB_false (f : Nat → Bool) (i : Nat) : updB f i false = updF f i := rfl
/-- the frame's marks set so far -/
def cutB (f : Nat → Bool) (k : Nat) : Nat → Bool := fun j => if j < k then f j else false
theorem cutB_set (f : Nat → Bool) (k : Nat) : updB (cutB f k) k (f k) = cutB f (k + 1) := by
  funext j
  unfold updB cutB
  by_cases e : j = k
  · subst e; rw [if_pos rfl, if_pos (by omega)]
  · rw [if_neg e]
    by_cases h : j < k
    · rw [if_pos h, if_pos (by omega)]
    · rw [if_neg h, if_neg (by omega)]
theorem OwB.congr {b n : Nat} {d e : Nat → Bool} {w : World} (h : OwB b n d w) (hd : ∀ i, i < n → d i = e i) : OwB b n e w := by
  have : cellsB n d = cellsB n e := by
    unfold cellsB
    congr 1
    apply List.map_congr_left
    intro a ha
    rw [hd a (List.mem_range.1 ha)]
  unfold OwB
  rw [← this]
  exact h
theorem nil_snoc {α : Type} (l : List α) : l = [] ∨ ∃ l' x, l = l' ++ [x] := by
  rcases List.eq_nil_or_concat l with h | ⟨l', x, h⟩
  · exact .inl h
  · exact .inr ⟨l', x, by simpa using h⟩
set_option maxRecDepth 100000 in
set_option maxHeartbeats 8000000 in
theorem rholes_any (v n hh N : Nat) (cl : Nat → Int) (p : Nat) (L : List Cel) (b : Bx) (w : World) (hn : n ≤ 48) (hhh : hh ≤ 48) (hN : N = n * hh) (ho : Ow 3 v N cl w) (hb1 : 0 ≤ b.x0 ∧ b.x0 ≤ b.x1 ∧ b.x1 < n) (hb2 : 0 ≤ b.y0 ∧ b.y0 ≤ b.y1 ∧ b.y1 < hh)
    (hL : ∀ c ∈ L, b.inB c = true) (hcl : ∀ x y : Nat, b.inB ((x : Int), (y : Int)) = true → (((x : Int), (y : Int)) ∈ L ↔ cl (n * y + x) = (p : Int))) :
    Calls Tryd.prog 51 #[.slice (some ⟨v, 0, none⟩) N N, .int .i64 (n : Int), .int .i64 (p : Int), .agg #[.int .i64 b.x0, .int .i64 b.y0, .int .i64 (b.x1 - b.x0 + 1), .int .i64 (b.y1 - b.y0 + 1)]] w fun e w' => e = .returned (.int .i64 (holesL L b 3000 : Int)) ∧ Below w.heap.size w w' := by
  obtain ⟨Wn, hW⟩ := Int.eq_ofNat_of_zero_le (show 0 ≤ b.x1 + 1 - b.x0 by omega)
  obtain ⟨Hn, hH⟩ := Int.eq_ofNat_of_zero_le (show 0 ≤ b.y1 + 1 - b.y0 by omega)
  have hW : b.x1 + 1 - b.x0 = (Wn : Nat) := hW
  have hH : b.y1 + 1 - b.y0 = (Hn : Nat) := hH
  have hWe : b.x1 - b.x0 + 1 = (Wn : Int) := by omega
  have hHe : b.y1 - b.y0 + 1 = (Hn : Int) := by omega
  have hW48 : Wn ≤ 48 := by omega
  have hH48 : Hn ≤ 48 := by omega
  rw [hWe, hHe]
  obtain ⟨fw, hfw⟩ : ∃ fw, fw = Wn + 2 := ⟨_, rfl⟩
  obtain ⟨fh, hfh⟩ : ∃ fh, fh = Hn + 2 := ⟨_, rfl⟩
  obtain ⟨M, hM⟩ : ∃ M, M = fw * fh := ⟨_, rfl⟩
  obtain ⟨F0, hF0⟩ : ∃ F0 : Nat → Bool, F0 = fun i => freeL L b (celF b fw i) := ⟨_, rfl⟩
  have HRC := Lib.hid (show RcN M F0 (AdjF fw) (fun i j => Rch nearL (freeL L b) (celF b fw i) (celF b fw j)) from by
    have h := rcn_frame (l := L) hW hH (F0 := F0) (fun i _ => by rw [hF0, hfw])
    rw [← hfw, ← hfh, ← hM] at h
    exact h)
  have HFR := Lib.hid (show ∀ i, F0 i = true → freeL L b (celF b fw i) = true from fun i h => by rw [hF0] at h; exact h)
  have HFF := Lib.hid (show ∀ i, F0 i = false → freeL L b (celF b fw i) = false from fun i h => by rw [hF0] at h; exact h)
  have HFC := Lib.hid (show boxCells b.fr = (List.range M).map (celF b fw) from by rw [hM, hfw, hfh]; exact frame_cells hW hH)
  have HEND := Lib.hid (show ∀ K, Fc (Rch nearL (freeL L b)) (freeL L b) [] (boxCells b.fr) K → K = holesL L b 3000 + 1 from fun K hK => by
    refine holes_frame (U := boxCells b.fr) (by omega) (by omega) hL (fun c hc => ?_) ?_ hK
    · unfold freeL at hc
      simp only [Bool.and_eq_true, decide_eq_true_eq] at hc
      rw [mem_box]; unfold Bx.fr; dsimp only; omega
    · rw [frame_cells hW hH, List.length_map, List.length_range]
      exact Nat.le_trans (Nat.mul_le_mul (show Wn + 2 ≤ 50 by omega) (show Hn + 2 ≤ 50 by omega)) (by decide))
  have HF1 := Lib.hid (show ∀ i, i < M → ∀ px py : Nat, px = i % fw → py = i / fw → ¬ InR b.x0 b.y0 (Wn : Int) (Hn : Int) (b.x0 - 1 + (px : Int)) (b.y0 - 1 + (py : Int)) → F0 i = true from fun i hi px py h1 h2 h3 => by
    have hpx : px < fw := by rw [h1]; exact Nat.mod_lt _ (by omega)
    have hpy : py < fh := by rw [h2]; exact Nat.div_lt_of_lt_mul (by rw [← hM]; exact hi)
    rw [hF0]
    show freeL L b (celF b fw i) = true
    unfold celF
    rw [← h1, ← h2]
    rw [free_out hL ⟨by dsimp only; omega, by dsimp only; omega, by dsimp only; omega, by dsimp only; omega⟩]
    unfold InR at h3
    have : (b.x0 - 1 + (px : Int), b.y0 - 1 + (py : Int)) ∉ L := fun hm => by
      have := hL _ hm
      unfold Bx.inB at this
      simp only [Bool.and_eq_true, decide_eq_true_eq] at this
      omega
    rw [decide_eq_false this]; rfl)
  have HF2 := Lib.hid (show ∀ i, i < M → ∀ px py : Nat, px = i % fw → py = i / fw → InR b.x0 b.y0 (Wn : Int) (Hn : Int) (b.x0 - 1 + (px : Int)) (b.y0 - 1 + (py : Int)) → ∃ xn yn : Nat, b.x0 - 1 + (px : Int) = (xn : Int) ∧ b.y0 - 1 + (py : Int) = (yn : Int) ∧ xn < n ∧ yn < hh ∧ F0 i = !decide (cl (n * yn + xn) = (p : Int)) from fun i hi px py h1 h2 h3 => by
    unfold InR at h3
    obtain ⟨xn, hxn⟩ := Int.eq_ofNat_of_zero_le (show 0 ≤ b.x0 - 1 + (px : Int) by omega)
    obtain ⟨yn, hyn⟩ := Int.eq_ofNat_of_zero_le (show 0 ≤ b.y0 - 1 + (py : Int) by omega)
    refine ⟨xn, yn, hxn, hyn, by omega, by omega, ?_⟩
    rw [hF0]
    show freeL L b (celF b fw i) = _
    unfold celF
    rw [← h1, ← h2]
    rw [free_out hL ⟨by dsimp only; omega, by dsimp only; omega, by dsimp only; omega, by dsimp only; omega⟩]
    have hin : b.inB ((xn : Int), (yn : Int)) = true := by
      unfold Bx.inB
      simp only [Bool.and_eq_true, decide_eq_true_eq]
      omega
    have := hcl xn yn hin
    rw [show (b.x0 - 1 + (px : Int), b.y0 - 1 + (py : Int)) = ((xn : Int), (yn : Int)) from by rw [hxn, hyn]]
    congr 1
    rw [decide_eq_decide]; exact this)
  have HO := Lib.hid ho
  have hvb := ho.lt
  have hX0 := hb1.1
  have hX1 : b.x0 ≤ 48 := by omega
  have hY0 := hb2.1
  have hY1 : b.y0 ≤ 48 := by omega
  have hfwb : fw ≤ 50 ∧ 3 ≤ fw := by omega
  have hfhb : fh ≤ 50 ∧ 3 ≤ fh := by omega
  have hMb : M ≤ 2500 := by rw [hM]; exact Nat.mul_le_mul hfwb.1 hfhb.1
  have hMi : (fw : Int) * (fh : Int) = (M : Int) := by rw [hM]; push_cast; rfl
  have hfwi : (Wn : Int) + 2 = (fw : Int) := by omega
  have hfhi : (Hn : Int) + 2 = (fh : Int) := by omega
  have hNi : N = n * hh := hN
  have HM := Lib.hid hM
  have hNb : N ≤ 48 * 48 := by rw [hN]; exact Nat.mul_le_mul hn hhh
  have HN := Lib.hid hN
  have HIN := Lib.hid (fun x y W h1 h2 => rinI_any b.x0 b.y0 (Wn : Int) (Hn : Int) x y W ⟨by omega, by omega⟩ ⟨by omega, by omega⟩ h1 h2)
  have hmk : ∀ W, (Instr.makeSlice 58 (.int .i64 (M : Int)) (.int .i64 (M : Int))).run Tryd.prog W = .ok (.slice (some ⟨W.heap.size, 0, none⟩) M M) (W.alloc (.cells (cellsB M fun _ => false) 4)) := fun W => run_falses M (by omega) W
  obtain ⟨R, hR⟩ : ∃ R : Cel → Cel → Prop, R = Rch nearL (freeL L b) := ⟨_, rfl⟩
  obtain ⟨is, his⟩ : ∃ is, is = freeL L b := ⟨_, rfl⟩
  obtain ⟨ce, hce⟩ : ∃ ce, ce = celF b fw := ⟨_, rfl⟩
  obtain ⟨fc, hfc⟩ : ∃ fc, fc = boxCells b.fr := ⟨_, rfl⟩
  obtain ⟨res, hres⟩ : ∃ res, res = holesL L b 3000 := ⟨_, rfl⟩
  rw [← hR, ← his, ← hfc, ← hres] at HEND
  rw [← hfc, ← hce] at HFC
  rw [← his, ← hce] at HFR HFF
  have HRC := Lib.hid (show RcN M F0 (AdjF fw) (fun i j => R (ce i) (ce j)) from by rw [hR, hce]; exact HRC.out)
  rw [← hres]
  obtain ⟨X, hX⟩ : ∃ X, X = b.x0 := ⟨_, rfl⟩
  obtain ⟨Y, hY⟩ : ∃ Y, Y = b.y0 := ⟨_, rfl⟩
  rw [← hX, ← hY]
  rw [← hX] at hX0 hX1 HF1 HF2 HIN
  rw [← hY] at hY0 hY1 HF1 HF2 HIN
  clear hX hY hR his hce hfc hres hF0 hcl hL hb1 hb2 ho hW hH hWe hHe hM hN hfw hfh hNi
  have HR0 := Lib.hid (Bk.new 31 w #[.int .i64 X, .int .i64 Y, .int .i64 (Wn : Int), .int .i64 (Hn : Int)])
  have HX0 := Lib.hid (ext_alloc w (.cells #[.int .i64 X, .int .i64 Y, .int .i64 (Wn : Int), .int .i64 (Hn : Int)] 31))
  obtain ⟨f1, f2, f3⟩ := HR0.out.facts
  go_enter Tryd.func51, Tryd.ntmps51
  obtain ⟨rb, hrb⟩ : ∃ rb, rb = w.heap.size := ⟨_, rfl⟩
  obtain ⟨w1, hw1⟩ : ∃ w1, w1 = w.alloc (.cells #[.int .i64 X, .int .i64 Y, .int .i64 (Wn : Int), .int .i64 (Hn : Int)] 31) := ⟨_, rfl⟩
  go_upto_region 1 with (fail)
  rw [← hw1, ← hrb]
  rw [← hw1, ← hrb] at HR0 f1 f2 f3
  rw [← hw1] at HX0
  have HW1 := Lib.hid (show w1.heap.size = rb + 1 from by rw [hw1, hrb]; simp)
  have hrbw : w.heap.size ≤ rb := by omega
  clear hw1 hrb
  go_quiet (fail)
  have HRQ := Lib.hid (HR0.out.ext (ext_drewN w1 nq))
  have HXQ := Lib.hid (bdrewN HX0.out nq)
  obtain ⟨w2, hw2⟩ : ∃ w2, w2 = w1.drewN nq := ⟨_, rfl⟩
  rw [← hw2] at HRQ HXQ ⊢
  have HW2 := Lib.hid (show w2.heap.size = rb + 1 from by rw [hw2]; exact HW1.out)
  clear hw2 HW1 f1 f2 f3 HR0 HX0
  have HFN := Lib.hid (OwB.new w2 M (fun _ => false))
  have HRN := Lib.hid (HRQ.out.ext (ext_alloc w2 (.cells (cellsB M fun _ => false) 4)))
  have HXN := Lib.hid (bext HXQ.out (ext_alloc w2 (.cells (cellsB M fun _ => false) 4)) HXQ.out.size)
  go_upto_region 3 with (fail)
  obtain ⟨fb, hfb⟩ : ∃ fb, fb = w2.heap.size := ⟨_, rfl⟩
  obtain ⟨w3, hw3⟩ : ∃ w3, w3 = w2.alloc (.cells (cellsB M fun _ => false) 4) := ⟨_, rfl⟩
  rw [← hfb, ← hw3]
  rw [← hfb, ← hw3] at HFN
  rw [← hw3] at HRN HXN
  have hfw' : w.heap.size ≤ fb := by rw [hfb, HW2.out]; omega
  have hrf : rb ≠ fb := by rw [hfb, HW2.out]; omega
  have hvf : v ≠ fb := by rw [hfb, HW2.out]; omega
  clear hw3 hfb HW2 HRQ HXQ hmk
  go_wp2_with (fail)
  go_loopg [33] M (fun gg z wr => ∃ k : Nat, z = .int .i64 k ∧ k ≤ M ∧ gg = M - k ∧ OwB fb M (cutB F0 k) wr ∧ Bk 31 wr rb #[.int .i64 X, .int .i64 Y, .int .i64 (Wn : Int), .int .i64 (Hn : Int)] ∧ Below w.heap.size w wr)
  case atStart => exact ⟨0, rfl, by omega, by omega, HFN.out.congr (fun i _ => by unfold cutB; rw [if_neg (by omega)]), HRN.out, HXN.out⟩
  case round =>
    obtain ⟨k, rfl, hk, hg, hf, hr, hb⟩ := hrel
    have HG := Lib.hid hg
    have HF := Lib.hid hf
    have HR := Lib.hid hr
    have HB := Lib.hid hb
    obtain ⟨f1, f2, f3⟩ := hr.facts
    clear hg hf hr hb HFN HRN HXN
    by_cases hlt : k < M
    · obtain ⟨px, hpx⟩ : ∃ px, px = k % fw := ⟨_, rfl⟩
      obtain ⟨py, hpy⟩ : ∃ py, py = k / fw := ⟨_, rfl⟩
      have hpn : px < fw := by rw [hpx]; exact Nat.mod_lt _ (by omega)
      have hpk : py < fh := by rw [hpy]; exact Nat.div_lt_of_lt_mul (by rw [← HM.out]; exact hlt)
      have htm : (k : Int).tmod (fw : Int) = (px : Int) := by rw [Int.tmod_eq_emod_of_nonneg (by omega), hpx]; push_cast; rfl
      have htd : (k : Int).tdiv (fw : Int) = (py : Int) := by rw [Int.tdiv_eq_ediv_of_nonneg (by omega), hpy]; push_cast; rfl
      have hn0 : ¬ (fw : Int) = 0 := by omega
      have H1 := Lib.hid (HF1.out k hlt px py hpx hpy)
      have H2 := Lib.hid (HF2.out k hlt px py hpx hpy)
      clear hpx hpy
      go_upto_region 6 with (fail)
      go_quiet (fail)
      have HF4 := Lib.hid (HF.out.ext (ext_drewN wr nq))
      have HR4 := Lib.hid (HR.out.ext (ext_drewN wr nq))
      have HB4 := Lib.hid (bdrewN HB.out nq)
      obtain ⟨w5, hw5⟩ : ∃ w5, w5 = wr.drewN nq := ⟨_, rfl⟩
      rw [← hw5] at HF4 HR4 HB4 ⊢
      clear hw5 f1 f2 f3 HF HR HB htm htd hn0
      obtain ⟨f1, f2, f3⟩ := HR4.out.facts
      have HIK := Lib.hid (HIN.out (X - 1 + (px : Int)) (Y - 1 + (py : Int)) w5 ⟨by omega, by omega⟩ ⟨by omega, by omega⟩)
      by_cases hin : InR X Y (Wn : Int) (Hn : Int) (X - 1 + (px : Int)) (Y - 1 + (py : Int))
      · rw [decide_eq_true hin] at HIK
        obtain ⟨xn, yn, hxe, hye, hxb, hyb, hF⟩ := H2.out hin
        rw [hxe, hye] at HIK
        obtain ⟨yw, hyw⟩ : ∃ yw, yw = n * yn := ⟨_, rfl⟩
        have hyi : (yn : Int) * (n : Int) = (yw : Int) := by rw [hyw, Int.mul_comm]; push_cast; rfl
        have hyN : yw + n ≤ N := by rw [hyw, HN.out, ← Nat.mul_succ]; exact Nat.mul_le_mul_left n hyb
        obtain ⟨ix, hix⟩ : ∃ ix, ix = yw + xn := ⟨_, rfl⟩
        have hixi : (yw : Int) + (xn : Int) = (ix : Int) := by omega
        have hixN : ix < N := by omega
        rw [← hyw, ← hix] at hF
        have c1 := (HB4.out.cell (p := ⟨v, ix, none⟩) hvb).trans (HO.out.cell hixN)
        obtain ⟨cv, hcv⟩ : ∃ cv, cv = cl ix := ⟨_, rfl⟩
        rw [← hcv] at c1 hF
        have hixN2 : (ix : Int) < (N : Int) := by omega
        have hv5 : v < w5.heap.size := Nat.lt_of_lt_of_le hvb HB4.out.size
        clear hyw hix hcv H1 H2 hin hyN hixN
        by_cases hcp : cv = (p : Int)
        · rw [decide_eq_true hcp] at hF
          have HST := Lib.hid (fun W (hW : OwB fb M (cutB F0 k) W) => show OwB fb M (cutB F0 (k + 1)) (W.setCell ⟨fb, k, none⟩ (.bool false)) from by
            have h := hW.set k (F0 k)
            rw [cutB_set, hF] at h; exact h)
          have hne : (cv != (p : Int)) = false := by rw [hcp]; simp
          clear hcp hF
          go_wp2_with (go_at_call 89; refine (HIK.out).mono ?_; rintro r6 w6 ⟨rfl, hx6⟩; have HF6 := Lib.hid (HF4.out.ext hx6); have HR6 := Lib.hid (HR4.out.ext hx6); have HB6 := Lib.hid (bext HB4.out hx6 HB4.out.size); have c2 := (hx6.cell (p := ⟨v, ix, none⟩) hv5).trans c1; have v6 := Nat.lt_of_lt_of_le hv5 hx6.size; clear hx6; have q1 := HF6.out.cell hlt; have q2 := HF6.out.frozen k; have q3 := HF6.out.lt)
          all_goals go_roundg (M - (k + 1))
          all_goals first | (have := HG.out; omega) | exact ⟨k + 1, by go_num, by omega, rfl, HST.out _ HF6.out, HR6.out.set_ne hrf _, HB6.out.setCell hfw' _⟩
        · rw [decide_eq_false hcp] at hF
          have HST := Lib.hid (fun W (hW : OwB fb M (cutB F0 k) W) => show OwB fb M (cutB F0 (k + 1)) (W.setCell ⟨fb, k, none⟩ (.bool true)) from by
            have h := hW.set k (F0 k)
            rw [cutB_set, hF] at h; exact h)
          have hne : (cv != (p : Int)) = true := by simpa using hcp
          clear hcp hF
          go_wp2_with (go_at_call 89; refine (HIK.out).mono ?_; rintro r6 w6 ⟨rfl, hx6⟩; have HF6 := Lib.hid (HF4.out.ext hx6); have HR6 := Lib.hid (HR4.out.ext hx6); have HB6 := Lib.hid (bext HB4.out hx6 HB4.out.size); have c2 := (hx6.cell (p := ⟨v, ix, none⟩) hv5).trans c1; have v6 := Nat.lt_of_lt_of_le hv5 hx6.size; clear hx6; have q1 := HF6.out.cell hlt; have q2 := HF6.out.frozen k; have q3 := HF6.out.lt)
          all_goals go_roundg (M - (k + 1))
          all_goals first | (have := HG.out; omega) | exact ⟨k + 1, by go_num, by omega, rfl, HST.out _ HF6.out, HR6.out.set_ne hrf _, HB6.out.setCell hfw' _⟩
      · rw [decide_eq_false hin] at HIK
        have hF := H1.out hin
        have HST := Lib.hid (fun W (hW : OwB fb M (cutB F0 k) W) => show OwB fb M (cutB F0 (k + 1)) (W.setCell ⟨fb, k, none⟩ (.bool true)) from by
          have h := hW.set k (F0 k)
          rw [cutB_set, hF] at h; exact h)
        clear hF hin H1 H2
        go_wp2_with (go_at_call 89; refine (HIK.out).mono ?_; rintro r6 w6 ⟨rfl, hx6⟩; have HF6 := Lib.hid (HF4.out.ext hx6); have HR6 := Lib.hid (HR4.out.ext hx6); have HB6 := Lib.hid (bext HB4.out hx6 HB4.out.size); clear hx6; have q1 := HF6.out.cell hlt; have q2 := HF6.out.frozen k; have q3 := HF6.out.lt)
        all_goals go_roundg (M - (k + 1))
        all_goals first | (have := HG.out; omega) | exact ⟨k + 1, by go_num, by omega, rfl, HST.out _ HF6.out, HR6.out.set_ne hrf _, HB6.out.setCell hfw' _⟩
    · obtain rfl : k = M := by omega
      have HF5 := Lib.hid (show OwB fb k F0 wr from HF.out.congr (fun i hi => by unfold cutB; rw [if_pos hi]))
      clear HF HR f1 f2 f3 HF1 HF2 HIN HO hlt HN
      obtain ⟨M, rfl⟩ : ∃ M, M = k := ⟨_, rfl⟩
      clear HG hk
      go_wp2_with (fail)
      go_loopg [73, 15] M (fun gg z zn wr => ∃ (k n1 : Nat) (q : Int) (f : Nat → Bool) (Ms : List Nat), z = .int .i64 k ∧ k ≤ M ∧ gg = M - k ∧ zn = .int .i64 q ∧ q = (n1 : Int) - 1 ∧ n1 ≤ k ∧ OwB fb M f wr ∧ Below w.heap.size w wr ∧ OuI M F0 (fun i j => R (ce i) (ce j)) f Ms ∧ (∀ K, Fc R is (Ms.map ce) (((List.range M).drop k).map ce) K → Fc R is [] fc (n1 + K)))
      case atStart => exact ⟨0, 0, -1, F0, [], rfl, by omega, by omega, rfl, by omega, by omega, HF5.out, HB.out, ⟨fun _ _ h => h, fun j _ h0 => by rw [h0]; simp⟩, fun K hK => by rw [HFC.out, Nat.zero_add]; exact hK⟩
      case round =>
        obtain ⟨k, n1, q, f, Ms, rfl, hk, hg, rfl, hq, hn1, hf, hb, hou, hfc⟩ := hrel
        have HG := Lib.hid hg
        have HF := Lib.hid hf
        have HB2 := Lib.hid hb
        have HOU := Lib.hid hou
        have HFK := Lib.hid hfc
        have HQ := Lib.hid hq
        have hqb : -1 ≤ q ∧ q ≤ 3000 := by omega
        clear hg hf hb hou hfc hq HF5 HB
        by_cases hlt : k < M
        · have HDR := Lib.hid (show (List.range M).drop k = k :: (List.range M).drop (k + 1) from by
            rw [List.drop_eq_getElem_cons (by simpa using hlt)]; simp)
          have q1 := HF.out.cell hlt
          have q2 := HF.out.frozen k
          have q3 := HF.out.lt
          cases hfk : f k
          · rw [hfk] at q1
            have HFN := Lib.hid (show ∀ K, Fc R is (Ms.map ce) (((List.range M).drop (k + 1)).map ce) K → Fc R is [] fc (n1 + K) from fun K hK => by
              refine HFK.out K ?_
              rw [HDR.out, List.map_cons]
              refine .skip ?_ hK
              cases h0 : F0 k
              · exact .inl (HFF.out k h0)
              · obtain ⟨m, hm, hr⟩ := (HOU.out.iff k hlt h0).1 hfk
                exact .inr ⟨ce m, List.mem_map_of_mem hm, hr⟩)
            clear hfk
            go_wp2
            go_roundg (M - (k + 1))
            case measure => have := HG.out; omega
            case rel => exact ⟨k + 1, n1, q, f, Ms, by go_num, by omega, rfl, rfl, HQ.out, by omega, HF.out, HB2.out, HOU.out, HFN.out⟩
          · rw [hfk] at q1
            obtain ⟨hd, h0, hnm⟩ := HOU.out.start HRC.out hlt hfk
            have HFN := Lib.hid (show ∀ K, Fc R is ((k :: Ms).map ce) (((List.range M).drop (k + 1)).map ce) K → Fc R is [] fc (n1 + 1 + K) from fun K hK => by
              have h := HFK.out (K + 1) (by
                rw [HDR.out, List.map_cons]
                refine .new (HFR.out k h0) (fun ⟨m, hm, hr⟩ => ?_) hK
                obtain ⟨m', hm', rfl⟩ := List.mem_map.1 hm
                exact hnm ⟨m', hm', hr⟩)
              rw [show n1 + 1 + K = n1 + (K + 1) by omega]; exact h)
            have HD := Lib.hid hd
            have HF0K := Lib.hid h0
            have HCU := Lib.hid (cntF_upd hfk M hlt)
            have HCL := Lib.hid (cntF_le f M)
            have HFS := Lib.hid (show OwB fb M (updF f k) (wr.setCell ⟨fb, k, none⟩ (.bool false)) from HF.out.set k false)
            have HBS := Lib.hid (HB2.out.setCell (p := ⟨fb, k, none⟩) hfw' (.bool false))
            have hfs : fb < wr.heap.size := HF.out.lt
            clear hd h0 hnm hfk HFK
            go_upto_region 16 with (fail)
            obtain ⟨w6, hw6⟩ : ∃ w6, w6 = wr.setCell ⟨fb, k, none⟩ (.bool false) := ⟨_, rfl⟩
            rw [← hw6]
            rw [← hw6] at HFS HBS
            have hfs6 : fb < w6.heap.size := HFS.out.lt
            clear hw6 q1 q2 q3 hfs
            have HVN := Lib.hid (show Vn (fb + 1) (w6.alloc (.cells #[.int .i64 (k : Int)] 3)) (.slice (some ⟨w6.heap.size, 0, none⟩) 1 1) [k] from own_new (w := w6) (base := fb + 1) (n := 1) (m := 1) (e := 3) (sz := 1) (news := [.int .i64 (k : Int)]) rfl (by decide) (by omega) rfl)
            have HFA := Lib.hid (HFS.out.ext (ext_alloc w6 (.cells #[.int .i64 (k : Int)] 3)))
            have HBA := Lib.hid (bext HBS.out (ext_alloc w6 (.cells #[.int .i64 (k : Int)] 3)) HBS.out.size)
            obtain ⟨gm, hgm⟩ : ∃ gm, gm = 2 * cntF (updF f k) M + 1 := ⟨_, rfl⟩
            have HGM := Lib.hid hgm
            have hgmb : gm ≤ 6000 := by have := HCU.out; have := HCL.out; omega
            clear hgm
            go_wp2_with (fail)
            obtain ⟨g0, hg0⟩ : ∃ g0, g0 = w6.heap.size := ⟨_, rfl⟩
            obtain ⟨w7, hw7⟩ : ∃ w7, w7 = w6.alloc (.cells #[.int .i64 (k : Int)] 3) := ⟨_, rfl⟩
            rw [← hg0, ← hw7]
            rw [← hg0, ← hw7] at HVN
            rw [← hw7] at HFA HBA
            clear hg0 hw7 HFS HBS HF HB2 hfs6
            obtain ⟨O, hO⟩ : ∃ O : Nat → Prop, O = fun j => ∃ m ∈ Ms, R (ce m) (ce j) := ⟨_, rfl⟩
            have HOO := Lib.hid hO
            have HD := Lib.hid (show DfI M F0 (AdjF fw) (fun j => R (ce k) (ce j)) O (updF f k) [k] (fun _ => False) from by rw [hO]; exact HD.out)
            clear hO
            go_loopg [17] gm (fun gg tv wr => ∃ (f : Nat → Bool) (T : List Nat), gg = 2 * cntF f M + T.length ∧ gg ≤ 6000 ∧ OwB fb M f wr ∧ Below w.heap.size w wr ∧ Vn (fb + 1) wr tv T ∧ DfI M F0 (AdjF fw) (fun j => R (ce k) (ce j)) O f T (fun _ => False) ∧ f k = false)
            case atStart => exact ⟨updF f k, [k], HGM.out, hgmb, HFA.out, HBA.out, HVN.out, HD.out, by unfold updF; rw [if_pos rfl]⟩
            case round =>
              obtain ⟨f, T, hg, hgb, hf, hb, hv, hd, hfk⟩ := hrel
              have HG2 := Lib.hid hg
              have HGB := Lib.hid hgb
              have HF := Lib.hid hf
              have HB2 := Lib.hid hb
              have HV := Lib.hid hv
              have HD2 := Lib.hid hd
              have HFKK := Lib.hid hfk
              have HLT := Lib.hid hlt
              clear hg hgb hf hb hv hd hfk HVN HFA HBA HD hgmb HGM HCU HCL
              rcases nil_snoc T with hT | ⟨T, c, hT⟩
              · subst hT
                obtain ⟨A, cap, rfl⟩ := HV.out.empty
                have HOU2 := Lib.hid (show OuI M F0 (fun i j => R (ce i) (ce j)) f (k :: Ms) from by
                  have h := HD2.out
                  rw [HOO.out] at h
                  exact h.out HRC.out HLT.out HF0K.out HFKK.out)
                go_wp2
                go_roundg (M - (k + 1))
                case measure => have := HG.out; have := HLT.out; omega
                case rel => exact ⟨k + 1, n1 + 1, q + 1, f, k :: Ms, by go_num, by have := HLT.out; omega, rfl, rfl, by have := HQ.out; omega, by omega, HF.out, HB2.out, HOU2.out, HFN.out⟩
              · subst hT
                obtain ⟨g, cap, rfl, hcap, hcapm, hgb, hgl, ctop, hvt⟩ := HV.out.top
                obtain ⟨hdp, hcM, hc0, hcR, hcf⟩ := HD2.out.pop
                have HDP := Lib.hid hdp
                have HVT := Lib.hid hvt
                obtain ⟨tl, htl⟩ : ∃ tl, tl = T.length := ⟨_, rfl⟩
                have HG2 := Lib.hid (show gk = 2 * cntF f M + tl + 1 from by rw [HG2.out, htl]; simp; omega)
                have HTL := Lib.hid htl
                have hcap' : cap ≤ 9223372036854775807 := by unfold maxLen at hcapm; omega
                rw [← htl] at HVT hcap ctop ⊢
                obtain ⟨m1, hm1⟩ : ∃ m1, m1 = tl + 1 := ⟨_, rfl⟩
                rw [← hm1] at hcap ⊢
                have hm1i : (m1 : Int) - 1 = (tl : Int) := by omega
                have hm1p : (0 : Int) < (m1 : Int) := by omega
                have hm1n : 0 < m1 := by omega
                have hm1t : (tl : Int) < (m1 : Int) := by omega
                have hm1c : (m1 : Int) ≤ (cap : Int) := by omega
                have htlc : tl ≤ cap := by omega
                have htlb : tl ≤ 6000 := by have := HG2.out; have := HGB.out; omega
                obtain ⟨cq, hcq⟩ : ∃ cq, cq = c / fw := ⟨_, rfl⟩
                obtain ⟨cr, hcr⟩ : ∃ cr, cr = c % fw := ⟨_, rfl⟩
                have hcqb : cq < fh := by rw [hcq]; exact Nat.div_lt_of_lt_mul (by rw [← HM.out]; exact hcM)
                have hcrb : cr < fw := by rw [hcr]; exact Nat.mod_lt _ (by omega)
                have hcMb : c ≤ 2500 := by omega
                have htd : (c : Int).tdiv (fw : Int) = (cq : Int) := by rw [Int.tdiv_eq_ediv_of_nonneg (by omega), hcq]; push_cast; rfl
                have htm : (c : Int).tmod (fw : Int) = (cr : Int) := by rw [Int.tmod_eq_emod_of_nonneg (by omega), hcr]; push_cast; rfl
                have hn0 : ¬ (fw : Int) = 0 := by omega
                obtain ⟨vlo, hvlo⟩ : ∃ vlo, vlo = cq - 1 := ⟨_, rfl⟩
                obtain ⟨vhi, hvhi⟩ : ∃ vhi, vhi = min (fh - 1) (cq + 1) := ⟨_, rfl⟩
                obtain ⟨ulo, hulo⟩ : ∃ ulo, ulo = cr - 1 := ⟨_, rfl⟩
                obtain ⟨uhi, huhi⟩ : ∃ uhi, uhi = min (fw - 1) (cr + 1) := ⟨_, rfl⟩
                have hvloi : max 0 ((cq : Int) - 1) = (vlo : Int) := by omega
                have hvhii : min ((fh : Int) - 1) ((cq : Int) + 1) = (vhi : Int) := by omega
                have huloi : max 0 ((cr : Int) - 1) = (ulo : Int) := by omega
                have huhii : min ((fw : Int) - 1) ((cr : Int) + 1) = (uhi : Int) := by omega
                have hvb1 : vlo ≤ vhi + 1 ∧ vhi < fh ∧ vhi ≤ cq + 1 ∧ cq - 1 ≤ vlo := by omega
                have hub1 : ulo ≤ uhi + 1 ∧ uhi < fw ∧ uhi ≤ cr + 1 ∧ cr - 1 ≤ ulo := by omega
                have HADJ := Lib.hid (show ∀ vv uu, vlo ≤ vv → vv ≤ vhi → ulo ≤ uu → uu ≤ uhi → AdjF fw c (vv * fw + uu) from fun vv uu h1 h2 h3 h4 => adj_at (by rw [← hcq]; omega) (by rw [← hcq]; omega) (by rw [← hcr]; omega) (by rw [← hcr]; omega) (by omega))
                have HDN := Lib.hid (show ∀ f, Nbr fw vlo ulo uhi f (vhi + 1) ulo → ∀ k, k < M → AdjF fw c k → f k = false from fun f h => by
                  rw [hvlo, hulo, huhi, hvhi, hcq, hcr] at h
                  have h2 := Nbr.done (fh := fh) (by omega) h
                  rw [← HM.out] at h2; exact h2)
                have HN0 := Lib.hid (show Nbr fw vlo ulo uhi f vlo ulo from Nbr.start)
                have HCC := Lib.hid (And.intro hcM (And.intro hc0 hcR))
                have HF2 := Lib.hid (show 2 * cntF f M + T.length + 1 ≤ gk from by rw [HG2.out, ← HTL.out]; omega)
                obtain ⟨G, hG⟩ : ∃ G, G = gk := ⟨_, rfl⟩
                rw [← hG] at HF2 HGB
                have HGK := Lib.hid hG
                clear hG hdp hcM hc0 hcR hcf hvt htl hm1 hcq hcr hvlo hvhi hulo huhi HD2 HV HG2 hcapm
                go_wp2_with (fail)
                go_loopg [19, 17] (vhi + 1 - vlo) (fun gg z tv wr => ∃ (vv : Nat) (f : Nat → Bool) (T : List Nat), z = .int .i64 vv ∧ vlo ≤ vv ∧ vv ≤ vhi + 1 ∧ gg = vhi + 1 - vv ∧ OwB fb M f wr ∧ Below w.heap.size w wr ∧ Vn (fb + 1) wr tv T ∧ DfI M F0 (AdjF fw) (fun j => R (ce k) (ce j)) O f T (fun j => j = c) ∧ f k = false ∧ 2 * cntF f M + T.length + 1 ≤ G ∧ Nbr fw vlo ulo uhi f vv ulo)
                case atStart => exact ⟨vlo, f, T, rfl, Nat.le_refl _, hvb1.1, rfl, HF.out, HB2.out, HVT.out, HDP.out, HFKK.out, HF2.out, HN0.out⟩
                case round =>
                  obtain ⟨vv, f, T, rfl, hv1, hv2, hg, hf, hb, hvn, hd, hfk, hm, hnb⟩ := hrel
                  have HGV := Lib.hid hg
                  have HF3 := Lib.hid hf
                  have HB3 := Lib.hid hb
                  have HV3 := Lib.hid hvn
                  have HD3 := Lib.hid hd
                  have HFK3 := Lib.hid hfk
                  have HM3 := Lib.hid hm
                  have HN3 := Lib.hid hnb
                  clear hg hf hb hvn hd hfk hm hnb HF HB2 HVT HDP HFKK HF2 HN0 ctop hgl hgb
                  by_cases hvh : vv ≤ vhi
                  · have hvhI : (vv : Int) ≤ (vhi : Int) := by omega
                    obtain ⟨vw, hvw⟩ : ∃ vw, vw = vv * fw := ⟨_, rfl⟩
                    have hvwi : (vv : Int) * (fw : Int) = (vw : Int) := by rw [hvw]; push_cast; rfl
                    have hvwM : vw + fw ≤ M := by rw [hvw, HM.out, ← Nat.succ_mul, Nat.mul_comm]; exact Nat.mul_le_mul_left fw (by omega)
                    have HVW := Lib.hid hvw
                    have HADV := Lib.hid (show ∀ uu, ulo ≤ uu → uu ≤ uhi → AdjF fw c (vw + uu) from fun uu h1 h2 => by rw [hvw]; exact HADJ.out vv uu hv1 hvh h1 h2)
                    clear hvw
                    go_wp2_with (fail)
                    go_loopg [20, 17] (uhi + 1 - ulo) (fun gg z tv wr => ∃ (uu : Nat) (f : Nat → Bool) (T : List Nat), z = .int .i64 uu ∧ ulo ≤ uu ∧ uu ≤ uhi + 1 ∧ gg = uhi + 1 - uu ∧ OwB fb M f wr ∧ Below w.heap.size w wr ∧ Vn (fb + 1) wr tv T ∧ DfI M F0 (AdjF fw) (fun j => R (ce k) (ce j)) O f T (fun j => j = c) ∧ f k = false ∧ 2 * cntF f M + T.length + 1 ≤ G ∧ Nbr fw vlo ulo uhi f vv uu)
                    case atStart => exact ⟨ulo, f, T, rfl, Nat.le_refl _, hub1.1, rfl, HF3.out, HB3.out, HV3.out, HD3.out, HFK3.out, HM3.out, HN3.out⟩
                    case round =>
                      obtain ⟨uu, f, T, rfl, hu1, hu2, hg, hf, hb, hvn, hd, hfk, hm, hnb⟩ := hrel
                      have HGU := Lib.hid hg
                      have HF4 := Lib.hid hf
                      have HB4 := Lib.hid hb
                      have HV4 := Lib.hid hvn
                      have HD4 := Lib.hid hd
                      have HFK4 := Lib.hid hfk
                      have HM4 := Lib.hid hm
                      have HN4 := Lib.hid hnb
                      clear hg hf hb hvn hd hfk hm hnb HF3 HB3 HV3 HD3 HFK3 HM3 HN3
                      by_cases huh : uu ≤ uhi
                      · have huhI : (uu : Int) ≤ (uhi : Int) := by omega
                        obtain ⟨ix, hix⟩ : ∃ ix, ix = vw + uu := ⟨_, rfl⟩
                        have hixi : (vw : Int) + (uu : Int) = (ix : Int) := by omega
                        have hixM : ix < M := by omega
                        have hixI : (ix : Int) < (M : Int) := by omega
                        have HIX := Lib.hid (show ix = vv * fw + uu from by rw [← HVW.out]; exact hix)
                        have HAD := Lib.hid (show AdjF fw c ix from by rw [hix]; exact HADV.out uu hu1 huh)
                        have q1 := HF4.out.cell hixM
                        have q2 := HF4.out.frozen ix
                        have q3 := HF4.out.lt
                        clear hix
                        cases hfx : f ix
                        · rw [hfx] at q1
                          have HN5 := Lib.hid (HN4.out.skip (by rw [← HIX.out]; exact hfx))
                          clear hfx
                          go_wp2
                          go_roundg (uhi + 1 - (uu + 1))
                          case measure => have := HGU.out; omega
                          case rel => exact ⟨uu + 1, f, T, by go_num, by omega, by omega, rfl, HF4.out, HB4.out, HV4.out, HD4.out, HFK4.out, HM4.out, HN5.out⟩
                        · rw [hfx] at q1
                          have HN5 := Lib.hid (show Nbr fw vlo ulo uhi (updF f ix) vv (uu + 1) from by rw [HIX.out]; exact HN4.out.mark)
                          have HD5 := Lib.hid (HD4.out.push hixM hfx (fun h0 => HRC.out.step k c ix HCC.out.2.2 HCC.out.1 hixM h0 HAD.out))
                          have HFK5 := Lib.hid (updF_false (i := ix) HFK4.out)
                          have HM5 := Lib.hid (show 2 * cntF (updF f ix) M + (T ++ [ix]).length + 1 ≤ G from by
                            have := HM4.out; have := cntF_upd hfx M hixM
                            rw [List.length_append, List.length_singleton]; omega)
                          have HF5 := Lib.hid (show OwB fb M (updF f ix) (wr.setCell ⟨fb, ix, none⟩ (.bool false)) from HF4.out.set ix false)
                          have HB5 := Lib.hid (HB4.out.setCell (p := ⟨fb, ix, none⟩) hfw' (.bool false))
                          have HV5 := Lib.hid (show Vn (fb + 1) (wr.setCell ⟨fb, ix, none⟩ (.bool false)) u17 T from Vi.set HV4.out (Vi.ne HV4.out HF4.out (by decide)))
                          have hTl : (T.map fun (k : Nat) => (k : Int)).length ≤ 1000000 := by rw [List.length_map]; have := HM4.out; have := HGB.out; omega
                          clear hfx
                          go_upto_region 28 with (fail)
                          obtain ⟨w8, hw8⟩ : ∃ w8, w8 = wr.setCell ⟨fb, ix, none⟩ (.bool false) := ⟨_, rfl⟩
                          rw [← hw8]
                          rw [← hw8] at HF5 HB5 HV5
                          have hbs : fb + 1 ≤ w8.heap.size := HF5.out.lt
                          clear hw8 q1 q2 q3 HF4 HB4 HV4
                          go_wp2_with (at_builtin; refine wpList_pushI _ rfl _ _ rfl (fb + 1) HV5.out (by rfl) (by rfl) rfl hTl hbs ?_; intro v5 w5 hv5 hb5 hk5 _; have HV6 := Lib.hid hv5; have HB6 := Lib.hid hb5; have HF6 := Lib.hid (show OwB fb M (updF f ix) w5 from (hk5 fb HF5.out.lt (Vi.ne HV5.out HF5.out (by decide))).trans HF5.out); clear hv5 hb5 hk5)
                          go_roundg (uhi + 1 - (uu + 1))
                          case measure => have := HGU.out; omega
                          case rel => exact ⟨uu + 1, updF f ix, T ++ [ix], by go_num, by omega, by omega, rfl, HF6.out, HB5.out.trans (HB6.out.mono (by omega)), by unfold Vn; rw [List.map_append]; exact HV6.out, HD5.out, HFK5.out, HM5.out, HN5.out⟩
                      · have huhI : ¬ (uu : Int) ≤ (uhi : Int) := by omega
                        have HN5 := Lib.hid (show Nbr fw vlo ulo uhi f (vv + 1) ulo from by
                          have h := HN4.out
                          rw [show uu = uhi + 1 by omega] at h
                          exact h.row)
                        go_wp2
                        go_roundg (vhi + 1 - (vv + 1))
                        case measure => have := HGV.out; omega
                        case rel => exact ⟨vv + 1, f, T, by go_num, by omega, by omega, rfl, HF4.out, HB4.out, HV4.out, HD4.out, HFK4.out, HM4.out, HN5.out⟩
                  · have hvhI : ¬ (vv : Int) ≤ (vhi : Int) := by omega
                    have HD5 := Lib.hid (show DfI M F0 (AdjF fw) (fun j => R (ce k) (ce j)) O f T (fun _ => False) from HD3.out.fin (fun i hi ha _ => by
                      have h := HN3.out
                      rw [show vv = vhi + 1 by omega] at h
                      exact HDN.out f h i hi ha))
                    go_wp2
                    go_roundg (2 * cntF f M + T.length)
                    case measure => have := HM3.out; have := HGK.out; omega
                    case rel => exact ⟨f, T, rfl, by have := HM3.out; have := HGB.out; omega, HF3.out, HB3.out, HV3.out, HD5.out, HFK3.out⟩
        · have hkM : k = M := by omega
          have HR1 := Lib.hid (show n1 = res + 1 from HEND.out n1 (by
            have h := HFK.out 0 (by rw [hkM, show (List.range M).drop M = [] from List.drop_eq_nil_of_le (by simp)]; exact .nil _)
            exact h))
          obtain rfl := hkM
          have HQR := Lib.hid (show q = (res : Int) from by have := HQ.out; have := HR1.out; omega)
          go_wp2
          go_ret
          exact ⟨by first | rfl | (rw [HQR.out]; rfl), HB2.out⟩
end Go.Proofs.YtmgofdgbenfjmaaDoor
