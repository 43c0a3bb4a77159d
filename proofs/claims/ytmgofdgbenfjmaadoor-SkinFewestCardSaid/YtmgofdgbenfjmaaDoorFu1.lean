/- Texts joined: FuP, Fu, Vr. Conditions: see each. -/
import Derived.Test.YtmgofdgbenfjmaaDoorMxP
import Derived.Test.YtmgofdgbenfjmaaDoorTb1
import Derived.Test.YtmgofdgbenfjmaaDoorRu
import Derived.Test.YtmgofdgbenfjmaaDoorRg1
namespace Go.Proofs.YtmgofdgbenfjmaaDoor
open Go.RowKit

theorem rct_fullK (l : List ByteArray) (g : Int) (y x : Nat) : ∀ k, (rct l g y x k = (k : Int) ↔ ∀ i, i < k → usb l g (((x + i : Nat) : Int), (y : Int)) = true)
  | 0 => by rw [rct_zero]; simp
  | k + 1 => by
    have ih := rct_fullK l g y x k
    have hb := rct_bd l g y x k
    rw [rct_succ]
    constructor
    · intro h i hi
      have h1 : usb l g (((x + k : Nat) : Int), (y : Int)) = true := by
        by_cases hu : usb l g (((x + k : Nat) : Int), (y : Int)) = true
        · exact hu
        · rw [if_neg hu] at h; omega
      rw [if_pos h1] at h
      by_cases hik : i = k
      · rw [hik]; exact h1
      · exact ih.1 (by omega) i (by omega)
    · intro h
      rw [if_pos (h k (by omega)), ih.2 fun i hi => h i (by omega)]
      omega
theorem cnt_fullK (l : List ByteArray) (g : Int) (x y a : Nat) : ∀ b, (cnt l g x y a b = (a : Int) * (b : Int) ↔ ∀ i j, i < a → j < b → usb l g (((x + i : Nat) : Int), ((y + j : Nat) : Int)) = true) ∧ cnt l g x y a b ≤ (a : Int) * (b : Int)
  | 0 => by simp [cnt]
  | b + 1 => by
    obtain ⟨ih, hle⟩ := cnt_fullK l g x y a b
    have hb := rct_bd l g (y + b) x a
    have hf := rct_fullK l g (y + b) x a
    have e : (a : Int) * ((b + 1 : Nat) : Int) = (a : Int) * (b : Int) + a := by push_cast; rw [Int.mul_add, Int.mul_one]
    rw [← cnt_snoc, e]
    refine ⟨⟨fun h i j hi hj => ?_, fun h => ?_⟩, by omega⟩
    · by_cases hjb : j = b
      · rw [hjb]; exact hf.1 (by omega) i hi
      · exact ih.1 (by omega) i j hi (by omega)
    · rw [hf.2 fun i hi => h i b hi (by omega), ih.2 fun i j hi hj => h i j hi (by omega)]
/-- usable, where the row may lie above the grid -/
def fuZ (us : Int × Int → Bool) (x : Nat) (y : Int) (a b : Nat) : Bool := decide (0 ≤ y) && fuB us x y.toNat a b
theorem fuZ_neg {us : Int × Int → Bool} {x a b : Nat} {y : Int} (h : y < 0) : fuZ us x y a b = false := by
  unfold fuZ; rw [decide_eq_false (by omega)]; rfl
theorem fuZ_nat (us : Int × Int → Bool) (x y a b : Nat) : fuZ us x (y : Int) a b = fuB us x y a b := by
  unfold fuZ; rw [decide_eq_true (by omega), Int.toNat_natCast]; rfl
theorem usb_inn {l : List ByteArray} {g : Int} (hg : 1 ≤ g) : Inn (usb l g) (wid l) l.length := fun i j h => by
  have := usb_at hg _ h
  dsimp only at this
  omega
theorem cnt_fuB {l : List ByteArray} {g : Int} {x y a b : Nat} : cnt l g x y a b = (a : Int) * (b : Int) ↔ fuB (usb l g) x y a b = true := by
  rw [fuB_iff]; exact (cnt_fullK l g x y a b).1
theorem fuB_in {l : List ByteArray} {g : Int} (hg : 1 ≤ g) {x y a b : Nat} (ha : 1 ≤ a) (hb : 1 ≤ b) (h : fuB (usb l g) x y a b = true) : x + a ≤ wid l ∧ y + b ≤ l.length :=
  Fu.inn (usb_inn hg) ha hb (fu_iff.1 h)

set_option maxRecDepth 100000 in
set_option maxHeartbeats 4000000 in
theorem tfull_any (l : List ByteArray) (g : Int) (base q x a b : Nat) (y : Int) (w : World) (k : TbS (wid l) l.length l g base q l.length w) (hg : 1 ≤ g) (hn : wid l ≤ 48) (hh : l.length ≤ 48) (hx : x ≤ 100) (hy : -10 ≤ y ∧ y ≤ 100) (ha : 1 ≤ a ∧ a ≤ 100) (hb : 1 ≤ b ∧ b ≤ 100) :
    Calls Tryd.prog 61 #[.pointer (some ⟨q, 0, none⟩), .agg #[.int .i64 (x : Int), .int .i64 y, .int .i64 (a : Int), .int .i64 (b : Int)]] w fun e w' => e = .returned (.bool (fuZ (usb l g) x y a b)) ∧ Below w.heap.size w w' := by
  obtain ⟨n, hn2⟩ : ∃ n, n = wid l := ⟨_, rfl⟩
  obtain ⟨h, hh2⟩ : ∃ h, h = l.length := ⟨_, rfl⟩
  have HFI := Lib.hid (fun (yn : Nat) (hf : fuB (usb l g) x yn a b = true) => fuB_in hg ha.1 hb.1 hf)
  rw [← hn2, ← hh2] at k HFI
  rw [← hn2] at hn
  rw [← hh2] at hh
  have hx0 := ext_alloc w (.cells #[.int .i64 (x : Int), .int .i64 y, .int .i64 (a : Int), .int .i64 (b : Int)] 31)
  have HR := Lib.hid (Bk.new 31 w #[.int .i64 (x : Int), .int .i64 y, .int .i64 (a : Int), .int .i64 (b : Int)])
  have HT := Lib.hid (k.ext hx0)
  obtain ⟨bb, cc, rr, hbk, _⟩ := (k.ext hx0).read
  have HQ := Lib.hid hbk
  have HX0 := Lib.hid hx0
  clear hx0 hn2 hh2 hbk
  obtain ⟨rb, hrb⟩ : ∃ rb, rb = w.heap.size := ⟨_, rfl⟩
  have hrbw : w.heap.size ≤ rb := by omega
  obtain ⟨V, hV⟩ : ∃ V, V = w.alloc (.cells #[.int .i64 (x : Int), .int .i64 y, .int .i64 (a : Int), .int .i64 (b : Int)] 31) := ⟨_, rfl⟩
  have HF := Lib.hid (fun (W : World) (hW : Below V.heap.size V W) => show W.cell? ⟨rb, 0, none⟩ = some (.int .i64 (x : Int)) ∧ W.cell? ⟨rb, 1, none⟩ = some (.int .i64 y) ∧ W.cell? ⟨rb, 2, none⟩ = some (.int .i64 (a : Int)) ∧ W.cell? ⟨rb, 3, none⟩ = some (.int .i64 (b : Int)) ∧ W.cell? ⟨q, 0, none⟩ = some (.int .i64 (n : Int)) ∧ W.cell? ⟨q, 1, none⟩ = some (.int .i64 (h : Int)) ∧ q < W.heap.size ∧ rb < W.heap.size from by
    have h1 := HR.out
    have h2 := HQ.out
    rw [← hV] at h1 h2
    rw [← hrb] at h1
    have h1 := h1.ext hW
    have h2 := h2.ext hW
    exact ⟨h1.cell 0, h1.cell 1, h1.cell 2, h1.cell 3, h2.cell 0, h2.cell 1, h2.lt, h1.lt⟩)
  have HXV := Lib.hid (show Below w.heap.size w V from by rw [hV]; exact HX0.out)
  have HTV := Lib.hid (show TbS n h l g base q h V from by rw [hV]; exact HT.out)
  clear HT HQ HR k
  by_cases hy0 : y < 0
  · rw [fuZ_neg hy0]
    have hy1 : ¬ 0 ≤ y := by omega
    clear hy0
    go_enter Tryd.func61, Tryd.ntmps61
    go_upto_region 1 with (fail)
    rw [← hV, ← hrb]
    clear hV hrb
    obtain ⟨q1, q2, q3, q4, q5, q6, q7, q8⟩ := HF.out V (Below.refl _ _)
    go_quiet (fail)
    go_wp2
    go_ret
    exact ⟨rfl, bdrewN HXV.out nq⟩
  · obtain ⟨yn, rfl⟩ := Int.eq_ofNat_of_zero_le (show 0 ≤ y by omega)
    have hyn : yn ≤ 100 := by omega
    clear hy hy0
    rw [fuZ_nat]
    have HIN := Lib.hid (fun W => inside_any (x : Int) (yn : Int) (a : Int) (b : Int) (n : Int) (h : Int) W (by omega) (by omega) ⟨by omega, by omega⟩ ⟨by omega, by omega⟩)
    by_cases hin : x + a ≤ n ∧ yn + b ≤ h
    · rw [decide_eq_true (show RcIn (x : Int) (yn : Int) (a : Int) (b : Int) (n : Int) (h : Int) from by unfold RcIn; omega)] at HIN
      have HCT := Lib.hid (fun W (hW : Below V.heap.size V W) => tcount_any n h l g base q x yn a b W (HTV.out.ext hW) hn hh hin.1 hin.2)
      have HCF := Lib.hid (cnt_fuB (l := l) (g := g) (x := x) (y := yn) (a := a) (b := b))
      obtain ⟨cv, hcv⟩ : ∃ cv, cv = cnt l g x yn a b := ⟨_, rfl⟩
      rw [← hcv] at HCT HCF
      obtain ⟨ab, hab⟩ : ∃ ab : Nat, ab = a * b := ⟨_, rfl⟩
      have habi : (a : Int) * (b : Int) = (ab : Int) := by rw [hab]; push_cast; rfl
      have habb : ab ≤ 100 * 100 := by rw [hab]; exact Nat.mul_le_mul ha.2 hb.2
      have hwr : IntKind.i64.wrap (ab : Int) = (ab : Int) := by simp [IntKind.wrap, IntKind.bits, IntKind.signed]; omega
      rw [habi] at HCF
      clear hcv hab HFI
      obtain ⟨ha1, ha2⟩ := ha
      obtain ⟨hb1, hb2⟩ := hb
      by_cases he : cv = (ab : Int)
      · rw [HCF.out.1 he]
        have hee : (cv == (ab : Int)) = true := by simpa using he
        subst he
        go_enter Tryd.func61, Tryd.ntmps61
        go_upto_region 1 with (fail)
        rw [← hV, ← hrb]
        clear hV hrb
        refine wp_region_T (S := fun W => Below V.heap.size V W) 31 (by kernel_rfl) (ext_drew _) (fun hHeld => ?_)
        refine wpAnyT_take (i := 0) (v := ?v22) [] rfl (by kernel_rfl) (fun _ _ _ h => h) (Or.inl ⟨by rfl, ?hy22⟩) hHeld ?rst22
        case hy22 => (intro wx hSw; obtain ⟨q1, q2, q3, q4, q5, q6, q7, q8⟩ := HF.out wx hSw; go_simp; try (with_reducible rfl))
        try simp only [List.getElem_toArray, List.getElem_cons_zero, Act.put, List.setIfInBounds_toArray, List.set_cons_zero, List.set_cons_succ]
        refine wpAnyT_take (i := 1) (v := ?v23) [] rfl (by kernel_rfl) (fun _ _ _ h => h) (Or.inl ⟨by rfl, ?hy23⟩) hHeld ?rst23
        case hy23 => (intro wx hSw; obtain ⟨q1, q2, q3, q4, q5, q6, q7, q8⟩ := HF.out wx hSw; go_simp; try (with_reducible rfl))
        try simp only [List.getElem_toArray, List.getElem_cons_zero, List.getElem_cons_succ, Act.put, List.setIfInBounds_toArray, List.set_cons_zero, List.set_cons_succ]
        refine wpAnyT_take (i := 2) (v := ?v24) [] rfl (by kernel_rfl) (fun _ _ _ h => h) (Or.inl ⟨by rfl, ?hy24⟩) hHeld ?rst24
        case hy24 => (intro wx hSw; obtain ⟨q1, q2, q3, q4, q5, q6, q7, q8⟩ := HF.out wx hSw; go_simp; try (with_reducible rfl))
        try simp only [List.getElem_toArray, List.getElem_cons_zero, List.getElem_cons_succ, Act.put, List.setIfInBounds_toArray, List.set_cons_zero, List.set_cons_succ]
        refine wpAnyT_take (i := 3) (v := ?v25) [] rfl (by kernel_rfl) (fun _ _ _ h => h) (Or.inl ⟨by rfl, ?hy25⟩) hHeld ?rst25
        case hy25 => (intro wx hSw; obtain ⟨q1, q2, q3, q4, q5, q6, q7, q8⟩ := HF.out wx hSw; go_simp; try (with_reducible rfl))
        try simp only [List.getElem_toArray, List.getElem_cons_zero, List.getElem_cons_succ, Act.put, List.setIfInBounds_toArray, List.set_cons_zero, List.set_cons_succ]
        refine wpAnyT_take (i := 4) (v := ?v26) [] rfl (by kernel_rfl) (fun _ _ _ h => h) (Or.inl ⟨by rfl, ?hy26⟩) hHeld ?rst26
        case hy26 => (intro wx hSw; obtain ⟨q1, q2, q3, q4, q5, q6, q7, q8⟩ := HF.out wx hSw; go_simp; try (with_reducible rfl))
        try simp only [List.getElem_toArray, List.getElem_cons_zero, List.getElem_cons_succ, Act.put, List.setIfInBounds_toArray, List.set_cons_zero, List.set_cons_succ]
        refine wpAnyT_take (i := 5) (v := ?v27) [] rfl (by kernel_rfl) (fun _ _ _ h => h) (Or.inl ⟨by rfl, ?hy27⟩) hHeld ?rst27
        case hy27 => (intro wx hSw; obtain ⟨q1, q2, q3, q4, q5, q6, q7, q8⟩ := HF.out wx hSw; go_simp; try (with_reducible rfl))
        try simp only [List.getElem_toArray, List.getElem_cons_zero, List.getElem_cons_succ, Act.put, List.setIfInBounds_toArray, List.set_cons_zero, List.set_cons_succ]
        refine wpAnyT_take (i := 6) (v := ?v28) [] rfl (by kernel_rfl) (fun _ _ _ h => h) (Or.inl ⟨by rfl, ?hy28⟩) hHeld ?rst28
        case hy28 => (intro wx hSw; obtain ⟨q1, q2, q3, q4, q5, q6, q7, q8⟩ := HF.out wx hSw; go_simp; try (with_reducible rfl))
        try simp only [List.getElem_toArray, List.getElem_cons_zero, List.getElem_cons_succ, Act.put, List.setIfInBounds_toArray, List.set_cons_zero, List.set_cons_succ]
        refine wpAnyT_take (i := 7) (v := ?v29) [] rfl (by kernel_rfl) (fun _ _ _ h => h) (Or.inl ⟨by rfl, ?hy29⟩) hHeld ?rst29
        case hy29 => (intro wx hSw; obtain ⟨q1, q2, q3, q4, q5, q6, q7, q8⟩ := HF.out wx hSw; go_simp; try (with_reducible rfl))
        try simp only [List.getElem_toArray, List.getElem_cons_zero, List.getElem_cons_succ, Act.put, List.setIfInBounds_toArray, List.set_cons_zero, List.set_cons_succ]
        refine wpAnyT_take (i := 8) (v := ?v30) [] rfl (by kernel_rfl) (fun _ _ _ h => h) (Or.inl ⟨by rfl, ?hy30⟩) hHeld ?rst30
        case hy30 => (intro wx hSw; obtain ⟨q1, q2, q3, q4, q5, q6, q7, q8⟩ := HF.out wx hSw; go_simp; try (with_reducible rfl))
        try simp only [List.getElem_toArray, List.getElem_cons_zero, List.getElem_cons_succ, Act.put, List.setIfInBounds_toArray, List.set_cons_zero, List.set_cons_succ]
        refine wpAnyT_take (i := 9) (v := ?v31) [] rfl (by kernel_rfl) (fun _ _ _ h => h) (Or.inl ⟨by rfl, ?hy31⟩) hHeld ?rst31
        case hy31 => (intro wx hSw; obtain ⟨q1, q2, q3, q4, q5, q6, q7, q8⟩ := HF.out wx hSw; go_simp; try (with_reducible rfl))
        try simp only [List.getElem_toArray, List.getElem_cons_zero, List.getElem_cons_succ, Act.put, List.setIfInBounds_toArray, List.set_cons_zero, List.set_cons_succ]
        refine wpAnyT_take (i := 10) (v := ?v32) [] rfl (by kernel_rfl) (fun _ _ _ h => h) (Or.inl ⟨by rfl, ?hy32⟩) hHeld ?rst32
        case hy32 => (intro wx hSw; obtain ⟨q1, q2, q3, q4, q5, q6, q7, q8⟩ := HF.out wx hSw; go_simp; try (with_reducible rfl))
        try simp only [List.getElem_toArray, List.getElem_cons_zero, List.getElem_cons_succ, Act.put, List.setIfInBounds_toArray, List.set_cons_zero, List.set_cons_succ]
        refine wpAnyT_take (i := 11) (v := ?v33) [] rfl (by kernel_rfl) (fun _ _ _ h => h) (Or.inl ⟨by rfl, ?hy33⟩) hHeld ?rst33
        case hy33 => (intro wx hSw; obtain ⟨q1, q2, q3, q4, q5, q6, q7, q8⟩ := HF.out wx hSw; go_simp; try (with_reducible rfl))
        try simp only [List.getElem_toArray, List.getElem_cons_zero, List.getElem_cons_succ, Act.put, List.setIfInBounds_toArray, List.set_cons_zero, List.set_cons_succ]
        refine wpAnyT_take (i := 12) (v := ?v34) [] rfl (by kernel_rfl) (fun _ _ _ h => h) (Or.inl ⟨by rfl, ?hy34⟩) hHeld ?rst34
        case hy34 => (intro wx hSw; obtain ⟨q1, q2, q3, q4, q5, q6, q7, q8⟩ := HF.out wx hSw; go_simp; try (with_reducible rfl))
        try simp only [List.getElem_toArray, List.getElem_cons_zero, List.getElem_cons_succ, Act.put, List.setIfInBounds_toArray, List.set_cons_zero, List.set_cons_succ]
        refine wpAnyT_take (i := 13) (v := ?v35) [] rfl (by kernel_rfl) (fun _ _ _ h => h) (Or.inl ⟨by rfl, ?hy35⟩) hHeld ?rst35
        case hy35 => (intro wx hSw; obtain ⟨q1, q2, q3, q4, q5, q6, q7, q8⟩ := HF.out wx hSw; go_simp; try (with_reducible rfl))
        try simp only [List.getElem_toArray, List.getElem_cons_zero, List.getElem_cons_succ, Act.put, List.setIfInBounds_toArray, List.set_cons_zero, List.set_cons_succ]
        refine wpAnyT_take (i := 14) (v := ?v36) [] rfl (by kernel_rfl) (fun _ _ _ h => h) (Or.inl ⟨by rfl, ?hy36⟩) hHeld ?rst36
        case hy36 => (intro wx hSw; obtain ⟨q1, q2, q3, q4, q5, q6, q7, q8⟩ := HF.out wx hSw; go_simp; try (with_reducible rfl))
        try simp only [List.getElem_toArray, List.getElem_cons_zero, List.getElem_cons_succ, Act.put, List.setIfInBounds_toArray, List.set_cons_zero, List.set_cons_succ]
        refine wpAnyT_take (i := 15) (v := ?v37) [] rfl (by kernel_rfl) (fun _ _ _ h => h) (Or.inl ⟨by rfl, ?hy37⟩) hHeld ?rst37
        case hy37 => (intro wx hSw; obtain ⟨q1, q2, q3, q4, q5, q6, q7, q8⟩ := HF.out wx hSw; go_simp; try (with_reducible rfl))
        try simp only [List.getElem_toArray, List.getElem_cons_zero, List.getElem_cons_succ, Act.put, List.setIfInBounds_toArray, List.set_cons_zero, List.set_cons_succ]
        refine wpAnyT_take (i := 16) (v := ?v38) [] rfl (by kernel_rfl) (fun _ _ _ h => h) (Or.inl ⟨by rfl, ?hy38⟩) hHeld ?rst38
        case hy38 => (intro wx hSw; obtain ⟨q1, q2, q3, q4, q5, q6, q7, q8⟩ := HF.out wx hSw; go_simp; try (with_reducible rfl))
        try simp only [List.getElem_toArray, List.getElem_cons_zero, List.getElem_cons_succ, Act.put, List.setIfInBounds_toArray, List.set_cons_zero, List.set_cons_succ]
        refine wpAnyT_take (i := 17) (v := ?v39) [] rfl (by kernel_rfl) (fun _ _ _ h => h) (Or.inl ⟨by rfl, ?hy39⟩) hHeld ?rst39
        case hy39 => (intro wx hSw; obtain ⟨q1, q2, q3, q4, q5, q6, q7, q8⟩ := HF.out wx hSw; go_simp; try (with_reducible rfl))
        try simp only [List.getElem_toArray, List.getElem_cons_zero, List.getElem_cons_succ, Act.put, List.setIfInBounds_toArray, List.set_cons_zero, List.set_cons_succ]
        refine wpAnyT_one (i := 18) (by kernel_rfl) rfl (fun K hK => ?_)
        go_simp
        go_at_call 93
        refine (HIN.out _).mono ?_
        rintro e9 w9 ⟨rfl, hx9⟩
        have B9 := bext hHeld hx9 hHeld.size
        clear hx9
        refine hK.out _ _ (B9) (fun hHeld => ?_)
        clear hK K
        try simp only [List.getElem_toArray, List.getElem_cons_zero, List.getElem_cons_succ, Act.put, List.setIfInBounds_toArray, List.set_cons_zero, List.set_cons_succ]
        refine wpAnyT_take (i := 19) (v := ?v40) [] rfl (by kernel_rfl) (fun _ _ _ h => h) (Or.inl ⟨by rfl, ?hy40⟩) hHeld ?rst40
        case hy40 => (intro wx hSw; obtain ⟨q1, q2, q3, q4, q5, q6, q7, q8⟩ := HF.out wx hSw; go_simp; try (with_reducible rfl))
        try simp only [List.getElem_toArray, List.getElem_cons_zero, List.getElem_cons_succ, Act.put, List.setIfInBounds_toArray, List.set_cons_zero, List.set_cons_succ]
        refine wpAnyT_take (i := 20) (v := ?v41) [] rfl (by kernel_rfl) (fun _ _ _ h => h) (Or.inl ⟨by rfl, ?hy41⟩) hHeld ?rst41
        case hy41 => (intro wx hSw; obtain ⟨q1, q2, q3, q4, q5, q6, q7, q8⟩ := HF.out wx hSw; go_simp; try (with_reducible rfl))
        try simp only [List.getElem_toArray, List.getElem_cons_zero, List.getElem_cons_succ, Act.put, List.setIfInBounds_toArray, List.set_cons_zero, List.set_cons_succ]
        refine wpAnyT_take (i := 21) (v := ?v42) [] rfl (by kernel_rfl) (fun _ _ _ h => h) (Or.inl ⟨by rfl, ?hy42⟩) hHeld ?rst42
        case hy42 => (intro wx hSw; obtain ⟨q1, q2, q3, q4, q5, q6, q7, q8⟩ := HF.out wx hSw; go_simp; try (with_reducible rfl))
        try simp only [List.getElem_toArray, List.getElem_cons_zero, List.getElem_cons_succ, Act.put, List.setIfInBounds_toArray, List.set_cons_zero, List.set_cons_succ]
        refine wpAnyT_take (i := 22) (v := ?v43) [] rfl (by kernel_rfl) (fun _ _ _ h => h) (Or.inl ⟨by rfl, ?hy43⟩) hHeld ?rst43
        case hy43 => (intro wx hSw; obtain ⟨q1, q2, q3, q4, q5, q6, q7, q8⟩ := HF.out wx hSw; go_simp; try (with_reducible rfl))
        try simp only [List.getElem_toArray, List.getElem_cons_zero, List.getElem_cons_succ, Act.put, List.setIfInBounds_toArray, List.set_cons_zero, List.set_cons_succ]
        refine wpAnyT_take (i := 24) (v := ?v44) [] rfl (by kernel_rfl) (fun _ _ _ h => h) (Or.inl ⟨by rfl, ?hy44⟩) hHeld ?rst44
        case hy44 => (intro wx hSw; obtain ⟨q1, q2, q3, q4, q5, q6, q7, q8⟩ := HF.out wx hSw; go_simp; try (with_reducible rfl))
        try simp only [List.getElem_toArray, List.getElem_cons_zero, List.getElem_cons_succ, Act.put, List.setIfInBounds_toArray, List.set_cons_zero, List.set_cons_succ]
        refine wpAnyT_take (i := 25) (v := ?v45) [] rfl (by kernel_rfl) (fun _ _ _ h => h) (Or.inl ⟨by rfl, ?hy45⟩) hHeld ?rst45
        case hy45 => (intro wx hSw; obtain ⟨q1, q2, q3, q4, q5, q6, q7, q8⟩ := HF.out wx hSw; go_simp; try (with_reducible rfl))
        try simp only [List.getElem_toArray, List.getElem_cons_zero, List.getElem_cons_succ, Act.put, List.setIfInBounds_toArray, List.set_cons_zero, List.set_cons_succ]
        refine wpAnyT_take (i := 26) (v := ?v46) [] rfl (by kernel_rfl) (fun _ _ _ h => h) (Or.inl ⟨by rfl, ?hy46⟩) hHeld ?rst46
        case hy46 => (intro wx hSw; obtain ⟨q1, q2, q3, q4, q5, q6, q7, q8⟩ := HF.out wx hSw; go_simp; try (with_reducible rfl))
        try simp only [List.getElem_toArray, List.getElem_cons_zero, List.getElem_cons_succ, Act.put, List.setIfInBounds_toArray, List.set_cons_zero, List.set_cons_succ]
        refine wpAnyT_take (i := 27) (v := ?v47) [] rfl (by kernel_rfl) (fun _ _ _ h => h) (Or.inl ⟨by rfl, ?hy47⟩) hHeld ?rst47
        case hy47 => (intro wx hSw; obtain ⟨q1, q2, q3, q4, q5, q6, q7, q8⟩ := HF.out wx hSw; go_simp; try (with_reducible rfl))
        try simp only [List.getElem_toArray, List.getElem_cons_zero, List.getElem_cons_succ, Act.put, List.setIfInBounds_toArray, List.set_cons_zero, List.set_cons_succ]
        refine wpAnyT_take (i := 28) (v := ?v48) [] rfl (by kernel_rfl) (fun _ _ _ h => h) (Or.inl ⟨by rfl, ?hy48⟩) hHeld ?rst48
        case hy48 => (intro wx hSw; obtain ⟨q1, q2, q3, q4, q5, q6, q7, q8⟩ := HF.out wx hSw; go_simp; try (with_reducible rfl))
        try simp only [List.getElem_toArray, List.getElem_cons_zero, List.getElem_cons_succ, Act.put, List.setIfInBounds_toArray, List.set_cons_zero, List.set_cons_succ]
        refine wpAnyT_one (i := 23) (by kernel_rfl) rfl (fun K hK => ?_)
        go_simp
        go_at_call 94
        refine (HCT.out _ B9).mono ?_
        rintro e8 w8 ⟨rfl, hx8⟩
        have B8 := bext B9 hx8 B9.size
        clear hx8
        refine hK.out _ _ (B8) (fun hHeld => ?_)
        clear hK K
        try simp only [List.getElem_toArray, List.getElem_cons_zero, List.getElem_cons_succ, Act.put, List.setIfInBounds_toArray, List.set_cons_zero, List.set_cons_succ]
        refine wpAnyT_take (i := 29) (v := ?v49) [] rfl (by kernel_rfl) (fun _ _ _ h => h) (Or.inl ⟨by rfl, ?hy49⟩) hHeld ?rst49
        case hy49 => (intro wx hSw; obtain ⟨q1, q2, q3, q4, q5, q6, q7, q8⟩ := HF.out wx hSw; go_simp; try (with_reducible rfl))
        try simp only [List.getElem_toArray, List.getElem_cons_zero, List.getElem_cons_succ, Act.put, List.setIfInBounds_toArray, List.set_cons_zero, List.set_cons_succ]
        refine wpAnyT_take (i := 30) (v := ?v50) [] rfl (by kernel_rfl) (fun _ _ _ h => h) (Or.inl ⟨by rfl, ?hy50⟩) hHeld ?rst50
        case hy50 => (intro wx hSw; obtain ⟨q1, q2, q3, q4, q5, q6, q7, q8⟩ := HF.out wx hSw; go_simp; try (with_reducible rfl))
        try simp only [List.getElem_toArray, List.getElem_cons_zero, List.getElem_cons_succ, Act.put, List.setIfInBounds_toArray, List.set_cons_zero, List.set_cons_succ]
        refine wpAnyT_last (by kernel_rfl) (by kernel_rfl) rfl (fun K hK => ?_)
        go_simp
        refine hK.out _ _ ?_
        clear hK K
        go_wp2
        go_ret
        exact ⟨by first | rfl | (show Ending.returned (.bool ((ab : Int) == IntKind.i64.wrap (ab : Int))) = _; rw [hwr, hee]), bext HXV.out hHeld HXV.out.size⟩
      · have hf : fuB (usb l g) x yn a b = false := by
          cases hc : fuB (usb l g) x yn a b
          · rfl
          · exact absurd (HCF.out.2 hc) he
        rw [hf]
        have hee : (cv == (ab : Int)) = false := by simpa using he
        clear he hf
        go_enter Tryd.func61, Tryd.ntmps61
        go_upto_region 1 with (fail)
        rw [← hV, ← hrb]
        clear hV hrb
        refine wp_region_T (S := fun W => Below V.heap.size V W) 31 (by kernel_rfl) (ext_drew _) (fun hHeld => ?_)
        refine wpAnyT_take (i := 0) (v := ?v51) [] rfl (by kernel_rfl) (fun _ _ _ h => h) (Or.inl ⟨by rfl, ?hy51⟩) hHeld ?rst51
        case hy51 => (intro wx hSw; obtain ⟨q1, q2, q3, q4, q5, q6, q7, q8⟩ := HF.out wx hSw; go_simp; try (with_reducible rfl))
        try simp only [List.getElem_toArray, List.getElem_cons_zero, Act.put, List.setIfInBounds_toArray, List.set_cons_zero, List.set_cons_succ]
        refine wpAnyT_take (i := 1) (v := ?v52) [] rfl (by kernel_rfl) (fun _ _ _ h => h) (Or.inl ⟨by rfl, ?hy52⟩) hHeld ?rst52
        case hy52 => (intro wx hSw; obtain ⟨q1, q2, q3, q4, q5, q6, q7, q8⟩ := HF.out wx hSw; go_simp; try (with_reducible rfl))
        try simp only [List.getElem_toArray, List.getElem_cons_zero, List.getElem_cons_succ, Act.put, List.setIfInBounds_toArray, List.set_cons_zero, List.set_cons_succ]
        refine wpAnyT_take (i := 2) (v := ?v53) [] rfl (by kernel_rfl) (fun _ _ _ h => h) (Or.inl ⟨by rfl, ?hy53⟩) hHeld ?rst53
        case hy53 => (intro wx hSw; obtain ⟨q1, q2, q3, q4, q5, q6, q7, q8⟩ := HF.out wx hSw; go_simp; try (with_reducible rfl))
        try simp only [List.getElem_toArray, List.getElem_cons_zero, List.getElem_cons_succ, Act.put, List.setIfInBounds_toArray, List.set_cons_zero, List.set_cons_succ]
        refine wpAnyT_take (i := 3) (v := ?v54) [] rfl (by kernel_rfl) (fun _ _ _ h => h) (Or.inl ⟨by rfl, ?hy54⟩) hHeld ?rst54
        case hy54 => (intro wx hSw; obtain ⟨q1, q2, q3, q4, q5, q6, q7, q8⟩ := HF.out wx hSw; go_simp; try (with_reducible rfl))
        try simp only [List.getElem_toArray, List.getElem_cons_zero, List.getElem_cons_succ, Act.put, List.setIfInBounds_toArray, List.set_cons_zero, List.set_cons_succ]
        refine wpAnyT_take (i := 4) (v := ?v55) [] rfl (by kernel_rfl) (fun _ _ _ h => h) (Or.inl ⟨by rfl, ?hy55⟩) hHeld ?rst55
        case hy55 => (intro wx hSw; obtain ⟨q1, q2, q3, q4, q5, q6, q7, q8⟩ := HF.out wx hSw; go_simp; try (with_reducible rfl))
        try simp only [List.getElem_toArray, List.getElem_cons_zero, List.getElem_cons_succ, Act.put, List.setIfInBounds_toArray, List.set_cons_zero, List.set_cons_succ]
        refine wpAnyT_take (i := 5) (v := ?v56) [] rfl (by kernel_rfl) (fun _ _ _ h => h) (Or.inl ⟨by rfl, ?hy56⟩) hHeld ?rst56
        case hy56 => (intro wx hSw; obtain ⟨q1, q2, q3, q4, q5, q6, q7, q8⟩ := HF.out wx hSw; go_simp; try (with_reducible rfl))
        try simp only [List.getElem_toArray, List.getElem_cons_zero, List.getElem_cons_succ, Act.put, List.setIfInBounds_toArray, List.set_cons_zero, List.set_cons_succ]
        refine wpAnyT_take (i := 6) (v := ?v57) [] rfl (by kernel_rfl) (fun _ _ _ h => h) (Or.inl ⟨by rfl, ?hy57⟩) hHeld ?rst57
        case hy57 => (intro wx hSw; obtain ⟨q1, q2, q3, q4, q5, q6, q7, q8⟩ := HF.out wx hSw; go_simp; try (with_reducible rfl))
        try simp only [List.getElem_toArray, List.getElem_cons_zero, List.getElem_cons_succ, Act.put, List.setIfInBounds_toArray, List.set_cons_zero, List.set_cons_succ]
        refine wpAnyT_take (i := 7) (v := ?v58) [] rfl (by kernel_rfl) (fun _ _ _ h => h) (Or.inl ⟨by rfl, ?hy58⟩) hHeld ?rst58
        case hy58 => (intro wx hSw; obtain ⟨q1, q2, q3, q4, q5, q6, q7, q8⟩ := HF.out wx hSw; go_simp; try (with_reducible rfl))
        try simp only [List.getElem_toArray, List.getElem_cons_zero, List.getElem_cons_succ, Act.put, List.setIfInBounds_toArray, List.set_cons_zero, List.set_cons_succ]
        refine wpAnyT_take (i := 8) (v := ?v59) [] rfl (by kernel_rfl) (fun _ _ _ h => h) (Or.inl ⟨by rfl, ?hy59⟩) hHeld ?rst59
        case hy59 => (intro wx hSw; obtain ⟨q1, q2, q3, q4, q5, q6, q7, q8⟩ := HF.out wx hSw; go_simp; try (with_reducible rfl))
        try simp only [List.getElem_toArray, List.getElem_cons_zero, List.getElem_cons_succ, Act.put, List.setIfInBounds_toArray, List.set_cons_zero, List.set_cons_succ]
        refine wpAnyT_take (i := 9) (v := ?v60) [] rfl (by kernel_rfl) (fun _ _ _ h => h) (Or.inl ⟨by rfl, ?hy60⟩) hHeld ?rst60
        case hy60 => (intro wx hSw; obtain ⟨q1, q2, q3, q4, q5, q6, q7, q8⟩ := HF.out wx hSw; go_simp; try (with_reducible rfl))
        try simp only [List.getElem_toArray, List.getElem_cons_zero, List.getElem_cons_succ, Act.put, List.setIfInBounds_toArray, List.set_cons_zero, List.set_cons_succ]
        refine wpAnyT_take (i := 10) (v := ?v61) [] rfl (by kernel_rfl) (fun _ _ _ h => h) (Or.inl ⟨by rfl, ?hy61⟩) hHeld ?rst61
        case hy61 => (intro wx hSw; obtain ⟨q1, q2, q3, q4, q5, q6, q7, q8⟩ := HF.out wx hSw; go_simp; try (with_reducible rfl))
        try simp only [List.getElem_toArray, List.getElem_cons_zero, List.getElem_cons_succ, Act.put, List.setIfInBounds_toArray, List.set_cons_zero, List.set_cons_succ]
        refine wpAnyT_take (i := 11) (v := ?v62) [] rfl (by kernel_rfl) (fun _ _ _ h => h) (Or.inl ⟨by rfl, ?hy62⟩) hHeld ?rst62
        case hy62 => (intro wx hSw; obtain ⟨q1, q2, q3, q4, q5, q6, q7, q8⟩ := HF.out wx hSw; go_simp; try (with_reducible rfl))
        try simp only [List.getElem_toArray, List.getElem_cons_zero, List.getElem_cons_succ, Act.put, List.setIfInBounds_toArray, List.set_cons_zero, List.set_cons_succ]
        refine wpAnyT_take (i := 12) (v := ?v63) [] rfl (by kernel_rfl) (fun _ _ _ h => h) (Or.inl ⟨by rfl, ?hy63⟩) hHeld ?rst63
        case hy63 => (intro wx hSw; obtain ⟨q1, q2, q3, q4, q5, q6, q7, q8⟩ := HF.out wx hSw; go_simp; try (with_reducible rfl))
        try simp only [List.getElem_toArray, List.getElem_cons_zero, List.getElem_cons_succ, Act.put, List.setIfInBounds_toArray, List.set_cons_zero, List.set_cons_succ]
        refine wpAnyT_take (i := 13) (v := ?v64) [] rfl (by kernel_rfl) (fun _ _ _ h => h) (Or.inl ⟨by rfl, ?hy64⟩) hHeld ?rst64
        case hy64 => (intro wx hSw; obtain ⟨q1, q2, q3, q4, q5, q6, q7, q8⟩ := HF.out wx hSw; go_simp; try (with_reducible rfl))
        try simp only [List.getElem_toArray, List.getElem_cons_zero, List.getElem_cons_succ, Act.put, List.setIfInBounds_toArray, List.set_cons_zero, List.set_cons_succ]
        refine wpAnyT_take (i := 14) (v := ?v65) [] rfl (by kernel_rfl) (fun _ _ _ h => h) (Or.inl ⟨by rfl, ?hy65⟩) hHeld ?rst65
        case hy65 => (intro wx hSw; obtain ⟨q1, q2, q3, q4, q5, q6, q7, q8⟩ := HF.out wx hSw; go_simp; try (with_reducible rfl))
        try simp only [List.getElem_toArray, List.getElem_cons_zero, List.getElem_cons_succ, Act.put, List.setIfInBounds_toArray, List.set_cons_zero, List.set_cons_succ]
        refine wpAnyT_take (i := 15) (v := ?v66) [] rfl (by kernel_rfl) (fun _ _ _ h => h) (Or.inl ⟨by rfl, ?hy66⟩) hHeld ?rst66
        case hy66 => (intro wx hSw; obtain ⟨q1, q2, q3, q4, q5, q6, q7, q8⟩ := HF.out wx hSw; go_simp; try (with_reducible rfl))
        try simp only [List.getElem_toArray, List.getElem_cons_zero, List.getElem_cons_succ, Act.put, List.setIfInBounds_toArray, List.set_cons_zero, List.set_cons_succ]
        refine wpAnyT_take (i := 16) (v := ?v67) [] rfl (by kernel_rfl) (fun _ _ _ h => h) (Or.inl ⟨by rfl, ?hy67⟩) hHeld ?rst67
        case hy67 => (intro wx hSw; obtain ⟨q1, q2, q3, q4, q5, q6, q7, q8⟩ := HF.out wx hSw; go_simp; try (with_reducible rfl))
        try simp only [List.getElem_toArray, List.getElem_cons_zero, List.getElem_cons_succ, Act.put, List.setIfInBounds_toArray, List.set_cons_zero, List.set_cons_succ]
        refine wpAnyT_take (i := 17) (v := ?v68) [] rfl (by kernel_rfl) (fun _ _ _ h => h) (Or.inl ⟨by rfl, ?hy68⟩) hHeld ?rst68
        case hy68 => (intro wx hSw; obtain ⟨q1, q2, q3, q4, q5, q6, q7, q8⟩ := HF.out wx hSw; go_simp; try (with_reducible rfl))
        try simp only [List.getElem_toArray, List.getElem_cons_zero, List.getElem_cons_succ, Act.put, List.setIfInBounds_toArray, List.set_cons_zero, List.set_cons_succ]
        refine wpAnyT_one (i := 18) (by kernel_rfl) rfl (fun K hK => ?_)
        go_simp
        go_at_call 93
        refine (HIN.out _).mono ?_
        rintro e9 w9 ⟨rfl, hx9⟩
        have B9 := bext hHeld hx9 hHeld.size
        clear hx9
        refine hK.out _ _ (B9) (fun hHeld => ?_)
        clear hK K
        try simp only [List.getElem_toArray, List.getElem_cons_zero, List.getElem_cons_succ, Act.put, List.setIfInBounds_toArray, List.set_cons_zero, List.set_cons_succ]
        refine wpAnyT_take (i := 19) (v := ?v69) [] rfl (by kernel_rfl) (fun _ _ _ h => h) (Or.inl ⟨by rfl, ?hy69⟩) hHeld ?rst69
        case hy69 => (intro wx hSw; obtain ⟨q1, q2, q3, q4, q5, q6, q7, q8⟩ := HF.out wx hSw; go_simp; try (with_reducible rfl))
        try simp only [List.getElem_toArray, List.getElem_cons_zero, List.getElem_cons_succ, Act.put, List.setIfInBounds_toArray, List.set_cons_zero, List.set_cons_succ]
        refine wpAnyT_take (i := 20) (v := ?v70) [] rfl (by kernel_rfl) (fun _ _ _ h => h) (Or.inl ⟨by rfl, ?hy70⟩) hHeld ?rst70
        case hy70 => (intro wx hSw; obtain ⟨q1, q2, q3, q4, q5, q6, q7, q8⟩ := HF.out wx hSw; go_simp; try (with_reducible rfl))
        try simp only [List.getElem_toArray, List.getElem_cons_zero, List.getElem_cons_succ, Act.put, List.setIfInBounds_toArray, List.set_cons_zero, List.set_cons_succ]
        refine wpAnyT_take (i := 21) (v := ?v71) [] rfl (by kernel_rfl) (fun _ _ _ h => h) (Or.inl ⟨by rfl, ?hy71⟩) hHeld ?rst71
        case hy71 => (intro wx hSw; obtain ⟨q1, q2, q3, q4, q5, q6, q7, q8⟩ := HF.out wx hSw; go_simp; try (with_reducible rfl))
        try simp only [List.getElem_toArray, List.getElem_cons_zero, List.getElem_cons_succ, Act.put, List.setIfInBounds_toArray, List.set_cons_zero, List.set_cons_succ]
        refine wpAnyT_take (i := 22) (v := ?v72) [] rfl (by kernel_rfl) (fun _ _ _ h => h) (Or.inl ⟨by rfl, ?hy72⟩) hHeld ?rst72
        case hy72 => (intro wx hSw; obtain ⟨q1, q2, q3, q4, q5, q6, q7, q8⟩ := HF.out wx hSw; go_simp; try (with_reducible rfl))
        try simp only [List.getElem_toArray, List.getElem_cons_zero, List.getElem_cons_succ, Act.put, List.setIfInBounds_toArray, List.set_cons_zero, List.set_cons_succ]
        refine wpAnyT_take (i := 24) (v := ?v73) [] rfl (by kernel_rfl) (fun _ _ _ h => h) (Or.inl ⟨by rfl, ?hy73⟩) hHeld ?rst73
        case hy73 => (intro wx hSw; obtain ⟨q1, q2, q3, q4, q5, q6, q7, q8⟩ := HF.out wx hSw; go_simp; try (with_reducible rfl))
        try simp only [List.getElem_toArray, List.getElem_cons_zero, List.getElem_cons_succ, Act.put, List.setIfInBounds_toArray, List.set_cons_zero, List.set_cons_succ]
        refine wpAnyT_take (i := 25) (v := ?v74) [] rfl (by kernel_rfl) (fun _ _ _ h => h) (Or.inl ⟨by rfl, ?hy74⟩) hHeld ?rst74
        case hy74 => (intro wx hSw; obtain ⟨q1, q2, q3, q4, q5, q6, q7, q8⟩ := HF.out wx hSw; go_simp; try (with_reducible rfl))
        try simp only [List.getElem_toArray, List.getElem_cons_zero, List.getElem_cons_succ, Act.put, List.setIfInBounds_toArray, List.set_cons_zero, List.set_cons_succ]
        refine wpAnyT_take (i := 26) (v := ?v75) [] rfl (by kernel_rfl) (fun _ _ _ h => h) (Or.inl ⟨by rfl, ?hy75⟩) hHeld ?rst75
        case hy75 => (intro wx hSw; obtain ⟨q1, q2, q3, q4, q5, q6, q7, q8⟩ := HF.out wx hSw; go_simp; try (with_reducible rfl))
        try simp only [List.getElem_toArray, List.getElem_cons_zero, List.getElem_cons_succ, Act.put, List.setIfInBounds_toArray, List.set_cons_zero, List.set_cons_succ]
        refine wpAnyT_take (i := 27) (v := ?v76) [] rfl (by kernel_rfl) (fun _ _ _ h => h) (Or.inl ⟨by rfl, ?hy76⟩) hHeld ?rst76
        case hy76 => (intro wx hSw; obtain ⟨q1, q2, q3, q4, q5, q6, q7, q8⟩ := HF.out wx hSw; go_simp; try (with_reducible rfl))
        try simp only [List.getElem_toArray, List.getElem_cons_zero, List.getElem_cons_succ, Act.put, List.setIfInBounds_toArray, List.set_cons_zero, List.set_cons_succ]
        refine wpAnyT_take (i := 28) (v := ?v77) [] rfl (by kernel_rfl) (fun _ _ _ h => h) (Or.inl ⟨by rfl, ?hy77⟩) hHeld ?rst77
        case hy77 => (intro wx hSw; obtain ⟨q1, q2, q3, q4, q5, q6, q7, q8⟩ := HF.out wx hSw; go_simp; try (with_reducible rfl))
        try simp only [List.getElem_toArray, List.getElem_cons_zero, List.getElem_cons_succ, Act.put, List.setIfInBounds_toArray, List.set_cons_zero, List.set_cons_succ]
        refine wpAnyT_one (i := 23) (by kernel_rfl) rfl (fun K hK => ?_)
        go_simp
        go_at_call 94
        refine (HCT.out _ B9).mono ?_
        rintro e8 w8 ⟨rfl, hx8⟩
        have B8 := bext B9 hx8 B9.size
        clear hx8
        refine hK.out _ _ (B8) (fun hHeld => ?_)
        clear hK K
        try simp only [List.getElem_toArray, List.getElem_cons_zero, List.getElem_cons_succ, Act.put, List.setIfInBounds_toArray, List.set_cons_zero, List.set_cons_succ]
        refine wpAnyT_take (i := 29) (v := ?v78) [] rfl (by kernel_rfl) (fun _ _ _ h => h) (Or.inl ⟨by rfl, ?hy78⟩) hHeld ?rst78
        case hy78 => (intro wx hSw; obtain ⟨q1, q2, q3, q4, q5, q6, q7, q8⟩ := HF.out wx hSw; go_simp; try (with_reducible rfl))
        try simp only [List.getElem_toArray, List.getElem_cons_zero, List.getElem_cons_succ, Act.put, List.setIfInBounds_toArray, List.set_cons_zero, List.set_cons_succ]
        refine wpAnyT_take (i := 30) (v := ?v79) [] rfl (by kernel_rfl) (fun _ _ _ h => h) (Or.inl ⟨by rfl, ?hy79⟩) hHeld ?rst79
        case hy79 => (intro wx hSw; obtain ⟨q1, q2, q3, q4, q5, q6, q7, q8⟩ := HF.out wx hSw; go_simp; try (with_reducible rfl))
        try simp only [List.getElem_toArray, List.getElem_cons_zero, List.getElem_cons_succ, Act.put, List.setIfInBounds_toArray, List.set_cons_zero, List.set_cons_succ]
        refine wpAnyT_last (by kernel_rfl) (by kernel_rfl) rfl (fun K hK => ?_)
        go_simp
        refine hK.out _ _ ?_
        clear hK K
        go_wp2
        go_ret
        exact ⟨by first | rfl | (show Ending.returned (.bool (cv == IntKind.i64.wrap (ab : Int))) = _; rw [hwr, hee]), bext HXV.out hHeld HXV.out.size⟩
    · rw [decide_eq_false (show ¬ RcIn (x : Int) (yn : Int) (a : Int) (b : Int) (n : Int) (h : Int) from by unfold RcIn; omega)] at HIN
      have hf : fuB (usb l g) x yn a b = false := by
        cases hc : fuB (usb l g) x yn a b
        · rfl
        · exact absurd (HFI.out yn hc) hin
      rw [hf]
      obtain ⟨ha1, ha2⟩ := ha
      obtain ⟨hb1, hb2⟩ := hb
      clear hf hin HFI
      go_enter Tryd.func61, Tryd.ntmps61
      go_upto_region 1 with (fail)
      rw [← hV, ← hrb]
      clear hV hrb
      refine wp_region_T (S := fun W => Below V.heap.size V W) 31 (by kernel_rfl) (ext_drew _) (fun hHeld => ?_)
      refine wpAnyT_take (i := 0) (v := ?v1) [] rfl (by kernel_rfl) (fun _ _ _ h => h) (Or.inl ⟨by rfl, ?hy1⟩) hHeld ?rst1
      case hy1 => (intro wx hSw; obtain ⟨q1, q2, q3, q4, q5, q6, q7, q8⟩ := HF.out wx hSw; go_simp; try (with_reducible rfl))
      try simp only [List.getElem_toArray, List.getElem_cons_zero, Act.put, List.setIfInBounds_toArray, List.set_cons_zero, List.set_cons_succ]
      refine wpAnyT_take (i := 1) (v := ?v2) [] rfl (by kernel_rfl) (fun _ _ _ h => h) (Or.inl ⟨by rfl, ?hy2⟩) hHeld ?rst2
      case hy2 => (intro wx hSw; obtain ⟨q1, q2, q3, q4, q5, q6, q7, q8⟩ := HF.out wx hSw; go_simp; try (with_reducible rfl))
      try simp only [List.getElem_toArray, List.getElem_cons_zero, List.getElem_cons_succ, Act.put, List.setIfInBounds_toArray, List.set_cons_zero, List.set_cons_succ]
      refine wpAnyT_take (i := 2) (v := ?v3) [] rfl (by kernel_rfl) (fun _ _ _ h => h) (Or.inl ⟨by rfl, ?hy3⟩) hHeld ?rst3
      case hy3 => (intro wx hSw; obtain ⟨q1, q2, q3, q4, q5, q6, q7, q8⟩ := HF.out wx hSw; go_simp; try (with_reducible rfl))
      try simp only [List.getElem_toArray, List.getElem_cons_zero, List.getElem_cons_succ, Act.put, List.setIfInBounds_toArray, List.set_cons_zero, List.set_cons_succ]
      refine wpAnyT_take (i := 3) (v := ?v4) [] rfl (by kernel_rfl) (fun _ _ _ h => h) (Or.inl ⟨by rfl, ?hy4⟩) hHeld ?rst4
      case hy4 => (intro wx hSw; obtain ⟨q1, q2, q3, q4, q5, q6, q7, q8⟩ := HF.out wx hSw; go_simp; try (with_reducible rfl))
      try simp only [List.getElem_toArray, List.getElem_cons_zero, List.getElem_cons_succ, Act.put, List.setIfInBounds_toArray, List.set_cons_zero, List.set_cons_succ]
      refine wpAnyT_take (i := 4) (v := ?v5) [] rfl (by kernel_rfl) (fun _ _ _ h => h) (Or.inl ⟨by rfl, ?hy5⟩) hHeld ?rst5
      case hy5 => (intro wx hSw; obtain ⟨q1, q2, q3, q4, q5, q6, q7, q8⟩ := HF.out wx hSw; go_simp; try (with_reducible rfl))
      try simp only [List.getElem_toArray, List.getElem_cons_zero, List.getElem_cons_succ, Act.put, List.setIfInBounds_toArray, List.set_cons_zero, List.set_cons_succ]
      refine wpAnyT_take (i := 5) (v := ?v6) [] rfl (by kernel_rfl) (fun _ _ _ h => h) (Or.inl ⟨by rfl, ?hy6⟩) hHeld ?rst6
      case hy6 => (intro wx hSw; obtain ⟨q1, q2, q3, q4, q5, q6, q7, q8⟩ := HF.out wx hSw; go_simp; try (with_reducible rfl))
      try simp only [List.getElem_toArray, List.getElem_cons_zero, List.getElem_cons_succ, Act.put, List.setIfInBounds_toArray, List.set_cons_zero, List.set_cons_succ]
      refine wpAnyT_take (i := 6) (v := ?v7) [] rfl (by kernel_rfl) (fun _ _ _ h => h) (Or.inl ⟨by rfl, ?hy7⟩) hHeld ?rst7
      case hy7 => (intro wx hSw; obtain ⟨q1, q2, q3, q4, q5, q6, q7, q8⟩ := HF.out wx hSw; go_simp; try (with_reducible rfl))
      try simp only [List.getElem_toArray, List.getElem_cons_zero, List.getElem_cons_succ, Act.put, List.setIfInBounds_toArray, List.set_cons_zero, List.set_cons_succ]
      refine wpAnyT_take (i := 7) (v := ?v8) [] rfl (by kernel_rfl) (fun _ _ _ h => h) (Or.inl ⟨by rfl, ?hy8⟩) hHeld ?rst8
      case hy8 => (intro wx hSw; obtain ⟨q1, q2, q3, q4, q5, q6, q7, q8⟩ := HF.out wx hSw; go_simp; try (with_reducible rfl))
      try simp only [List.getElem_toArray, List.getElem_cons_zero, List.getElem_cons_succ, Act.put, List.setIfInBounds_toArray, List.set_cons_zero, List.set_cons_succ]
      refine wpAnyT_take (i := 8) (v := ?v9) [] rfl (by kernel_rfl) (fun _ _ _ h => h) (Or.inl ⟨by rfl, ?hy9⟩) hHeld ?rst9
      case hy9 => (intro wx hSw; obtain ⟨q1, q2, q3, q4, q5, q6, q7, q8⟩ := HF.out wx hSw; go_simp; try (with_reducible rfl))
      try simp only [List.getElem_toArray, List.getElem_cons_zero, List.getElem_cons_succ, Act.put, List.setIfInBounds_toArray, List.set_cons_zero, List.set_cons_succ]
      refine wpAnyT_take (i := 9) (v := ?v10) [] rfl (by kernel_rfl) (fun _ _ _ h => h) (Or.inl ⟨by rfl, ?hy10⟩) hHeld ?rst10
      case hy10 => (intro wx hSw; obtain ⟨q1, q2, q3, q4, q5, q6, q7, q8⟩ := HF.out wx hSw; go_simp; try (with_reducible rfl))
      try simp only [List.getElem_toArray, List.getElem_cons_zero, List.getElem_cons_succ, Act.put, List.setIfInBounds_toArray, List.set_cons_zero, List.set_cons_succ]
      refine wpAnyT_take (i := 10) (v := ?v11) [] rfl (by kernel_rfl) (fun _ _ _ h => h) (Or.inl ⟨by rfl, ?hy11⟩) hHeld ?rst11
      case hy11 => (intro wx hSw; obtain ⟨q1, q2, q3, q4, q5, q6, q7, q8⟩ := HF.out wx hSw; go_simp; try (with_reducible rfl))
      try simp only [List.getElem_toArray, List.getElem_cons_zero, List.getElem_cons_succ, Act.put, List.setIfInBounds_toArray, List.set_cons_zero, List.set_cons_succ]
      refine wpAnyT_take (i := 11) (v := ?v12) [] rfl (by kernel_rfl) (fun _ _ _ h => h) (Or.inl ⟨by rfl, ?hy12⟩) hHeld ?rst12
      case hy12 => (intro wx hSw; obtain ⟨q1, q2, q3, q4, q5, q6, q7, q8⟩ := HF.out wx hSw; go_simp; try (with_reducible rfl))
      try simp only [List.getElem_toArray, List.getElem_cons_zero, List.getElem_cons_succ, Act.put, List.setIfInBounds_toArray, List.set_cons_zero, List.set_cons_succ]
      refine wpAnyT_take (i := 12) (v := ?v13) [] rfl (by kernel_rfl) (fun _ _ _ h => h) (Or.inl ⟨by rfl, ?hy13⟩) hHeld ?rst13
      case hy13 => (intro wx hSw; obtain ⟨q1, q2, q3, q4, q5, q6, q7, q8⟩ := HF.out wx hSw; go_simp; try (with_reducible rfl))
      try simp only [List.getElem_toArray, List.getElem_cons_zero, List.getElem_cons_succ, Act.put, List.setIfInBounds_toArray, List.set_cons_zero, List.set_cons_succ]
      refine wpAnyT_take (i := 13) (v := ?v14) [] rfl (by kernel_rfl) (fun _ _ _ h => h) (Or.inl ⟨by rfl, ?hy14⟩) hHeld ?rst14
      case hy14 => (intro wx hSw; obtain ⟨q1, q2, q3, q4, q5, q6, q7, q8⟩ := HF.out wx hSw; go_simp; try (with_reducible rfl))
      try simp only [List.getElem_toArray, List.getElem_cons_zero, List.getElem_cons_succ, Act.put, List.setIfInBounds_toArray, List.set_cons_zero, List.set_cons_succ]
      refine wpAnyT_take (i := 14) (v := ?v15) [] rfl (by kernel_rfl) (fun _ _ _ h => h) (Or.inl ⟨by rfl, ?hy15⟩) hHeld ?rst15
      case hy15 => (intro wx hSw; obtain ⟨q1, q2, q3, q4, q5, q6, q7, q8⟩ := HF.out wx hSw; go_simp; try (with_reducible rfl))
      try simp only [List.getElem_toArray, List.getElem_cons_zero, List.getElem_cons_succ, Act.put, List.setIfInBounds_toArray, List.set_cons_zero, List.set_cons_succ]
      refine wpAnyT_take (i := 15) (v := ?v16) [] rfl (by kernel_rfl) (fun _ _ _ h => h) (Or.inl ⟨by rfl, ?hy16⟩) hHeld ?rst16
      case hy16 => (intro wx hSw; obtain ⟨q1, q2, q3, q4, q5, q6, q7, q8⟩ := HF.out wx hSw; go_simp; try (with_reducible rfl))
      try simp only [List.getElem_toArray, List.getElem_cons_zero, List.getElem_cons_succ, Act.put, List.setIfInBounds_toArray, List.set_cons_zero, List.set_cons_succ]
      refine wpAnyT_take (i := 16) (v := ?v17) [] rfl (by kernel_rfl) (fun _ _ _ h => h) (Or.inl ⟨by rfl, ?hy17⟩) hHeld ?rst17
      case hy17 => (intro wx hSw; obtain ⟨q1, q2, q3, q4, q5, q6, q7, q8⟩ := HF.out wx hSw; go_simp; try (with_reducible rfl))
      try simp only [List.getElem_toArray, List.getElem_cons_zero, List.getElem_cons_succ, Act.put, List.setIfInBounds_toArray, List.set_cons_zero, List.set_cons_succ]
      refine wpAnyT_take (i := 17) (v := ?v18) [] rfl (by kernel_rfl) (fun _ _ _ h => h) (Or.inl ⟨by rfl, ?hy18⟩) hHeld ?rst18
      case hy18 => (intro wx hSw; obtain ⟨q1, q2, q3, q4, q5, q6, q7, q8⟩ := HF.out wx hSw; go_simp; try (with_reducible rfl))
      try simp only [List.getElem_toArray, List.getElem_cons_zero, List.getElem_cons_succ, Act.put, List.setIfInBounds_toArray, List.set_cons_zero, List.set_cons_succ]
      refine wpAnyT_one (i := 18) (by kernel_rfl) rfl (fun K hK => ?_)
      go_simp
      go_at_call 93
      refine (HIN.out _).mono ?_
      rintro e9 w9 ⟨rfl, hx9⟩
      have B9 := bext hHeld hx9 hHeld.size
      clear hx9
      refine hK.out _ _ (B9) (fun hHeld => ?_)
      clear hK K
      try simp only [List.getElem_toArray, List.getElem_cons_zero, List.getElem_cons_succ, Act.put, List.setIfInBounds_toArray, List.set_cons_zero, List.set_cons_succ]
      refine wpAnyT_take (i := 19) (v := ?v19) [] rfl (by kernel_rfl) (fun _ _ _ h => h) (Or.inl ⟨by rfl, ?hy19⟩) hHeld ?rst19
      case hy19 => (intro wx hSw; obtain ⟨q1, q2, q3, q4, q5, q6, q7, q8⟩ := HF.out wx hSw; go_simp; try (with_reducible rfl))
      try simp only [List.getElem_toArray, List.getElem_cons_zero, List.getElem_cons_succ, Act.put, List.setIfInBounds_toArray, List.set_cons_zero, List.set_cons_succ]
      refine wpAnyT_take (i := 20) (v := ?v20) [] rfl (by kernel_rfl) (fun _ _ _ h => h) (Or.inl ⟨by rfl, ?hy20⟩) hHeld ?rst20
      case hy20 => (intro wx hSw; obtain ⟨q1, q2, q3, q4, q5, q6, q7, q8⟩ := HF.out wx hSw; go_simp; try (with_reducible rfl))
      try simp only [List.getElem_toArray, List.getElem_cons_zero, List.getElem_cons_succ, Act.put, List.setIfInBounds_toArray, List.set_cons_zero, List.set_cons_succ]
      refine wpAnyT_take (i := 21) (v := undef) [] rfl (by kernel_rfl) (fun _ _ _ h => h) (Or.inr ⟨by rfl, rfl⟩) hHeld ?_
      try simp only [List.getElem_toArray, List.getElem_cons_zero, List.getElem_cons_succ, Act.put, List.setIfInBounds_toArray, List.set_cons_zero, List.set_cons_succ]
      refine wpAnyT_take (i := 22) (v := undef) [] rfl (by kernel_rfl) (fun _ _ _ h => h) (Or.inr ⟨by rfl, rfl⟩) hHeld ?_
      try simp only [List.getElem_toArray, List.getElem_cons_zero, List.getElem_cons_succ, Act.put, List.setIfInBounds_toArray, List.set_cons_zero, List.set_cons_succ]
      refine wpAnyT_take (i := 23) (v := undef) [] rfl (by kernel_rfl) (fun _ _ _ h => h) (Or.inr ⟨by rfl, rfl⟩) hHeld ?_
      try simp only [List.getElem_toArray, List.getElem_cons_zero, List.getElem_cons_succ, Act.put, List.setIfInBounds_toArray, List.set_cons_zero, List.set_cons_succ]
      refine wpAnyT_take (i := 24) (v := undef) [] rfl (by kernel_rfl) (fun _ _ _ h => h) (Or.inr ⟨by rfl, rfl⟩) hHeld ?_
      try simp only [List.getElem_toArray, List.getElem_cons_zero, List.getElem_cons_succ, Act.put, List.setIfInBounds_toArray, List.set_cons_zero, List.set_cons_succ]
      refine wpAnyT_take (i := 25) (v := undef) [] rfl (by kernel_rfl) (fun _ _ _ h => h) (Or.inr ⟨by rfl, rfl⟩) hHeld ?_
      try simp only [List.getElem_toArray, List.getElem_cons_zero, List.getElem_cons_succ, Act.put, List.setIfInBounds_toArray, List.set_cons_zero, List.set_cons_succ]
      refine wpAnyT_take (i := 26) (v := undef) [] rfl (by kernel_rfl) (fun _ _ _ h => h) (Or.inr ⟨by rfl, rfl⟩) hHeld ?_
      try simp only [List.getElem_toArray, List.getElem_cons_zero, List.getElem_cons_succ, Act.put, List.setIfInBounds_toArray, List.set_cons_zero, List.set_cons_succ]
      refine wpAnyT_take (i := 27) (v := undef) [] rfl (by kernel_rfl) (fun _ _ _ h => h) (Or.inr ⟨by rfl, rfl⟩) hHeld ?_
      try simp only [List.getElem_toArray, List.getElem_cons_zero, List.getElem_cons_succ, Act.put, List.setIfInBounds_toArray, List.set_cons_zero, List.set_cons_succ]
      refine wpAnyT_take (i := 28) (v := undef) [] rfl (by kernel_rfl) (fun _ _ _ h => h) (Or.inr ⟨by rfl, rfl⟩) hHeld ?_
      try simp only [List.getElem_toArray, List.getElem_cons_zero, List.getElem_cons_succ, Act.put, List.setIfInBounds_toArray, List.set_cons_zero, List.set_cons_succ]
      refine wpAnyT_take (i := 29) (v := undef) [] rfl (by kernel_rfl) (fun _ _ _ h => h) (Or.inr ⟨by rfl, rfl⟩) hHeld ?_
      try simp only [List.getElem_toArray, List.getElem_cons_zero, List.getElem_cons_succ, Act.put, List.setIfInBounds_toArray, List.set_cons_zero, List.set_cons_succ]
      refine wpAnyT_take (i := 30) (v := ?v21) [] rfl (by kernel_rfl) (fun _ _ _ h => h) (Or.inl ⟨by rfl, ?hy21⟩) hHeld ?rst21
      case hy21 => (intro wx hSw; obtain ⟨q1, q2, q3, q4, q5, q6, q7, q8⟩ := HF.out wx hSw; go_simp; try (with_reducible rfl))
      try simp only [List.getElem_toArray, List.getElem_cons_zero, List.getElem_cons_succ, Act.put, List.setIfInBounds_toArray, List.set_cons_zero, List.set_cons_succ]
      refine wpAnyT_last (by kernel_rfl) (by kernel_rfl) rfl (fun K hK => ?_)
      go_simp
      refine hK.out _ _ ?_
      clear hK K
      go_wp2
      go_ret
      exact ⟨rfl, bext HXV.out hHeld HXV.out.size⟩

def rcs (r : Rn) : List Value := [.int .i64 (r.x : Int), .int .i64 (r.y : Int), .int .i64 (r.a : Int), .int .i64 (r.b : Int)]
/-- a row of rectangles that grows -/
def Vr (base : Nat) (w : World) (v : Value) (l : List Rn) : Prop := w.ownsRow base 31 4 v l.length (l.flatMap rcs)
/-- a slice of rectangles -/
def RSl (w : World) (A : Option Addr) (l : List Rn) : Prop :=
  l = [] ∨ ∃ b off, A = some ⟨b, off, none⟩ ∧ b < w.heap.size ∧ ∀ j (h : j < l.length), w.cell? ⟨b, off + j * 4, none⟩ = some (.int .i64 (l[j].x : Int)) ∧ w.cell? ⟨b, off + j * 4 + 1, none⟩ = some (.int .i64 (l[j].y : Int)) ∧ w.cell? ⟨b, off + j * 4 + 2, none⟩ = some (.int .i64 (l[j].a : Int)) ∧ w.cell? ⟨b, off + j * 4 + 3, none⟩ = some (.int .i64 (l[j].b : Int))
theorem RSl.ext {w w' : World} {A : Option Addr} {l : List Rn} (h : RSl w A l) (hb : Below w.heap.size w w') : RSl w' A l := by
  rcases h with h | ⟨b, off, h1, h2, h3⟩
  · exact .inl h
  · exact .inr ⟨b, off, h1, Nat.lt_of_lt_of_le h2 hb.size, fun j hj => ⟨(hb.cell (p := ⟨b, _, none⟩) h2).trans (h3 j hj).1, (hb.cell (p := ⟨b, _, none⟩) h2).trans (h3 j hj).2.1, (hb.cell (p := ⟨b, _, none⟩) h2).trans (h3 j hj).2.2.1, (hb.cell (p := ⟨b, _, none⟩) h2).trans (h3 j hj).2.2.2⟩⟩
theorem Vr.nil (base : Nat) (w : World) : Vr base w (.slice none 0 0) [] := own_nil w base 31 4
theorem Vr.rsl {base : Nat} {w : World} {v : Value} {l : List Rn} (h : Vr base w v l) : ∃ A cap, v = .slice A l.length cap ∧ l.length ≤ cap ∧ cap ≤ maxLen ∧ RSl w A l := by
  obtain ⟨A, cap, hv, h1, h2, h3⟩ := own_cells h
  refine ⟨A, cap, hv, h1, h2, ?_⟩
  rcases h3 with h3 | ⟨g, rfl, hb, hg, hc⟩
  · exact .inl (List.eq_nil_of_length_eq_zero h3)
  · refine .inr ⟨g, 0, rfl, hg, fun j hj => ?_⟩
    have hf : ∀ a : Rn, (rcs a).length = 4 := fun _ => rfl
    have hh := fun i (hi : i < 4) => hc (j * 4 + i) ((rcs l[j])[i]'hi) (by rw [flat_get hf l j i hj hi]; exact List.getElem?_eq_getElem hi)
    rw [Nat.zero_add]
    exact ⟨hh 0 (by decide), hh 1 (by decide), hh 2 (by decide), hh 3 (by decide)⟩
theorem info_rect : (Tryd.prog.info? 31).map (fun i => (i.zero, i.size, i.bytes)) = some (some (.agg #[.int .i64 0, .int .i64 0, .int .i64 0, .int .i64 0]), 4, 32) := by kernel_rfl
/-- 'append(out, r)' of one rectangle -/
theorem wpList_pushRc (w : World) {ops : Array Oper} {rest : List Oper} {o : Oper} {a : Act} {Q : Exit → Act → World → Prop} (hgd : o.guard = none) (s x : Operand)
    (ho : o.op = .call { callee := .builtin .append, args := #[s, x], argTypes := #[37, 37] })
    (base : Nat) {v : Value} {l : List Rn} (hown : Vr base w v l) (hs : a.eval s = v) (r : Rn)
    {B : Nat} (hx : a.eval x = .slice (some ⟨B, 0, none⟩) 1 1) (hB : w.heap.size = B) (hn : l.length ≤ 100000000) (hbase : base ≤ w.heap.size)
    (h : ∀ v' w', Vr base w' v' (l ++ [r]) → Below base w w' → wpList Tryd.prog ops Q rest (a.put o.dst v') w') :
    wpList Tryd.prog ops Q (o :: rest) a (w.alloc (.cells #[.int .i64 (r.x : Int), .int .i64 (r.y : Int), .int .i64 (r.a : Int), .int .i64 (r.b : Int)] 31)) := by
  refine wpList_push w hgd s x _ ho base 31 _ 4 32 Tryd.underlying37 info_rect rfl (by decide) hown hs (news := rcs r) hx hB rfl (by intro x hx; simp [rcs] at hx; rcases hx with rfl | rfl | rfl | rfl <;> rfl) (by decide) (by unfold maxLen; omega) (by omega) hbase ?_
  intro v' w' h2 h3 h4 _ _ _
  refine h v' w' ?_ h3
  have e : l.flatMap rcs ++ rcs r = (l ++ [r]).flatMap rcs := by rw [List.flatMap_append]; simp
  have e2 : (l ++ [r]).length = l.length + 1 := by simp
  unfold Vr
  rw [← e, e2]
  exact h2
/-- how many there can be -/
theorem mx_len {us : Int × Int → Bool} {n h : Nat} (hi : Inn us n h) (hn : n ≤ 48) (hh : h ≤ 48) {P : Rn → Prop} {ms : List Rn} (hm : MxL us P ms) : ms.length ≤ 10000000 := by
  let f : Nat → Rn := fun k => ⟨k % 50, k / 50 % 50, k / 2500 % 50, k / 125000⟩
  have hs : ∀ r ∈ ms, r ∈ (List.range 6250000).map f := fun r hr => by
    have h1 := ((hm.2 r).1 hr).1
    have h2 := Fu.inn hi h1.1 h1.2.1 h1.2.2.1
    have h3 := h1.1
    have h4 := h1.2.1
    refine List.mem_map.2 ⟨r.x + 50 * (r.y + 50 * (r.a + 50 * r.b)), List.mem_range.2 (by omega), ?_⟩
    refine Rn.ext' ?_ ?_ ?_ ?_
    · show (r.x + 50 * (r.y + 50 * (r.a + 50 * r.b))) % 50 = r.x; omega
    · show (r.x + 50 * (r.y + 50 * (r.a + 50 * r.b))) / 50 % 50 = r.y; omega
    · show (r.x + 50 * (r.y + 50 * (r.a + 50 * r.b))) / 2500 % 50 = r.a; omega
    · show (r.x + 50 * (r.y + 50 * (r.a + 50 * r.b))) / 125000 = r.b; omega
  have := nodup_len ms _ hm.1 hs
  simp at this
  omega
end Go.Proofs.YtmgofdgbenfjmaaDoor
