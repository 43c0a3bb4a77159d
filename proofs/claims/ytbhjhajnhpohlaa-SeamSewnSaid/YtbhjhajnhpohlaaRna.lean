/- The closures of runs, walked; plain: the odd joints of a class. Conditions: the captured cells hold the thread, the class of each joint, the class. -/
import Derived.Test.YtbhjhajnhpohlaaDcl
import Derived.Test.YtbhjhajnhpohlaaFwP
namespace Go.Proofs.Ytbhjhajnhpohlaa
open Go.RowKit

theorem deg_cls {n : Nat} {l : List Sm} {t j : Int} (h : ∀ s ∈ l, SmOk n s) (ht : 0 ≤ t) (m : Nat) : ∀ L : List Sm, (∀ s ∈ L, s ∈ l) → deg (chJ l t j) L m = if kls l t m = j then deg (chT t) L m else 0
  | [], _ => by simp [deg]
  | s :: L, hL => by
    have ih := deg_cls (j := j) h ht m L (fun x hx => hL x (by simp [hx]))
    show (if chJ l t j s then inc s m else 0) + deg (chJ l t j) L m = if kls l t m = j then (if chT t s then inc s m else 0) + deg (chT t) L m else 0
    rw [ih]
    obtain ⟨q, hq, e⟩ := List.getElem_of_mem (hL s (by simp))
    have hso := h _ (List.getElem_mem hq)
    rw [e] at hso
    unfold SmOk at hso
    by_cases hst : s.t = t
    · have hc : chT t s = true := decide_eq_true hst
      have hk := kls_ends h ht hq (by rw [e]; exact hst)
      rw [e] at hk
      by_cases hi : inc s m = 0
      · rw [hi]; simp
      · have hkm : kls l t s.a.toNat = kls l t m := by
          unfold inc at hi
          by_cases ha : s.a = m
          · rw [ha, Int.toNat_natCast]
          · by_cases hb : s.b = m
            · rw [hk, hb, Int.toNat_natCast]
            · rw [if_neg ha, if_neg hb] at hi; exact absurd rfl hi
        have hcj : chJ l t j s = decide (kls l t m = j) := by
          unfold chJ
          rw [decide_eq_true hst, hkm]; rfl
        rw [hcj, hc]
        by_cases hj : kls l t m = j
        · simp [hj]
        · simp [hj]
    · have hc : chT t s = false := decide_eq_false hst
      have hcj : chJ l t j s = false := by unfold chJ; rw [decide_eq_false hst]; rfl
      rw [hcj, hc]
      simp
theorem ends_filter {n : Nat} {l : List Sm} {t j : Int} (h : ∀ s ∈ l, SmOk n s) (ht : 0 ≤ t) : ∀ m, (oddN (chT t) l m).filter (fun x => decide (kls l t x.toNat = j)) = oddN (chJ l t j) l m
  | 0 => rfl
  | m + 1 => by
    have ih := ends_filter (j := j) h ht m
    have hd := deg_cls (j := j) h ht m l (fun _ hs => hs)
    unfold oddN
    rw [hd]
    by_cases hk : kls l t m = j
    · rw [if_pos hk]
      split
      · rw [List.filter_append, ih]
        have : ([(m : Int)].filter fun x => decide (kls l t x.toNat = j)) = [(m : Int)] := by
          rw [List.filter_cons_of_pos (by rw [Int.toNat_natCast]; exact decide_eq_true hk)]; rfl
        rw [this]
      · exact ih
    · rw [if_neg hk, if_neg (show ¬ (0 : Int) % 2 = 1 by decide)]
      split
      · rw [List.filter_append, ih]
        have : ([(m : Int)].filter fun x => decide (kls l t x.toNat = j)) = [] := by
          rw [List.filter_cons_of_neg (by rw [Int.toNat_natCast]; simpa using hk)]; rfl
        rw [this, List.append_nil]
      · exact ih
theorem oddT_rng {n : Nat} {l : List Sm} {t : Int} (h : ∀ s ∈ l, SmOk n s) (m : Nat) : ∀ x ∈ oddN (chT t) l m, 0 ≤ x ∧ x < n := by
  intro x hx
  obtain ⟨j, rfl, _, hd⟩ := oddN_mem m x hx
  refine ⟨by omega, Int.not_le.1 fun hj => ?_⟩
  rw [deg_out h (by omega)] at hd
  omega

theorem enters83 : Enters 83 := fun _ _ => by kernel_rfl
theorem enters84 : Enters 84 := fun _ _ => by kernel_rfl
theorem enters87 : Enters 87 := fun _ _ => by kernel_rfl
set_option maxHeartbeats 1000000 in
theorem runs1_any (s : Sm) (g : Nat) (t : Int) (W : World) (h : W.cell? ⟨g, 0, none⟩ = some (.int .i64 t)) :
    Calls Try.prog 83 (#[s.val] ++ #[.pointer (some ⟨g, 0, none⟩)]) W fun e w' => e = .returned (.bool (chT t s)) ∧ Below W.heap.size W w' := by
  obtain ⟨a, b, n, t'⟩ := s
  have hg := World.block_lt_of_cell? W ⟨g, 0, none⟩ h
  show Calls Try.prog 83 #[.agg #[.int .i64 a, .int .i64 b, .int .i64 n, .int .i64 t'], .pointer (some ⟨g, 0, none⟩)] W _
  dsimp only at hg
  go_enter Try.func83, Try.ntmps83
  go_wp2
  go_ret
  exact ⟨ret_bool (by unfold chT; rfl), ext_alloc _ _⟩
theorem chs_runs1 (l : List Sm) (w : World) (g : Nat) (t : Int) (h : w.cell? ⟨g, 0, none⟩ = some (.int .i64 t)) : ChS w 83 #[.pointer (some ⟨g, 0, none⟩)] l (chT t) :=
  ⟨enters83, fun W hW s _ => runs1_any s g t W ((hW.cell (p := ⟨g, 0, none⟩) (World.block_lt_of_cell? w ⟨g, 0, none⟩ h)).trans h)⟩
set_option maxHeartbeats 1000000 in
theorem runs2_any (s : Sm) (k : Int) (g g2 : Nat) (t : Int) (W : World) (h2 : W.cell? ⟨g2, 0, none⟩ = some (.func (.func 83) #[] #[.pointer (some ⟨g, 0, none⟩)])) (h : W.cell? ⟨g, 0, none⟩ = some (.int .i64 t)) :
    Calls Try.prog 84 (#[.int .i64 k, s.val] ++ #[.pointer (some ⟨g2, 0, none⟩)]) W fun e w' => e = .returned (.bool (chT t s)) ∧ Below W.heap.size W w' := by
  have hen : ∀ args W, (callFunc 83 args).run Try.prog W = .ok (.enter 83 args) W := enters83
  have HC := Lib.hid (fun W' (hW : Below W.heap.size W W') => runs1_any s g t W' ((hW.cell (p := ⟨g, 0, none⟩) (World.block_lt_of_cell? W ⟨g, 0, none⟩ h)).trans h))
  obtain ⟨a, b, n, t'⟩ := s
  obtain ⟨ct, hct⟩ : ∃ ct, ct = chT t ⟨a, b, n, t'⟩ := ⟨_, rfl⟩
  rw [← hct] at HC ⊢
  have hg := World.block_lt_of_cell? W ⟨g2, 0, none⟩ h2
  have HX := Lib.hid (ext_alloc W (.cells #[.int .i64 a, .int .i64 b, .int .i64 n, .int .i64 t'] 106))
  show Calls Try.prog 84 #[.int .i64 k, .agg #[.int .i64 a, .int .i64 b, .int .i64 n, .int .i64 t'], .pointer (some ⟨g2, 0, none⟩)] W _
  dsimp only at hg
  clear h hct
  go_enter Try.func84, Try.ntmps84
  go_wp2_with (refine (HC.out _ HX.out).mono ?_; rintro e w1 ⟨rfl, hx1⟩)
  go_ret
  exact ⟨rfl, ext_trans HX.out hx1⟩
theorem chk_runs2 (l : List Sm) (w : World) (g g2 : Nat) (t : Int) (ht : 0 ≤ t) (h2 : w.cell? ⟨g2, 0, none⟩ = some (.func (.func 83) #[] #[.pointer (some ⟨g, 0, none⟩)])) (h : w.cell? ⟨g, 0, none⟩ = some (.int .i64 t)) : ChK w 84 #[.pointer (some ⟨g2, 0, none⟩)] l (chB l t (-1)) :=
  ⟨enters84, fun W hW k hk => by
    have e : chB l t (-1) k = chT t l[k] := by
      unfold chB chR chT
      rw [List.getElem?_eq_getElem hk]
      dsimp only
      rw [decide_eq_true (show (k : Int) ≠ -1 by omega), Bool.true_and]
      exact decide_eq_decide.2 ⟨fun h => h.resolve_left (by omega), .inr⟩
    rw [e]
    exact runs2_any l[k] k g g2 t W ((hW.cell (p := ⟨g2, 0, none⟩) (World.block_lt_of_cell? w ⟨g2, 0, none⟩ h2)).trans h2) ((hW.cell (p := ⟨g, 0, none⟩) (World.block_lt_of_cell? w ⟨g, 0, none⟩ h)).trans h)⟩
set_option maxRecDepth 100000 in
set_option maxHeartbeats 1000000 in
theorem runs3_any (x : Nat) (p q b n : Nat) (d : Nat → Int) (j : Int) (W : World) (hx : x < n) (hp : W.cell? ⟨p, 0, none⟩ = some (.slice (some ⟨b, 0, none⟩) n n)) (hq : W.cell? ⟨q, 0, none⟩ = some (.int .i64 j)) (ho : Ow 3 b n d W) :
    Calls Try.prog 87 (#[.int .i64 (x : Int)] ++ #[.pointer (some ⟨p, 0, none⟩), .pointer (some ⟨q, 0, none⟩)]) W fun e w' => e = .returned (.bool (!decide (d x = j))) ∧ Below W.heap.size W w' := by
  have c1 := ho.cell hx
  have hb := ho.lt
  clear ho
  show Calls Try.prog 87 #[.int .i64 (x : Int), .pointer (some ⟨p, 0, none⟩), .pointer (some ⟨q, 0, none⟩)] W _
  generalize d x = y at *
  go_enter Try.func87, Try.ntmps87
  go_wp2
  go_quiet (fail)
  go_wp2
  go_ret
  refine ⟨?_, ext_drewN _ _⟩
  have e : (y != j) = !decide (y = j) := rfl
  rw [← e]; rfl
/-- the closure that drops the joints of other classes -/
theorem chi_runs3 (base p q b n : Nat) (d : Nat → Int) (j : Int) (w : World) (xs : List Int) (hx : ∀ x ∈ xs, 0 ≤ x ∧ x < n) (hp : w.cell? ⟨p, 0, none⟩ = some (.slice (some ⟨b, 0, none⟩) n n)) (hq : w.cell? ⟨q, 0, none⟩ = some (.int .i64 j)) (ho : Ow 3 b n d w) (h1 : p < base) (h2 : q < base) (h3 : b < base) :
    ChI base w 87 #[.pointer (some ⟨p, 0, none⟩), .pointer (some ⟨q, 0, none⟩)] xs (fun x => !decide (d x.toNat = j)) :=
  ⟨enters87, fun W hW _ x hm => by
    obtain ⟨x0, x1⟩ := hx x hm
    obtain ⟨y, rfl⟩ := Int.eq_ofNat_of_zero_le x0
    exact runs3_any y p q b n d j W (by omega) ((hW.cell (p := ⟨p, 0, none⟩) h1).trans hp) ((hW.cell (p := ⟨q, 0, none⟩) h2).trans hq) ((hW.block b h3).trans ho)⟩
end Go.Proofs.Ytbhjhajnhpohlaa
