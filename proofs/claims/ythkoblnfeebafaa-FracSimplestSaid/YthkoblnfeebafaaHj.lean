/- The reference's Simplest walked. Conditions: the arguments are within their kinds. -/
import Derived.Test.YthkoblnfeebafaaHi
import Derived.Test.YthkoblnfeebafaaHb
import Derived.Outline
namespace Go.Proofs.Ythkoblnfeebafaa
open Go.RowKit

theorem sok_parts {an ad bn bd : Int} (h : SOk an ad bn bd) : Lim (rat an ad) ∧ Lim (rat bn bd) ∧ (rat an ad).num = an ∧ ((rat an ad).den : Int) = ad ∧ (rat bn bd).num = bn ∧ ((rat bn bd).den : Int) = bd := by
  obtain ⟨va, vb, hle⟩ := h
  obtain ⟨n1, n2⟩ := rat_one va.1 va.2.2.2.2
  obtain ⟨n3, n4⟩ := rat_one vb.1 vb.2.2.2.2
  obtain ⟨a1, a2, a3, a4, a5⟩ := va
  obtain ⟨b1, b2, b3, b4, b5⟩ := vb
  exact ⟨⟨by omega, by omega⟩, ⟨by omega, by omega⟩, n1, n2, n3, n4⟩

theorem ans_weak {an ad bn bd : Int} (h : SOk an ad bn bd) {q : Rat} (hq : Sp.Weak an ad bn bd q.num q.den) : SpA an ad bn bd (ans q) := by
  obtain ⟨va, vb, hle⟩ := h
  have h1 := Sp.Weak.den va.1 hle hq
  have h2 := Sp.Weak.num_le vb.1 hle hq vb.2.2.2.1 (by decide)
  have h3 := Sp.Weak.num_ge va.1 hle hq va.2.2.1 (by decide)
  have h4 := va.2.1
  rw [ans_yes ⟨by omega, by omega⟩]
  exact .inr ⟨⟨va, vb, hle⟩, _, _, hq, rfl⟩

theorem order_sok {an ad bn bd : Int} (va : Vld an ad) (vb : Vld bn bd) : (rat an ad - rat bn bd).num.sign = (an * bd - bn * ad).sign := by
  have e : rat an ad - rat bn bd = rat (an * bd - bn * ad) (ad * bd) := sub_eq2 va.1 vb.1
  have hd : 1 ≤ ad * bd := Int.mul_pos (by have := va.1; omega) (by have := vb.1; omega)
  rw [e, sign_rat hd]

/-- with a result of any content -/
def SD (w : World) (an ad bn bd : Int) (wx : World) : Prop :=
  Below w.heap.size w wx ∧ Ce 23 wx w.heap.size (.int .i64 an) (.int .i64 ad) ∧ Ce 23 wx (w.heap.size + 1) (.int .i64 bn) (.int .i64 bd) ∧ ∃ x y, Ce 23 wx (w.heap.size + 1 + 1) x y
theorem SD.call {w : World} {an ad bn bd : Int} {wx wy : World} (h : SD w an ad bn bd wx) (hb : Below wx.heap.size wx wy) : SD w an ad bn bd wy := by
  obtain ⟨h1, h2, h3, x, y, h4⟩ := h
  exact ⟨bext h1 hb (Nat.le_of_lt h2.facts.2.2), h2.ext hb, h3.ext hb, x, y, h4.ext hb⟩
theorem SD.drew {w : World} {an ad bn bd : Int} {wx : World} (h : SD w an ad bn bd wx) : SD w an ad bn bd wx.drew := h.call (ext_drew _)
theorem SD.store {w : World} {an ad bn bd : Int} {wx : World} (h : SD w an ad bn bd wx) (x y : Value) : SD w an ad bn bd ((wx.setCell ⟨w.heap.size + 1 + 1, 0, none⟩ x).setCell ⟨w.heap.size + 1 + 1, 1, none⟩ y) := by
  obtain ⟨h1, h2, h3, u, v, h4⟩ := h
  exact ⟨below2 h1 (by omega) _ _, h2.set_ne' (by omega) _ _, h3.set_ne' (by omega) _ _, x, y, h4.set2 _ _⟩
theorem SD.cells {w : World} {an ad bn bd : Int} {wx : World} (h : SD w an ad bn bd wx) : SD w an ad bn bd wx ∧
    (wx.cell? ⟨w.heap.size, 0, none⟩ = some (.int .i64 an) ∧ wx.cell? ⟨w.heap.size, 1, none⟩ = some (.int .i64 ad)) ∧ (wx.cell? ⟨w.heap.size + 1, 0, none⟩ = some (.int .i64 bn) ∧ wx.cell? ⟨w.heap.size + 1, 1, none⟩ = some (.int .i64 bd)) :=
  ⟨h, ⟨h.2.1.facts.1 0, h.2.1.facts.1 1⟩, h.2.2.1.facts.1 0, h.2.2.1.facts.1 1⟩

set_option maxRecDepth 100000 in
set_option maxHeartbeats 20000000 in
theorem rsimplest_fn (an ad bn bd : Int) (w : World) (ha1 : IsI an) (ha2 : IsI ad) (hb1 : IsI bn) (hb2 : IsI bd) :
    Calls Try.prog 54 #[frv an ad, frv bn bd] w fun e w' => ∃ x, SpA an ad bn bd x ∧ RetA w x e w' := by
  have h1 := fun W => rvalid_any an ad W ha1 ha2
  have h2 := fun W => rvalid_any bn bd W hb1 hb2
  have hSS : ∀ wx, SC w an ad bn bd wx → (SC w an ad bn bd wx ∧ (wx.cell? ⟨w.heap.size, 0, none⟩ = some (.int .i64 an) ∧ wx.cell? ⟨w.heap.size, 1, none⟩ = some (.int .i64 ad)) ∧ (wx.cell? ⟨w.heap.size + 1, 0, none⟩ = some (.int .i64 bn) ∧ wx.cell? ⟨w.heap.size + 1, 1, none⟩ = some (.int .i64 bd))) := fun wx h => ⟨h, h.cells.1, h.cells.2⟩
  have HSS := Lib.hid hSS
  clear hSS
  cases hv : vldB an ad
  · have HNO := Lib.hid (show ¬ SOk an ad bn bd from fun h => by rw [vldB_yes h.1] at hv; cases hv)
    rw [hv] at h1
    unfold frv at *
    have H1 := Lib.hid h1
    clear h1 h2 hv ha1 ha2 hb1 hb2
    go_enter Try.func54, Try.ntmps54
    go_upto_region 1 with (fail)
    refine wp_region_held_drew (S := (fun wx => SC w an ad bn bd wx ∧ (wx.cell? ⟨w.heap.size, 0, none⟩ = some (.int .i64 an) ∧ wx.cell? ⟨w.heap.size, 1, none⟩ = some (.int .i64 ad)) ∧ (wx.cell? ⟨w.heap.size + 1, 0, none⟩ = some (.int .i64 bn) ∧ wx.cell? ⟨w.heap.size + 1, 1, none⟩ = some (.int .i64 bd)))) (by kernel_rfl) (HSS.out _ (SC.start (ext_drew _))) (fun hHeld => ?_)
    refine wpAnyH_take (i := 0) (v := ?v1) rfl (by kernel_rfl) (by kernel_rfl) (by kernel_rfl) (fun _ _ _ h => h) (Or.inl ⟨by rfl, ?hy1⟩) hHeld ?rst1
    case hy1 => (intro wx hSw; (try dsimp only at hSw); go_simp; try (with_reducible rfl))
    try simp only [List.getElem_toArray, List.getElem_cons_zero, Act.put, List.setIfInBounds_toArray, List.set_cons_zero, List.set_cons_succ]
    refine wpAnyH_ready (rs := [1]) (by kernel_rfl) (by simp) ?_
    refine AllReadyH.cons rfl (fun K hK => ?_) AllReadyH.nil
    go_simp
    go_at_call_of 21 (Value.int .i64 an); refine (H1.out _).mono ?_; rintro e w1 ⟨rfl, hx1⟩; have S1 := SC.call hHeld.1 hx1
    refine hK.out _ _ (HSS.out _ S1) (fun hHeld => ?_)
    clear hK K
    try simp only [List.getElem_toArray, List.getElem_cons_zero, List.getElem_cons_succ, Act.put, List.setIfInBounds_toArray, List.set_cons_zero, List.set_cons_succ]
    refine wpAnyH_take (i := 2) (v := ?v2) rfl (by kernel_rfl) (by kernel_rfl) (by kernel_rfl) (fun _ _ _ h => h) (Or.inl ⟨by rfl, ?hy2⟩) hHeld ?rst2
    case hy2 => (intro wx hSw; (try dsimp only at hSw); go_simp; try (with_reducible rfl))
    try simp only [List.getElem_toArray, List.getElem_cons_zero, List.getElem_cons_succ, Act.put, List.setIfInBounds_toArray, List.set_cons_zero, List.set_cons_succ]
    refine wpAnyH_take (i := 3) (v := ?v3) rfl (by kernel_rfl) (by kernel_rfl) (by kernel_rfl) (fun _ _ _ h => h) (Or.inl ⟨by rfl, ?hy3⟩) hHeld ?rst3
    case hy3 => (intro wx hSw; (try dsimp only at hSw); go_simp; try (with_reducible rfl))
    try simp only [List.getElem_toArray, List.getElem_cons_zero, List.getElem_cons_succ, Act.put, List.setIfInBounds_toArray, List.set_cons_zero, List.set_cons_succ]
    refine wpAnyH_take (i := 4) (v := undef) rfl (by kernel_rfl) (by kernel_rfl) (by kernel_rfl) (fun _ _ _ h => h) (Or.inr ⟨by rfl, rfl⟩) hHeld ?_
    try simp only [List.getElem_toArray, List.getElem_cons_zero, List.getElem_cons_succ, Act.put, List.setIfInBounds_toArray, List.set_cons_zero, List.set_cons_succ]
    refine wpAnyH_take (i := 5) (v := undef) rfl (by kernel_rfl) (by kernel_rfl) (by kernel_rfl) (fun _ _ _ h => h) (Or.inr ⟨by rfl, rfl⟩) hHeld ?_
    try simp only [List.getElem_toArray, List.getElem_cons_zero, List.getElem_cons_succ, Act.put, List.setIfInBounds_toArray, List.set_cons_zero, List.set_cons_succ]
    refine wpAnyH_take (i := 6) (v := undef) rfl (by kernel_rfl) (by kernel_rfl) (by kernel_rfl) (fun _ _ _ h => h) (Or.inr ⟨by rfl, rfl⟩) hHeld ?_
    try simp only [List.getElem_toArray, List.getElem_cons_zero, List.getElem_cons_succ, Act.put, List.setIfInBounds_toArray, List.set_cons_zero, List.set_cons_succ]
    refine wpAnyH_take (i := 7) (v := ?v4) rfl (by kernel_rfl) (by kernel_rfl) (by kernel_rfl) (fun _ _ _ h => h) (Or.inl ⟨by rfl, ?hy4⟩) hHeld ?rst4
    case hy4 => (intro wx hSw; (try dsimp only at hSw); go_simp; try (with_reducible rfl))
    try simp only [List.getElem_toArray, List.getElem_cons_zero, List.getElem_cons_succ, Act.put, List.setIfInBounds_toArray, List.set_cons_zero, List.set_cons_succ]
    refine wpAnyH_take (i := 8) (v := ?v5) rfl (by kernel_rfl) (by kernel_rfl) (by kernel_rfl) (fun _ _ _ h => h) (Or.inl ⟨by rfl, ?hy5⟩) hHeld ?rst5
    case hy5 => (intro wx hSw; (try dsimp only at hSw); go_simp; try (with_reducible rfl))
    try simp only [List.getElem_toArray, List.getElem_cons_zero, List.getElem_cons_succ, Act.put, List.setIfInBounds_toArray, List.set_cons_zero, List.set_cons_succ]
    refine wpAnyH_take (i := 9) (v := undef) rfl (by kernel_rfl) (by kernel_rfl) (by kernel_rfl) (fun _ _ _ h => h) (Or.inr ⟨by rfl, rfl⟩) hHeld ?_
    try simp only [List.getElem_toArray, List.getElem_cons_zero, List.getElem_cons_succ, Act.put, List.setIfInBounds_toArray, List.set_cons_zero, List.set_cons_succ]
    refine wpAnyH_take (i := 10) (v := undef) rfl (by kernel_rfl) (by kernel_rfl) (by kernel_rfl) (fun _ _ _ h => h) (Or.inr ⟨by rfl, rfl⟩) hHeld ?_
    try simp only [List.getElem_toArray, List.getElem_cons_zero, List.getElem_cons_succ, Act.put, List.setIfInBounds_toArray, List.set_cons_zero, List.set_cons_succ]
    refine wpAnyH_take (i := 11) (v := undef) rfl (by kernel_rfl) (by kernel_rfl) (by kernel_rfl) (fun _ _ _ h => h) (Or.inr ⟨by rfl, rfl⟩) hHeld ?_
    try simp only [List.getElem_toArray, List.getElem_cons_zero, List.getElem_cons_succ, Act.put, List.setIfInBounds_toArray, List.set_cons_zero, List.set_cons_succ]
    refine wpAnyH_take (i := 12) (v := undef) rfl (by kernel_rfl) (by kernel_rfl) (by kernel_rfl) (fun _ _ _ h => h) (Or.inr ⟨by rfl, rfl⟩) hHeld ?_
    try simp only [List.getElem_toArray, List.getElem_cons_zero, List.getElem_cons_succ, Act.put, List.setIfInBounds_toArray, List.set_cons_zero, List.set_cons_succ]
    refine wpAnyH_take (i := 13) (v := undef) rfl (by kernel_rfl) (by kernel_rfl) (by kernel_rfl) (fun _ _ _ h => h) (Or.inr ⟨by rfl, rfl⟩) hHeld ?_
    try simp only [List.getElem_toArray, List.getElem_cons_zero, List.getElem_cons_succ, Act.put, List.setIfInBounds_toArray, List.set_cons_zero, List.set_cons_succ]
    refine wpAnyH_take (i := 14) (v := undef) rfl (by kernel_rfl) (by kernel_rfl) (by kernel_rfl) (fun _ _ _ h => h) (Or.inr ⟨by rfl, rfl⟩) hHeld ?_
    try simp only [List.getElem_toArray, List.getElem_cons_zero, List.getElem_cons_succ, Act.put, List.setIfInBounds_toArray, List.set_cons_zero, List.set_cons_succ]
    refine wpAnyH_take (i := 15) (v := ?v6) rfl (by kernel_rfl) (by kernel_rfl) (by kernel_rfl) (fun _ _ _ h => h) (Or.inl ⟨by rfl, ?hy6⟩) hHeld ?rst6
    case hy6 => (intro wx hSw; (try dsimp only at hSw); go_simp; try (with_reducible rfl))
    try simp only [List.getElem_toArray, List.getElem_cons_zero, List.getElem_cons_succ, Act.put, List.setIfInBounds_toArray, List.set_cons_zero, List.set_cons_succ]
    refine wpAnyH_done (by kernel_rfl) ?_ _
    obtain ⟨c1, c2, c3⟩ := S1.2.2.2.facts
    go_wp2
    refine bodyPost_ret (v := .tuple #[.agg #[.int .i64 0, .int .i64 0], .int .i64 2]) (by simp [results, Try.results54, go_sem, c1]) rfl ?_
    exact ⟨_, .inl ⟨HNO.out, rfl⟩, rfl, below2 S1.1 (by omega) _ _⟩
  · cases hv2 : vldB bn bd
    · have HNO := Lib.hid (show ¬ SOk an ad bn bd from fun h => by rw [vldB_yes h.2.1] at hv2; cases hv2)
      rw [hv] at h1
      rw [hv2] at h2
      unfold frv at *
      have H1 := Lib.hid h1
      have H2 := Lib.hid h2
      clear h1 h2 hv hv2 ha1 ha2 hb1 hb2
      go_enter Try.func54, Try.ntmps54
      go_upto_region 1 with (fail)
      refine wp_region_held_drew (S := (fun wx => SC w an ad bn bd wx ∧ (wx.cell? ⟨w.heap.size, 0, none⟩ = some (.int .i64 an) ∧ wx.cell? ⟨w.heap.size, 1, none⟩ = some (.int .i64 ad)) ∧ (wx.cell? ⟨w.heap.size + 1, 0, none⟩ = some (.int .i64 bn) ∧ wx.cell? ⟨w.heap.size + 1, 1, none⟩ = some (.int .i64 bd)))) (by kernel_rfl) (HSS.out _ (SC.start (ext_drew _))) (fun hHeld => ?_)
      refine wpAnyH_take (i := 0) (v := ?v7) rfl (by kernel_rfl) (by kernel_rfl) (by kernel_rfl) (fun _ _ _ h => h) (Or.inl ⟨by rfl, ?hy7⟩) hHeld ?rst7
      case hy7 => (intro wx hSw; (try dsimp only at hSw); go_simp; try (with_reducible rfl))
      try simp only [List.getElem_toArray, List.getElem_cons_zero, Act.put, List.setIfInBounds_toArray, List.set_cons_zero, List.set_cons_succ]
      refine wpAnyH_ready (rs := [1]) (by kernel_rfl) (by simp) ?_
      refine AllReadyH.cons rfl (fun K hK => ?_) AllReadyH.nil
      go_simp
      go_at_call_of 21 (Value.int .i64 an); refine (H1.out _).mono ?_; rintro e w1 ⟨rfl, hx1⟩; have S1 := SC.call hHeld.1 hx1
      refine hK.out _ _ (HSS.out _ S1) (fun hHeld => ?_)
      clear hK K
      try simp only [List.getElem_toArray, List.getElem_cons_zero, List.getElem_cons_succ, Act.put, List.setIfInBounds_toArray, List.set_cons_zero, List.set_cons_succ]
      refine wpAnyH_take (i := 2) (v := ?v8) rfl (by kernel_rfl) (by kernel_rfl) (by kernel_rfl) (fun _ _ _ h => h) (Or.inl ⟨by rfl, ?hy8⟩) hHeld ?rst8
      case hy8 => (intro wx hSw; (try dsimp only at hSw); go_simp; try (with_reducible rfl))
      try simp only [List.getElem_toArray, List.getElem_cons_zero, List.getElem_cons_succ, Act.put, List.setIfInBounds_toArray, List.set_cons_zero, List.set_cons_succ]
      refine wpAnyH_take (i := 3) (v := ?v9) rfl (by kernel_rfl) (by kernel_rfl) (by kernel_rfl) (fun _ _ _ h => h) (Or.inl ⟨by rfl, ?hy9⟩) hHeld ?rst9
      case hy9 => (intro wx hSw; (try dsimp only at hSw); go_simp; try (with_reducible rfl))
      try simp only [List.getElem_toArray, List.getElem_cons_zero, List.getElem_cons_succ, Act.put, List.setIfInBounds_toArray, List.set_cons_zero, List.set_cons_succ]
      refine wpAnyH_take (i := 4) (v := ?v10) rfl (by kernel_rfl) (by kernel_rfl) (by kernel_rfl) (fun _ _ _ h => h) (Or.inl ⟨by rfl, ?hy10⟩) hHeld ?rst10
      case hy10 => (intro wx hSw; (try dsimp only at hSw); go_simp; try (with_reducible rfl))
      try simp only [List.getElem_toArray, List.getElem_cons_zero, List.getElem_cons_succ, Act.put, List.setIfInBounds_toArray, List.set_cons_zero, List.set_cons_succ]
      refine wpAnyH_ready (rs := [5]) (by kernel_rfl) (by simp) ?_
      refine AllReadyH.cons rfl (fun K hK => ?_) AllReadyH.nil
      go_simp
      go_at_call_of 21 (Value.int .i64 bn); refine (H2.out _).mono ?_; rintro e w2 ⟨rfl, hx2⟩; have S2 := SC.call hHeld.1 hx2
      refine hK.out _ _ (HSS.out _ S2) (fun hHeld => ?_)
      clear hK K
      try simp only [List.getElem_toArray, List.getElem_cons_zero, List.getElem_cons_succ, Act.put, List.setIfInBounds_toArray, List.set_cons_zero, List.set_cons_succ]
      refine wpAnyH_take (i := 6) (v := ?v11) rfl (by kernel_rfl) (by kernel_rfl) (by kernel_rfl) (fun _ _ _ h => h) (Or.inl ⟨by rfl, ?hy11⟩) hHeld ?rst11
      case hy11 => (intro wx hSw; (try dsimp only at hSw); go_simp; try (with_reducible rfl))
      try simp only [List.getElem_toArray, List.getElem_cons_zero, List.getElem_cons_succ, Act.put, List.setIfInBounds_toArray, List.set_cons_zero, List.set_cons_succ]
      refine wpAnyH_take (i := 7) (v := ?v12) rfl (by kernel_rfl) (by kernel_rfl) (by kernel_rfl) (fun _ _ _ h => h) (Or.inl ⟨by rfl, ?hy12⟩) hHeld ?rst12
      case hy12 => (intro wx hSw; (try dsimp only at hSw); go_simp; try (with_reducible rfl))
      try simp only [List.getElem_toArray, List.getElem_cons_zero, List.getElem_cons_succ, Act.put, List.setIfInBounds_toArray, List.set_cons_zero, List.set_cons_succ]
      refine wpAnyH_take (i := 8) (v := ?v13) rfl (by kernel_rfl) (by kernel_rfl) (by kernel_rfl) (fun _ _ _ h => h) (Or.inl ⟨by rfl, ?hy13⟩) hHeld ?rst13
      case hy13 => (intro wx hSw; (try dsimp only at hSw); go_simp; try (with_reducible rfl))
      try simp only [List.getElem_toArray, List.getElem_cons_zero, List.getElem_cons_succ, Act.put, List.setIfInBounds_toArray, List.set_cons_zero, List.set_cons_succ]
      refine wpAnyH_take (i := 9) (v := undef) rfl (by kernel_rfl) (by kernel_rfl) (by kernel_rfl) (fun _ _ _ h => h) (Or.inr ⟨by rfl, rfl⟩) hHeld ?_
      try simp only [List.getElem_toArray, List.getElem_cons_zero, List.getElem_cons_succ, Act.put, List.setIfInBounds_toArray, List.set_cons_zero, List.set_cons_succ]
      refine wpAnyH_take (i := 10) (v := undef) rfl (by kernel_rfl) (by kernel_rfl) (by kernel_rfl) (fun _ _ _ h => h) (Or.inr ⟨by rfl, rfl⟩) hHeld ?_
      try simp only [List.getElem_toArray, List.getElem_cons_zero, List.getElem_cons_succ, Act.put, List.setIfInBounds_toArray, List.set_cons_zero, List.set_cons_succ]
      refine wpAnyH_take (i := 11) (v := undef) rfl (by kernel_rfl) (by kernel_rfl) (by kernel_rfl) (fun _ _ _ h => h) (Or.inr ⟨by rfl, rfl⟩) hHeld ?_
      try simp only [List.getElem_toArray, List.getElem_cons_zero, List.getElem_cons_succ, Act.put, List.setIfInBounds_toArray, List.set_cons_zero, List.set_cons_succ]
      refine wpAnyH_take (i := 12) (v := undef) rfl (by kernel_rfl) (by kernel_rfl) (by kernel_rfl) (fun _ _ _ h => h) (Or.inr ⟨by rfl, rfl⟩) hHeld ?_
      try simp only [List.getElem_toArray, List.getElem_cons_zero, List.getElem_cons_succ, Act.put, List.setIfInBounds_toArray, List.set_cons_zero, List.set_cons_succ]
      refine wpAnyH_take (i := 13) (v := undef) rfl (by kernel_rfl) (by kernel_rfl) (by kernel_rfl) (fun _ _ _ h => h) (Or.inr ⟨by rfl, rfl⟩) hHeld ?_
      try simp only [List.getElem_toArray, List.getElem_cons_zero, List.getElem_cons_succ, Act.put, List.setIfInBounds_toArray, List.set_cons_zero, List.set_cons_succ]
      refine wpAnyH_take (i := 14) (v := undef) rfl (by kernel_rfl) (by kernel_rfl) (by kernel_rfl) (fun _ _ _ h => h) (Or.inr ⟨by rfl, rfl⟩) hHeld ?_
      try simp only [List.getElem_toArray, List.getElem_cons_zero, List.getElem_cons_succ, Act.put, List.setIfInBounds_toArray, List.set_cons_zero, List.set_cons_succ]
      refine wpAnyH_take (i := 15) (v := ?v14) rfl (by kernel_rfl) (by kernel_rfl) (by kernel_rfl) (fun _ _ _ h => h) (Or.inl ⟨by rfl, ?hy14⟩) hHeld ?rst14
      case hy14 => (intro wx hSw; (try dsimp only at hSw); go_simp; try (with_reducible rfl))
      try simp only [List.getElem_toArray, List.getElem_cons_zero, List.getElem_cons_succ, Act.put, List.setIfInBounds_toArray, List.set_cons_zero, List.set_cons_succ]
      refine wpAnyH_done (by kernel_rfl) ?_ _
      obtain ⟨c1, c2, c3⟩ := S2.2.2.2.facts
      go_wp2
      refine bodyPost_ret (v := .tuple #[.agg #[.int .i64 0, .int .i64 0], .int .i64 2]) (by simp [results, Try.results54, go_sem, c1]) rfl ?_
      exact ⟨_, .inl ⟨HNO.out, rfl⟩, rfl, below2 S2.1 (by omega) _ _⟩
    · rw [hv] at h1
      rw [hv2] at h2
      have va : Vld an ad := of_decide_eq_true hv
      have vb : Vld bn bd := of_decide_eq_true hv2
      have o1 : ∀ W, Calls Try.prog 34 #[.agg #[.int .i64 an, .int .i64 ad]] W (RetQ W (rat an ad)) := fun W => by
        obtain ⟨a1, a2, a3, a4, _⟩ := va
        exact of_any an ad W (by omega) (by omega) (by omega) (by omega) (by omega)
      have o2 : ∀ W, Calls Try.prog 34 #[.agg #[.int .i64 bn, .int .i64 bd]] W (RetQ W (rat bn bd)) := fun W => by
        obtain ⟨a1, a2, a3, a4, _⟩ := vb
        exact of_any bn bd W (by omega) (by omega) (by omega) (by omega) (by omega)
      have za : QOk (rat an ad) := by
        obtain ⟨a1, a2, a3, a4, _⟩ := va
        exact qok_rat (by omega) a1 (by omega)
      have zb : QOk (rat bn bd) := by
        obtain ⟨a1, a2, a3, a4, _⟩ := vb
        exact qok_rat (by omega) a1 (by omega)
      have hor := fun vx vy W (x : QAt W vx (rat an ad)) (y : QAt W vy (rat bn bd)) => order_q vx vy _ _ W x y za zb
      rw [order_sok va vb] at hor
      have hcs : ((an * bd - bn * ad).sign = 1 ∧ ¬ SOk an ad bn bd) ∨ (((an * bd - bn * ad).sign = -1 ∨ (an * bd - bn * ad).sign = 0) ∧ SOk an ad bn bd) := by
        rcases sgn_cases (an * bd - bn * ad) with h | h | h
        · exact .inr ⟨.inl h.2, va, vb, by omega⟩
        · exact .inr ⟨.inr h.2, va, vb, by omega⟩
        · exact .inl ⟨h.2, fun h' => by have := h'.2.2; omega⟩
      generalize (an * bd - bn * ad).sign = sg at *
      unfold frv at *
      have H1 := Lib.hid h1
      have H2 := Lib.hid h2
      have O1 := Lib.hid o1
      have O2 := Lib.hid o2
      have HOR := Lib.hid hor
      clear h1 h2 hv hv2 ha1 ha2 hb1 hb2 va vb o1 o2 za zb hor
      rcases hcs with ⟨rfl, hno⟩ | ⟨hsg, hok⟩
      · have HNO := Lib.hid hno
        clear hno
        go_enter Try.func54, Try.ntmps54
        go_upto_region 1 with (fail)
        go_region_held3 (fun wx => SC w an ad bn bd wx ∧ (wx.cell? ⟨w.heap.size, 0, none⟩ = some (.int .i64 an) ∧ wx.cell? ⟨w.heap.size, 1, none⟩ = some (.int .i64 ad)) ∧ (wx.cell? ⟨w.heap.size + 1, 0, none⟩ = some (.int .i64 bn) ∧ wx.cell? ⟨w.heap.size + 1, 1, none⟩ = some (.int .i64 bd)))
          (first | exact HSS.out _ (SC.call (And.left (by assumption)) (by assumption)) | exact HSS.out _ (SC.start (ext_drew _)))
          (first
            | (go_at_call_of 21 (Value.int .i64 an); refine (H1.out _).mono ?_; rintro e w1 ⟨rfl, hx1⟩)
            | (go_at_call_of 21 (Value.int .i64 bn); refine (H2.out _).mono ?_; rintro e w2 ⟨rfl, hx2⟩)
            | (go_at_call_of 34 (Value.int .i64 an); refine (O1.out _).mono ?_; rintro e w3 ⟨v3, rfl, hq3, hx3⟩; obtain ⟨p3, rfl, hp3⟩ := q_formV hq3; clear hq3)
            | (go_at_call_of 34 (Value.int .i64 bn); refine (O2.out _).mono ?_; rintro e w4 ⟨v4, rfl, hq4, hx4⟩; obtain ⟨p4, rfl, hp4⟩ := q_formV hq4; clear hq4; have P4 := hp3.ext hx4)
            | (go_at_call 39; refine (HOR.out _ _ _ P4 hp4).mono ?_; rintro e w5 ⟨rfl, hx5⟩; have S5 := SC.call (And.left (by assumption)) hx5))
        all_goals
          obtain ⟨c1, c2, c3⟩ := S5.2.2.2.facts
          go_wp2
          refine bodyPost_ret (v := .tuple #[.agg #[.int .i64 0, .int .i64 0], .int .i64 2]) (by simp [results, Try.results54, go_sem, c1]) rfl ?_
          exact ⟨_, .inl ⟨HNO.out, rfl⟩, rfl, below2 S5.1 (by omega) _ _⟩
      · have hsp := sok_parts hok
        have hsi := fun va vb W (x : QAt W va (rat an ad)) (y : QAt W vb (rat bn bd)) => simple_any _ (rat an ad) (rat bn bd) va vb W (Nat.le_refl _) hsp.1 hsp.2.1 (by obtain ⟨-, -, e1, e2, e3, e4⟩ := hsp; rw [e1, e2, e3, e4]; exact hok.2.2) x y
        have hsi2 : ∀ va vb W, QAt W va (rat an ad) → QAt W vb (rat bn bd) → Calls Try.prog 95 #[va, vb] W (fun e w' => ∃ (q : Rat) (v : Value), e = .returned v ∧ QAt w' v q ∧ SpA an ad bn bd (ans q) ∧ Below W.heap.size W w') := fun va vb W x y =>
          (hsi va vb W x y).mono fun e w' ⟨q, v, he, hq, hw, _, hb⟩ => ⟨q, v, he, hq, ans_weak hok (by obtain ⟨-, -, e1, e2, e3, e4⟩ := hsp; rw [e1, e2, e3, e4] at hw; exact hw), hb⟩
        have HSI := Lib.hid hsi2
        have HAN := Lib.hid (fun v q W (h : QAt W v q) => answer_any v q W h)
        clear hsp hsi hsi2 hok
        rcases hsg with rfl | rfl
        all_goals
          go_enter Try.func54, Try.ntmps54
          go_upto_region 1 with (fail)
          go_region_held3 (fun wx => SC w an ad bn bd wx ∧ (wx.cell? ⟨w.heap.size, 0, none⟩ = some (.int .i64 an) ∧ wx.cell? ⟨w.heap.size, 1, none⟩ = some (.int .i64 ad)) ∧ (wx.cell? ⟨w.heap.size + 1, 0, none⟩ = some (.int .i64 bn) ∧ wx.cell? ⟨w.heap.size + 1, 1, none⟩ = some (.int .i64 bd)))
          (first | exact HSS.out _ (SC.call (And.left (by assumption)) (by assumption)) | exact HSS.out _ (SC.start (ext_drew _)))
          (first
            | (go_at_call_of 21 (Value.int .i64 an); refine (H1.out _).mono ?_; rintro e w1 ⟨rfl, hx1⟩)
            | (go_at_call_of 21 (Value.int .i64 bn); refine (H2.out _).mono ?_; rintro e w2 ⟨rfl, hx2⟩)
            | (go_at_call_of 34 (Value.int .i64 an); refine (O1.out _).mono ?_; rintro e w3 ⟨v3, rfl, hq3, hx3⟩; obtain ⟨p3, rfl, hp3⟩ := q_formV hq3; clear hq3)
            | (go_at_call_of 34 (Value.int .i64 bn); refine (O2.out _).mono ?_; rintro e w4 ⟨v4, rfl, hq4, hx4⟩; obtain ⟨p4, rfl, hp4⟩ := q_formV hq4; clear hq4; have P4 := hp3.ext hx4)
            | (go_at_call 39; refine (HOR.out _ _ _ P4 hp4).mono ?_; rintro e w5 ⟨rfl, hx5⟩; have S5 := SC.call (And.left (by assumption)) hx5))
          all_goals
            have HR := Lib.hid (show SD w an ad bn bd w5 from ⟨S5.1, S5.2.1, S5.2.2.1, _, _, S5.2.2.2⟩)
            have HSC := Lib.hid (fun wx (h : SD w an ad bn bd wx) => h.cells)
            clear hx1 hx2 hx3 hx4 hx5 hp3 hp4 P4 S5
            go_wp2
            go_region_held3 (fun wx => SD w an ad bn bd wx ∧ (wx.cell? ⟨w.heap.size, 0, none⟩ = some (.int .i64 an) ∧ wx.cell? ⟨w.heap.size, 1, none⟩ = some (.int .i64 ad)) ∧ (wx.cell? ⟨w.heap.size + 1, 0, none⟩ = some (.int .i64 bn) ∧ wx.cell? ⟨w.heap.size + 1, 1, none⟩ = some (.int .i64 bd)))
              (first | exact HSC.out _ (SD.call (And.left (by assumption)) (by assumption)) | exact HSC.out _ HR.out.drew | exact HSC.out _ (SD.store (And.left (by assumption)) _ _))
              (first
                | (go_at_call_of 34 (Value.int .i64 an); refine (O1.out _).mono ?_; rintro e w6 ⟨v6, rfl, hq6, hx6⟩; obtain ⟨p6, rfl, hp6⟩ := q_formV hq6; clear hq6)
                | (go_at_call_of 34 (Value.int .i64 bn); refine (O2.out _).mono ?_; rintro e w7 ⟨v7, rfl, hq7, hx7⟩; obtain ⟨p7, rfl, hp7⟩ := q_formV hq7; clear hq7; have P7 := hp6.ext hx7)
                | (go_at_call 95; refine (HSI.out _ _ _ P7 hp7).mono ?_; rintro e w8 ⟨q8, v8, rfl, hq8, hw8, hx8⟩; obtain ⟨p8, rfl, hp8⟩ := q_formV hq8; have HW := Lib.hid hw8; clear hq8 hw8)
                | (go_at_call 79; refine (HAN.out _ _ _ hp8).mono ?_; unfold RetA frv; rintro e w9 ⟨rfl, hx9⟩; have S9 := SD.call (And.left (by assumption)) hx9; obtain ⟨r0, r1, hce⟩ := S9.2.2.2; obtain ⟨c1, c2, c3⟩ := hce.facts))
            all_goals
              go_wp2
              refine bodyPost_ret (v := .tuple #[.agg #[.int .i64 (ans q8).1, .int .i64 (ans q8).2.1], .int .i64 (ans q8).2.2]) (by simp [results, Try.results54, go_sem, c1]) rfl ?_
              exact ⟨_, HW.out, rfl, below2 S9.1 (by omega) _ _⟩
end Go.Proofs.Ythkoblnfeebafaa
