/- frac.Share's comparison walked. Conditions: the captured variables hold the number of pieces, the weights, their sum. -/
import Derived.Test.YthkoblnfeebafaaMd
namespace Go.Proofs.Ythkoblnfeebafaa
open Go.RowKit

set_option maxHeartbeats 1000000 in
theorem isnan_any (x : Int) (w : World) : Calls Try.prog 111 #[.int .i64 x] w fun e w' => e = .returned (.bool false) ∧ w' = w := by
  go_enter Try.func111, Try.ntmps111
  go_wp2
  go_ret
  exact ⟨rfl, rfl⟩

set_option maxHeartbeats 1000000 in
theorem cmpare_any (x y : Int) (w : World) : Calls Try.prog 103 #[.int .i64 x, .int .i64 y] w fun e w' => e = .returned (.int .i64 (cv x y)) ∧ w' = w := by
  have HI := Lib.hid (fun x W => isnan_any x W)
  rcases Int.lt_trichotomy x y with h | h | h
  · have e : cv x y = -1 := by unfold cv; rw [if_pos h]
    rw [e]
    go_enter Try.func103, Try.ntmps103
    go_wp2_with (go_at_call 111; refine (HI.out _ _).mono ?_; rintro e w1 ⟨rfl, rfl⟩)
    go_ret
    exact ⟨rfl, rfl⟩
  · subst h
    have e : cv x x = 0 := by unfold cv; simp
    rw [e]
    go_enter Try.func103, Try.ntmps103
    go_wp2_with (go_at_call 111; refine (HI.out _ _).mono ?_; rintro e w1 ⟨rfl, rfl⟩)
    go_ret
    exact ⟨rfl, rfl⟩
  · have e : cv x y = 1 := by unfold cv; rw [if_neg (by omega), if_pos h]
    have h' : ¬ x < y := by omega
    rw [e]
    go_enter Try.func103, Try.ntmps103
    go_wp2_with (go_at_call 111; refine (HI.out _ _).mono ?_; rintro e w1 ⟨rfl, rfl⟩)
    go_ret
    exact ⟨rfl, rfl⟩

/-- the remainder of piece number z -/
def keyOf (nn s : Int) (v : List Int) (z : Int) : Int := nn * (v.getD z.toNat 0) % s

set_option maxRecDepth 100000 in
set_option maxHeartbeats 2000000 in
theorem clos_any (gn gw gs : Nat) (nn s : Int) (A : Option Addr) (cap : Nat) (v : List Int) (x y : Int) (W : World) (hn : 0 ≤ nn ∧ nn ≤ 1000000000) (hs : 1 ≤ s ∧ s ≤ 1000000000000) (hv : ∀ z ∈ v, 0 ≤ z ∧ z ≤ 1000000000)
    (h1 : W.cell? ⟨gn, 0, none⟩ = some (.int .i64 nn)) (h2 : W.cell? ⟨gw, 0, none⟩ = some (.slice A v.length cap)) (h3 : W.cell? ⟨gs, 0, none⟩ = some (.int .i64 s)) (h4 : ISl W A v) (hx : 0 ≤ x ∧ x < v.length) (hy : 0 ≤ y ∧ y < v.length) (_hl : v.length ≤ 64) :
    Calls Try.prog 102 #[.int .i64 x, .int .i64 y, .pointer (some ⟨gn, 0, none⟩), .pointer (some ⟨gw, 0, none⟩), .pointer (some ⟨gs, 0, none⟩)] W fun e w' => e = .returned (.int .i64 (cv (keyOf nn s v y) (keyOf nn s v x))) ∧ Below W.heap.size W w' := by
  obtain ⟨i, rfl⟩ := Int.eq_ofNat_of_zero_le hx.1
  obtain ⟨k, rfl⟩ := Int.eq_ofNat_of_zero_le hy.1
  have hi : i < v.length := by omega
  have hk : k < v.length := by omega
  rcases h4 with h4 | ⟨b, off, rfl, hblt, hc⟩
  · rw [h4] at hi; simp at hi
  · have c1 := hc i hi
    have c2 := hc k hk
    have b1 := hv _ (List.getElem_mem hi)
    have b2 := hv _ (List.getElem_mem hk)
    have e1 : keyOf nn s v (i : Int) = nn * v[i] % s := by
      unfold keyOf
      rw [Int.toNat_natCast, List.getD_eq_getElem?_getD, List.getElem?_eq_getElem hi]
      rfl
    have e2 : keyOf nn s v (k : Int) = nn * v[k] % s := by
      unfold keyOf
      rw [Int.toNat_natCast, List.getD_eq_getElem?_getD, List.getElem?_eq_getElem hk]
      rfl
    rw [e1, e2]
    generalize v[i] = p at *
    generalize v[k] = q at *
    have m1 : 0 ≤ nn * p := Int.mul_nonneg hn.1 b1.1
    have m2 : 0 ≤ nn * q := Int.mul_nonneg hn.1 b2.1
    have m3 : nn * p ≤ 1000000000 * 1000000000 := Int.mul_le_mul hn.2 b1.2 b1.1 (by decide)
    have m4 : nn * q ≤ 1000000000 * 1000000000 := Int.mul_le_mul hn.2 b2.2 b2.1 (by decide)
    have i1 : (0 : Int) ≤ (i : Int) := by omega
    have i2 : (i : Int) < (v.length : Int) := by omega
    have i3 : (0 : Int) ≤ (k : Int) := by omega
    have i4 : (k : Int) < (v.length : Int) := by omega
    obtain ⟨s1, s2⟩ := hs
    have r1 := Int.emod_nonneg (nn * p) (show s ≠ 0 by omega)
    have r2 := Int.emod_nonneg (nn * q) (show s ≠ 0 by omega)
    have r3 := Int.emod_lt_of_pos (nn * p) (show 0 < s by omega)
    have r4 := Int.emod_lt_of_pos (nn * q) (show 0 < s by omega)
    have t1 : (nn * p).tmod s = nn * p % s := Int.tmod_eq_emod_of_nonneg m1
    have t2 : (nn * q).tmod s = nn * q % s := Int.tmod_eq_emod_of_nonneg m2
    have hs0 : ¬ s = 0 := by omega
    have y1 : IntKind.i64.wrap (nn * p) = nn * p := IntWalk.i64_in _ ⟨by omega, by omega⟩
    have y2 : IntKind.i64.wrap (nn * q) = nn * q := IntWalk.i64_in _ ⟨by omega, by omega⟩
    have m5 : nn * p ≤ 1000000000000000000 := by omega
    have m6 : nn * q ≤ 1000000000000000000 := by omega
    have HCP := Lib.hid (fun W => cmpare_any (nn * q % s) (nn * p % s) W)
    have hSS : ∀ wx, Below W.heap.size W wx → (Below W.heap.size W wx ∧ wx.cell? ⟨gn, 0, none⟩ = some (.int .i64 nn) ∧ wx.cell? ⟨gw, 0, none⟩ = some (.slice (some ⟨b, off, none⟩) v.length cap) ∧ wx.cell? ⟨gs, 0, none⟩ = some (.int .i64 s) ∧ wx.cell? ⟨b, off + i, none⟩ = some (.int .i64 p) ∧ wx.cell? ⟨b, off + k, none⟩ = some (.int .i64 q)) := fun wx hb =>
      ⟨hb, (hb.cell (p := ⟨gn, 0, none⟩) (World.block_lt_of_cell? W ⟨gn, 0, none⟩ h1)).trans h1, (hb.cell (p := ⟨gw, 0, none⟩) (World.block_lt_of_cell? W ⟨gw, 0, none⟩ h2)).trans h2, (hb.cell (p := ⟨gs, 0, none⟩) (World.block_lt_of_cell? W ⟨gs, 0, none⟩ h3)).trans h3,
        (hb.cell (p := ⟨b, off + i, none⟩) hblt).trans c1, (hb.cell (p := ⟨b, off + k, none⟩) hblt).trans c2⟩
    have HSS := Lib.hid hSS
    clear hc hv e1 e2 hx hy b1 b2 hSS h1 h2 h3 c1 c2
    go_enter Try.func102, Try.ntmps102
    go_wp2
    refine wp_region_held_drew (S := (fun wx => Below W.heap.size W wx ∧ wx.cell? ⟨gn, 0, none⟩ = some (.int .i64 nn) ∧ wx.cell? ⟨gw, 0, none⟩ = some (.slice (some ⟨b, off, none⟩) v.length cap) ∧ wx.cell? ⟨gs, 0, none⟩ = some (.int .i64 s) ∧ wx.cell? ⟨b, off + i, none⟩ = some (.int .i64 p) ∧ wx.cell? ⟨b, off + k, none⟩ = some (.int .i64 q))) (by kernel_rfl) (HSS.out _ (ext_drew _)) (fun hHeld => ?_)
    refine wpAnyH_take (i := 0) (v := ?v1) rfl (by kernel_rfl) (by kernel_rfl) (by kernel_rfl) (fun _ _ _ h => h) (Or.inl ⟨by rfl, ?hy1⟩) hHeld ?rst1
    case hy1 => (intro wx hSw; (try dsimp only at hSw); go_simp; try (with_reducible rfl))
    try simp only [List.getElem_toArray, List.getElem_cons_zero, Act.put, List.setIfInBounds_toArray, List.set_cons_zero, List.set_cons_succ]
    refine wpAnyH_take (i := 1) (v := ?v2) rfl (by kernel_rfl) (by kernel_rfl) (by kernel_rfl) (fun _ _ _ h => h) (Or.inl ⟨by rfl, ?hy2⟩) hHeld ?rst2
    case hy2 => (intro wx hSw; (try dsimp only at hSw); go_simp; try (with_reducible rfl))
    try simp only [List.getElem_toArray, List.getElem_cons_zero, List.getElem_cons_succ, Act.put, List.setIfInBounds_toArray, List.set_cons_zero, List.set_cons_succ]
    refine wpAnyH_take (i := 2) (v := ?v3) rfl (by kernel_rfl) (by kernel_rfl) (by kernel_rfl) (fun _ _ _ h => h) (Or.inl ⟨by rfl, ?hy3⟩) hHeld ?rst3
    case hy3 => (intro wx hSw; (try dsimp only at hSw); go_simp; try (with_reducible rfl))
    try simp only [List.getElem_toArray, List.getElem_cons_zero, List.getElem_cons_succ, Act.put, List.setIfInBounds_toArray, List.set_cons_zero, List.set_cons_succ]
    refine wpAnyH_take (i := 3) (v := ?v4) rfl (by kernel_rfl) (by kernel_rfl) (by kernel_rfl) (fun _ _ _ h => h) (Or.inl ⟨by rfl, ?hy4⟩) hHeld ?rst4
    case hy4 => (intro wx hSw; (try dsimp only at hSw); go_simp; try (with_reducible rfl))
    try simp only [List.getElem_toArray, List.getElem_cons_zero, List.getElem_cons_succ, Act.put, List.setIfInBounds_toArray, List.set_cons_zero, List.set_cons_succ]
    refine wpAnyH_take (i := 4) (v := ?v5) rfl (by kernel_rfl) (by kernel_rfl) (by kernel_rfl) (fun _ _ _ h => h) (Or.inl ⟨by rfl, ?hy5⟩) hHeld ?rst5
    case hy5 => (intro wx hSw; (try dsimp only at hSw); go_simp; try (with_reducible rfl))
    try simp only [List.getElem_toArray, List.getElem_cons_zero, List.getElem_cons_succ, Act.put, List.setIfInBounds_toArray, List.set_cons_zero, List.set_cons_succ]
    refine wpAnyH_take (i := 5) (v := ?v6) rfl (by kernel_rfl) (by kernel_rfl) (by kernel_rfl) (fun _ _ _ h => h) (Or.inl ⟨by rfl, ?hy6⟩) hHeld ?rst6
    case hy6 => (intro wx hSw; (try dsimp only at hSw); go_simp; try (with_reducible rfl))
    try simp only [List.getElem_toArray, List.getElem_cons_zero, List.getElem_cons_succ, Act.put, List.setIfInBounds_toArray, List.set_cons_zero, List.set_cons_succ]
    refine wpAnyH_take (i := 6) (v := ?v7) rfl (by kernel_rfl) (by kernel_rfl) (by kernel_rfl) (fun _ _ _ h => h) (Or.inl ⟨by rfl, ?hy7⟩) hHeld ?rst7
    case hy7 => (intro wx hSw; (try dsimp only at hSw); go_simp; try (with_reducible rfl))
    try simp only [List.getElem_toArray, List.getElem_cons_zero, List.getElem_cons_succ, Act.put, List.setIfInBounds_toArray, List.set_cons_zero, List.set_cons_succ]
    refine wpAnyH_take (i := 8) (v := ?v8) rfl (by kernel_rfl) (by kernel_rfl) (by kernel_rfl) (fun _ _ _ h => h) (Or.inl ⟨by rfl, ?hy8⟩) hHeld ?rst8
    case hy8 => (intro wx hSw; (try dsimp only at hSw); go_simp; try (with_reducible rfl))
    try simp only [List.getElem_toArray, List.getElem_cons_zero, List.getElem_cons_succ, Act.put, List.setIfInBounds_toArray, List.set_cons_zero, List.set_cons_succ]
    refine wpAnyH_take (i := 9) (v := ?v9) rfl (by kernel_rfl) (by kernel_rfl) (by kernel_rfl) (fun _ _ _ h => h) (Or.inl ⟨by rfl, ?hy9⟩) hHeld ?rst9
    case hy9 => (intro wx hSw; (try dsimp only at hSw); go_simp; try (with_reducible rfl))
    try simp only [List.getElem_toArray, List.getElem_cons_zero, List.getElem_cons_succ, Act.put, List.setIfInBounds_toArray, List.set_cons_zero, List.set_cons_succ]
    refine wpAnyH_take (i := 10) (v := ?v10) rfl (by kernel_rfl) (by kernel_rfl) (by kernel_rfl) (fun _ _ _ h => h) (Or.inl ⟨by rfl, ?hy10⟩) hHeld ?rst10
    case hy10 => (intro wx hSw; (try dsimp only at hSw); go_simp; try (with_reducible rfl))
    try simp only [List.getElem_toArray, List.getElem_cons_zero, List.getElem_cons_succ, Act.put, List.setIfInBounds_toArray, List.set_cons_zero, List.set_cons_succ]
    refine wpAnyH_take (i := 11) (v := ?v11) rfl (by kernel_rfl) (by kernel_rfl) (by kernel_rfl) (fun _ _ _ h => h) (Or.inl ⟨by rfl, ?hy11⟩) hHeld ?rst11
    case hy11 => (intro wx hSw; (try dsimp only at hSw); go_simp; try (with_reducible rfl))
    try simp only [List.getElem_toArray, List.getElem_cons_zero, List.getElem_cons_succ, Act.put, List.setIfInBounds_toArray, List.set_cons_zero, List.set_cons_succ]
    refine wpAnyH_take (i := 12) (v := ?v12) rfl (by kernel_rfl) (by kernel_rfl) (by kernel_rfl) (fun _ _ _ h => h) (Or.inl ⟨by rfl, ?hy12⟩) hHeld ?rst12
    case hy12 => (intro wx hSw; (try dsimp only at hSw); go_simp; try (with_reducible rfl))
    try simp only [List.getElem_toArray, List.getElem_cons_zero, List.getElem_cons_succ, Act.put, List.setIfInBounds_toArray, List.set_cons_zero, List.set_cons_succ]
    refine wpAnyH_take (i := 13) (v := ?v13) rfl (by kernel_rfl) (by kernel_rfl) (by kernel_rfl) (fun _ _ _ h => h) (Or.inl ⟨by rfl, ?hy13⟩) hHeld ?rst13
    case hy13 => (intro wx hSw; (try dsimp only at hSw); go_simp; try (with_reducible rfl))
    try simp only [List.getElem_toArray, List.getElem_cons_zero, List.getElem_cons_succ, Act.put, List.setIfInBounds_toArray, List.set_cons_zero, List.set_cons_succ]
    refine wpAnyH_take (i := 14) (v := ?v14) rfl (by kernel_rfl) (by kernel_rfl) (by kernel_rfl) (fun _ _ _ h => h) (Or.inl ⟨by rfl, ?hy14⟩) hHeld ?rst14
    case hy14 => (intro wx hSw; (try dsimp only at hSw); go_simp; try (with_reducible rfl))
    try simp only [List.getElem_toArray, List.getElem_cons_zero, List.getElem_cons_succ, Act.put, List.setIfInBounds_toArray, List.set_cons_zero, List.set_cons_succ]
    refine wpAnyH_ready (rs := [7, 15]) (by kernel_rfl) (by simp) ?_
    refine AllReadyH.cons rfl (fun K hK => ?_) (AllReadyH.cons rfl (fun K hK => ?_) AllReadyH.nil)
    · go_simp
      refine hK.out _ _ hHeld (fun hHeld => ?_)
      clear hK K
      try simp only [List.getElem_toArray, List.getElem_cons_zero, List.getElem_cons_succ, Act.put, List.setIfInBounds_toArray, List.set_cons_zero, List.set_cons_succ]
      refine wpAnyH_ready (rs := [15]) (by kernel_rfl) (by simp) ?_
      refine AllReadyH.cons rfl (fun K hK => ?_) AllReadyH.nil
      go_simp
      refine hK.out _ _ hHeld (fun hHeld => ?_)
      clear hK K
      try simp only [List.getElem_toArray, List.getElem_cons_zero, List.getElem_cons_succ, Act.put, List.setIfInBounds_toArray, List.set_cons_zero, List.set_cons_succ]
      refine wpAnyH_ready (rs := [16]) (by kernel_rfl) (by simp) ?_
      refine AllReadyH.cons rfl (fun K hK => ?_) AllReadyH.nil
      go_simp
      go_at_call 103; refine (HCP.out _).mono ?_; rintro e w1 ⟨rfl, rfl⟩
      refine hK.out _ _ hHeld (fun hHeld => ?_)
      clear hK K
      try simp only [List.getElem_toArray, List.getElem_cons_zero, List.getElem_cons_succ, Act.put, List.setIfInBounds_toArray, List.set_cons_zero, List.set_cons_succ]
      refine wpAnyH_take (i := 17) (v := ?vz7) rfl (by kernel_rfl) (by kernel_rfl) (by kernel_rfl) (fun _ _ _ h => h) (Or.inl ⟨by rfl, ?hyz7⟩) hHeld ?rstz7
      case hyz7 => (intro wx hSw; (try dsimp only at hSw); go_simp; try (with_reducible rfl))
      try simp only [List.getElem_toArray, List.getElem_cons_zero, List.getElem_cons_succ, Act.put, List.setIfInBounds_toArray, List.set_cons_zero, List.set_cons_succ]
      refine wpAnyH_done (by kernel_rfl) ?_ _
      go_wp2
      go_ret
      exact ⟨rfl, hHeld.1⟩
    · go_simp
      refine hK.out _ _ hHeld (fun hHeld => ?_)
      clear hK K
      try simp only [List.getElem_toArray, List.getElem_cons_zero, List.getElem_cons_succ, Act.put, List.setIfInBounds_toArray, List.set_cons_zero, List.set_cons_succ]
      refine wpAnyH_ready (rs := [7]) (by kernel_rfl) (by simp) ?_
      refine AllReadyH.cons rfl (fun K hK => ?_) AllReadyH.nil
      go_simp
      refine hK.out _ _ hHeld (fun hHeld => ?_)
      clear hK K
      try simp only [List.getElem_toArray, List.getElem_cons_zero, List.getElem_cons_succ, Act.put, List.setIfInBounds_toArray, List.set_cons_zero, List.set_cons_succ]
      refine wpAnyH_ready (rs := [16]) (by kernel_rfl) (by simp) ?_
      refine AllReadyH.cons rfl (fun K hK => ?_) AllReadyH.nil
      go_simp
      go_at_call 103; refine (HCP.out _).mono ?_; rintro e w1 ⟨rfl, rfl⟩
      refine hK.out _ _ hHeld (fun hHeld => ?_)
      clear hK K
      try simp only [List.getElem_toArray, List.getElem_cons_zero, List.getElem_cons_succ, Act.put, List.setIfInBounds_toArray, List.set_cons_zero, List.set_cons_succ]
      refine wpAnyH_take (i := 17) (v := ?vz15) rfl (by kernel_rfl) (by kernel_rfl) (by kernel_rfl) (fun _ _ _ h => h) (Or.inl ⟨by rfl, ?hyz15⟩) hHeld ?rstz15
      case hyz15 => (intro wx hSw; (try dsimp only at hSw); go_simp; try (with_reducible rfl))
      try simp only [List.getElem_toArray, List.getElem_cons_zero, List.getElem_cons_succ, Act.put, List.setIfInBounds_toArray, List.set_cons_zero, List.set_cons_succ]
      refine wpAnyH_done (by kernel_rfl) ?_ _
      go_wp2
      go_ret
      exact ⟨rfl, hHeld.1⟩
end Go.Proofs.Ythkoblnfeebafaa
