/- Texts joined: Tn, Eq. Conditions: see each. -/
import Derived.Test.YtmgofdgbenfjmaaDoorTu1
import Derived.StillTailTactics
import Derived.Test.YtmgofdgbenfjmaaDoorWd1
namespace Go.Proofs.YtmgofdgbenfjmaaDoor
open Go.RowKit

/-- a quarter turn -/
def turnP (l : List ByteArray) : List ByteArray := skF l.length (wid l) fun x y => cellB l y (l.length - 1 - x)
def turnK (l : List ByteArray) : Nat → List ByteArray
  | 0 => l
  | k + 1 => turnP (turnK l k)
/-- how many quarter turns -/
def qn (k : Int) : Nat := ((wrap64 (k.tmod 4 + 4)).tmod 4).toNat
theorem qn_eq (k : Int) : (wrap64 (k.tmod 4 + 4)).tmod 4 = (qn k : Int) ∧ qn k ≤ 3 := by
  unfold qn
  have h1 : -4 < k.tmod 4 := by
    have := Int.lt_tmod_of_pos k (show (0 : Int) < 4 by decide)
    omega
  have h2 : k.tmod 4 < 4 := Int.tmod_lt_of_pos k (by decide)
  have h3 : wrap64 (k.tmod 4 + 4) = k.tmod 4 + 4 := by unfold wrap64; omega
  rw [h3]
  have h4 : 0 ≤ (k.tmod 4 + 4).tmod 4 := Int.tmod_nonneg _ (by omega)
  have h5 : (k.tmod 4 + 4).tmod 4 < 4 := Int.tmod_lt_of_pos _ (by decide)
  omega
theorem turnP_ok {l : List ByteArray} (hok : SkOk l) : SkOk (turnP l) :=
  skF_ok ⟨hok.1, hok.2.1⟩ ⟨hok.2.2.1, hok.2.2.2.1⟩ (fun _x _y _ _ => cellB_rg hok _ _)
theorem turnK_ok {l : List ByteArray} (hok : SkOk l) : ∀ k, SkOk (turnK l k)
  | 0 => hok
  | k + 1 => turnP_ok (turnK_ok hok k)
set_option maxRecDepth 100000 in
set_option maxHeartbeats 2000000 in
theorem turn_cell (x y : Nat) (p : Nat) (A : Option Addr) (cap : Nat) (l : List ByteArray) (W : World) (hok : SkOk l) (h : TSl W A l) (hp : W.cell? ⟨p, 0, none⟩ = some (.slice A l.length cap)) (hx : x < l.length) (hy : y < wid l) :
    Calls Tryd.prog 79 #[.int .i64 (x : Int), .int .i64 (y : Int), .pointer (some ⟨p, 0, none⟩)] W fun e w' => e = .returned (.int .u8 (cellB l y (l.length - 1 - x) : Int)) ∧ w' = W := by
  have hw48 := hok.2.2.2.1
  have hl48 := hok.2.1
  rcases h with h0 | ⟨b, off, rfl, hblt, hcl⟩
  · rw [h0] at hx; simp at hx
  obtain ⟨m, hm⟩ : ∃ m, m = l.length - 1 - x := ⟨_, rfl⟩
  have hml : m < l.length := by omega
  have c1 := hcl m hml
  have hs := (hok.row hml).1
  have HCB := Lib.hid (cellB_at (x := y) hml)
  obtain ⟨r, hr⟩ : ∃ r, r = l[m] := ⟨_, rfl⟩
  rw [← hr] at c1 hs HCB
  have e1 : IntKind.i64.wrap ((l.length : Int) - 1) = (l.length : Int) - 1 := IntWalk.i64_in _ ⟨by omega, by omega⟩
  have e2 : (l.length : Int) - 1 - (x : Int) = (m : Int) := by omega
  have hmr : y < r.size := by omega
  have hmr2 : (y : Int) < (r.size : Int) := by omega
  have hml2 : (m : Int) < (l.length : Int) := by omega
  rw [← hm]
  have HB := Lib.hid (show byteAt r y = r[y].toNat from dif_pos hmr)
  obtain ⟨z, hz⟩ : ∃ z, z = cellB l y m := ⟨_, rfl⟩
  have HZ := Lib.hid hz
  rw [← hz]
  clear hcl hr hm hz hs
  go_enter Tryd.func79, Tryd.ntmps79
  go_wp2
  go_ret
  refine ⟨?_, rfl⟩
  rw [HZ.out, HCB.out, HB.out]
  rfl
set_option maxRecDepth 100000 in
set_option maxHeartbeats 4000000 in
theorem turn_any (A : Option Addr) (cap : Nat) (l : List ByteArray) (k : Int) (w : World) (hc : l.length ≤ cap) (hcm : cap ≤ 9223372036854775807) (h : TSl w A l) (hz : TSz l) :
    Calls Tryd.prog 37 #[.slice A l.length cap, .int .i64 k] w (RetS2 w (SkOk l) 2 (turnK l (qn k))) := by
  have hmf : ∀ (fn : Fn) (first cap : Array Value) (w : World), (Instr.makeFunc fn first cap).run Tryd.prog w = .ok (.func fn first cap) w := fun _ _ _ _ => rfl
  have HV := Lib.hid (valid_any A cap l _ hc hcm h hz)
  by_cases hok : SkOk l
  · rw [decide_eq_true hok] at HV
    have HOK := Lib.hid hok
    have HCL := Lib.hid (fun W (hW : Below w.heap.size w W) => clone_any A cap l W hok.1 (by have := hok.2.1; omega) (h.ext hW))
    clear hok h hz
    go_enter Tryd.func37, Tryd.ntmps37
    go_upto_block 0 with (first
      | (go_at_call 42; refine (HV.out).mono ?_; rintro e w1 ⟨rfl, hx1⟩)
      | (go_at_call 77; refine (HCL.out _ hx1).mono ?_; rintro e w2 ⟨hx2, A2, cap2, rfl, k1, k2, k3⟩))
    obtain ⟨hq1, hq2⟩ := qn_eq k
    rw [hq1]
    obtain ⟨N, hN⟩ : ∃ N, N = qn k := ⟨_, rfl⟩
    have HNN := Lib.hid hN
    rw [← hN] at hq2 ⊢
    have HX2 := Lib.hid (ext_trans hx1 hx2)
    have HT2 := Lib.hid k3
    clear hq1 hN hx1 hx2 k3 HV HCL
    go_wp2_with (fail)
    go_loopg [17, 6] N (fun gg i v wr => ∃ (j : Nat) (A3 : Option Addr) (cap3 : Nat), i = .int .i64 j ∧ v = .slice A3 (turnK l j).length cap3 ∧ j ≤ N ∧ gg = N - j ∧ Below w.heap.size w wr ∧ TSl wr A3 (turnK l j) ∧ (turnK l j).length ≤ cap3 ∧ cap3 ≤ 9223372036854775807)
    case atStart => exact ⟨0, A2, cap2, rfl, rfl, by omega, by omega, HX2.out, HT2.out, k1, k2⟩
    case round =>
      obtain ⟨j, A3, cap3, rfl, rfl, hj, hg, hb, ht, m1, m2⟩ := hrel
      have HG := Lib.hid hg
      have HB := Lib.hid hb
      have HT3 := Lib.hid ht
      have HTO := Lib.hid (turnK_ok HOK.out j)
      have HTN := Lib.hid (show turnK l (j + 1) = turnP (turnK l j) from rfl)
      have HNX := Lib.hid (show j = N → turnK l j = turnK l (qn k) from fun e => by rw [e, HNN.out])
      clear hg hb ht HX2 HT2
      by_cases hlt : j < N
      · obtain ⟨L, hL⟩ : ∃ L, L = turnK l j := ⟨_, rfl⟩
        rw [← hL] at HT3 HTO HTN m1 ⊢
        clear hL HNX
        rcases HT3.out with h0 | ⟨b, off, rfl, hblt, hcl⟩
        · have h1 := HTO.out.1; rw [h0] at h1; simp at h1
        · obtain ⟨r0, c0, hr0⟩ := first_row HTO.out hcl
          have hl1 := HTO.out.1
          have hl0 : 0 < L.length := by omega
          have hl48 := HTO.out.2.1
          have hw48 := HTO.out.2.2.2.1
          have HX3 := Lib.hid (ext_alloc wr (.cells #[.slice (some ⟨b, off, none⟩) L.length cap3] 22))
          have HBX := Lib.hid (Bk.new 22 wr #[.slice (some ⟨b, off, none⟩) L.length cap3])
          have c0' := (HX3.out.cell (p := ⟨b, off, none⟩) hblt).trans c0
          have hb4 := Nat.lt_of_lt_of_le hblt HX3.out.size
          go_upto_region 7 with (fail)
          obtain ⟨p, hp⟩ : ∃ p, p = wr.heap.size := ⟨_, rfl⟩
          obtain ⟨X, hX⟩ : ∃ X, X = wr.alloc (.cells #[.slice (some ⟨b, off, none⟩) L.length cap3] 22) := ⟨_, rfl⟩
          rw [← hp, ← hX]
          rw [← hp, ← hX] at HBX
          rw [← hX] at HX3 c0' hb4
          have HBB := Lib.hid (bext HB.out HX3.out HB.out.size)
          have HT4 := Lib.hid (HT3.out.ext HX3.out)
          clear hX hp c0 hcl hblt
          obtain ⟨f1, f2, f3⟩ := HBX.out.facts
          have HTU := Lib.hid (fun Z (hZ : Below X.heap.size X Z) => turned_any L.length (wid L) 79 #[.pointer (some ⟨p, 0, none⟩)] (fun x y => cellB L y (L.length - 1 - x)) Z (by omega) (by omega) (fun _ _ => rfl)
            (fun V hV x y hx hy => (turn_cell x y p (some ⟨b, off, none⟩) cap3 L V HTO.out (HT4.out.ext (ext_trans hZ hV)) ((HBX.out.ext (ext_trans hZ hV)).cell 0) hx hy).mono fun e w' hr => ⟨hr.1, by rw [hr.2]; exact Below.refl _ _⟩)
            (fun x y _ _ => by have := cellB_rg HTO.out y (L.length - 1 - x); omega))
          unfold RetSk at HTU
          obtain ⟨M, hM⟩ : ∃ M, M = turnK l (j + 1) := ⟨_, rfl⟩
          have HM := Lib.hid hM
          rw [show (skF L.length (wid L) fun x y => cellB L y (L.length - 1 - x)) = M from by rw [hM, HTN.out]; rfl] at HTU
          clear hM
          refine wp_region_held_drew (S := (fun wx => Below X.heap.size X wx ∧ wx.cell? ⟨p, 0, none⟩ = some (.slice (some ⟨b, off, none⟩) L.length cap3) ∧ wx.cell? ⟨b, off, none⟩ = some (.string r0))) (by kernel_rfl) (⟨ext_drew _, f1 0, c0'⟩) (fun hHeld => ?_)
          refine wpAnyH_take (i := 0) (v := ?v1) rfl (by kernel_rfl) (by kernel_rfl) (by kernel_rfl) (fun _ _ _ h => h) (Or.inl ⟨by rfl, ?hy1⟩) hHeld ?rst1
          case hy1 => (intro wx hSw; (try dsimp only at hSw); go_simp; try (with_reducible rfl))
          try simp only [List.getElem_toArray, List.getElem_cons_zero, Act.put, List.setIfInBounds_toArray, List.set_cons_zero, List.set_cons_succ]
          refine wpAnyH_take (i := 1) (v := ?v2) rfl (by kernel_rfl) (by kernel_rfl) (by kernel_rfl) (fun _ _ _ h => h) (Or.inl ⟨by rfl, ?hy2⟩) hHeld ?rst2
          case hy2 => (intro wx hSw; (try dsimp only at hSw); go_simp; try (with_reducible rfl))
          try simp only [List.getElem_toArray, List.getElem_cons_zero, List.getElem_cons_succ, Act.put, List.setIfInBounds_toArray, List.set_cons_zero, List.set_cons_succ]
          refine wpAnyH_take (i := 2) (v := ?v3) rfl (by kernel_rfl) (by kernel_rfl) (by kernel_rfl) (fun _ _ _ h => h) (Or.inl ⟨by rfl, ?hy3⟩) hHeld ?rst3
          case hy3 => (intro wx hSw; (try dsimp only at hSw); go_simp; try (with_reducible rfl))
          try simp only [List.getElem_toArray, List.getElem_cons_zero, List.getElem_cons_succ, Act.put, List.setIfInBounds_toArray, List.set_cons_zero, List.set_cons_succ]
          refine wpAnyH_take (i := 3) (v := ?v4) rfl (by kernel_rfl) (by kernel_rfl) (by kernel_rfl) (fun _ _ _ h => h) (Or.inl ⟨by rfl, ?hy4⟩) hHeld ?rst4
          case hy4 => (intro wx hSw; (try dsimp only at hSw); go_simp; try (with_reducible rfl))
          try simp only [List.getElem_toArray, List.getElem_cons_zero, List.getElem_cons_succ, Act.put, List.setIfInBounds_toArray, List.set_cons_zero, List.set_cons_succ]
          refine wpAnyH_take (i := 4) (v := ?v5) rfl (by kernel_rfl) (by kernel_rfl) (by kernel_rfl) (fun _ _ _ h => h) (Or.inl ⟨by rfl, ?hy5⟩) hHeld ?rst5
          case hy5 => (intro wx hSw; (try dsimp only at hSw); go_simp; try (with_reducible rfl))
          try simp only [List.getElem_toArray, List.getElem_cons_zero, List.getElem_cons_succ, Act.put, List.setIfInBounds_toArray, List.set_cons_zero, List.set_cons_succ]
          refine wpAnyH_take (i := 5) (v := ?v6) rfl (by kernel_rfl) (by kernel_rfl) (by kernel_rfl) (fun _ _ _ h => h) (Or.inl ⟨by rfl, ?hy6⟩) hHeld ?rst6
          case hy6 => (intro wx hSw; (try dsimp only at hSw); go_simp; try (with_reducible rfl))
          try simp only [List.getElem_toArray, List.getElem_cons_zero, List.getElem_cons_succ, Act.put, List.setIfInBounds_toArray, List.set_cons_zero, List.set_cons_succ]
          refine wpAnyH_take (i := 6) (v := ?v7) rfl (by kernel_rfl) (by kernel_rfl) (by kernel_rfl) (fun _ _ _ h => h) (Or.inl ⟨by rfl, ?hy7⟩) hHeld ?rst7
          case hy7 => (intro wx hSw; (try dsimp only at hSw); go_simp; try (with_reducible rfl))
          try simp only [List.getElem_toArray, List.getElem_cons_zero, List.getElem_cons_succ, Act.put, List.setIfInBounds_toArray, List.set_cons_zero, List.set_cons_succ]
          refine wpAnyH_ready (rs := [7]) (by kernel_rfl) (by simp) ?_
          refine AllReadyH.cons rfl (fun K hK => ?_) AllReadyH.nil
          go_simp
          (go_at_call 78; refine (HTU.out _ (ext_drew _)).mono ?_; rintro e w5 ⟨hx5, A5, cap5, rfl, k6, k7, k8⟩)
          refine hK.out _ _ (⟨ext_trans (ext_drew _) hx5, ((HBX.out.ext (ext_trans (ext_drew _) hx5)).cell 0), ((ext_trans (ext_drew _) hx5).cell (p := ⟨b, off, none⟩) hb4).trans c0'⟩) (fun hHeld => ?_)
          clear hK K
          try simp only [List.getElem_toArray, List.getElem_cons_zero, List.getElem_cons_succ, Act.put, List.setIfInBounds_toArray, List.set_cons_zero, List.set_cons_succ]
          refine wpAnyH_take (i := 8) (v := ?v8) rfl (by kernel_rfl) (by kernel_rfl) (by kernel_rfl) (fun _ _ _ h => h) (Or.inl ⟨by rfl, ?hy8⟩) hHeld ?rst8
          case hy8 => (intro wx hSw; (try dsimp only at hSw); go_simp; try (with_reducible rfl))
          try simp only [List.getElem_toArray, List.getElem_cons_zero, List.getElem_cons_succ, Act.put, List.setIfInBounds_toArray, List.set_cons_zero, List.set_cons_succ]
          refine wpAnyH_done (by kernel_rfl) ?_ _
          go_wp2
          go_roundg (N - (j + 1))
          case measure => have := HG.out; omega
          case rel => exact ⟨j + 1, A5, cap5, by go_num, by rw [← HM.out], by omega, rfl, HBB.out.trans ((ext_trans (ext_drew _) hx5).mono HBB.out.size), by rw [← HM.out]; exact k8, by rw [← HM.out]; exact k6, k7⟩
      · have HE := Lib.hid (HNX.out (by omega))
        go_wp2
        refine bodyPost_ret (v := .tuple #[.slice A3 (turnK l j).length cap3, .int .i64 0]) (by simp [results, Tryd.results37, go_sem]) rfl ?_
        exact ⟨HB.out, .inr ⟨HOK.out, A3, cap3, by rw [← HE.out], by rw [← HE.out]; exact m1, m2, by rw [← HE.out]; exact HT3.out⟩⟩
  · rw [decide_eq_false hok] at HV
    have HOK := Lib.hid hok
    clear hok h hz
    go_enter Tryd.func37, Tryd.ntmps37
    go_wp2_with (go_at_call 42; refine (HV.out).mono ?_; rintro e w1 ⟨rfl, hx1⟩)
    refine bodyPost_ret (v := .tuple #[.slice none 0 0, .int .i64 2]) (by simp [results, Tryd.results37, go_sem]) rfl ?_
    exact ⟨hx1, .inl ⟨HOK.out, rfl⟩⟩
theorem turnK_sz {l : List ByteArray} (hok : SkOk l) (hz : TSz l) : ∀ k, TSz (turnK l k)
  | 0 => hz
  | k + 1 => skF_sz (turnK_ok hok k).2.1
set_option maxHeartbeats 1000000 in
theorem equal_same (A B : Option Addr) (c c' : Nat) (l : List Int) (w : World) (hl : l.length ≤ 9223372036854775807) (hA : ISl w A l) (hB : ISl w B l) :
    Calls Tryd.prog 41 #[.slice A l.length c, .slice B l.length c'] w fun e w' => e = .returned (.bool true) ∧ Below w.heap.size w w' := by
  have HA := Lib.hid hA
  have HB := Lib.hid hB
  clear hA hB
  go_enter Tryd.func41, Tryd.ntmps41
  go_wp2
  go_loopg [13] l.length (fun g i wr => ∃ k : Nat, i = .int .i64 k ∧ k ≤ l.length ∧ g = l.length - k ∧ Below w.heap.size w wr)
  case atStart => exact ⟨0, rfl, by omega, by omega, Below.refl _ _⟩
  case round =>
    obtain ⟨k, rfl, hk, hg, hbl⟩ := hrel
    have HG := Lib.hid hg
    clear hg
    by_cases hlt : k < l.length
    · have hf := HA.out.ext hbl
      have hf' := HB.out.ext hbl
      rcases hf with hf | ⟨b, off, rfl, hblt, hc⟩
      · rw [hf] at hlt; simp at hlt
      · rcases hf' with hf' | ⟨b', off', rfl, hblt', hc'⟩
        · rw [hf'] at hlt; simp at hlt
        · have c1 := hc k hlt
          have c2 := hc' k hlt
          generalize l[k] = y at *
          have i0 : (0 : Int) ≤ (k : Int) := by omega
          have i1 : (k : Int) < (l.length : Int) := by omega
          clear hc hc'
          go_wp2
          go_quiet (fail)
          go_wp2
          go_roundg (l.length - (k + 1))
          case measure => have := HG.out; omega
          case rel => exact ⟨k + 1, by go_num, by omega, rfl, ext_trans hbl (ext_drewN _ _)⟩
    · go_wp2
      go_ret
      exact ⟨rfl, hbl⟩
end Go.Proofs.YtmgofdgbenfjmaaDoor
