/- The reference's Sums walked. Conditions: a skin. -/
import Derived.Test.YtmgofdgbenfjmaaDoorFuP
namespace Go.Proofs.YtmgofdgbenfjmaaDoor
open Go.RowKit

/-- the sums, by number -/
def sumF (l : List ByteArray) (g : Int) (n1 k : Nat) : Int := tab l g (k % n1) (k / n1)
theorem sumF_at {l : List ByteArray} {g : Int} {n1 x y : Nat} (hx : x < n1) : sumF l g n1 (y * n1 + x) = tab l g x y := by
  unfold sumF
  rw [Nat.mul_comm y n1, Nat.mul_add_mod, Nat.mod_eq_of_lt hx, Nat.mul_add_div (by omega), Nat.div_eq_of_lt hx, Nat.add_zero]
theorem tab_step (l : List ByteArray) (g : Int) (x y : Nat) : tab l g (x + 1) (y + 1) = tab l g (x + 1) y + tab l g x (y + 1) - tab l g x y + (if usb l g ((x : Int), (y : Int)) then 1 else 0) := by
  show tab l g (x + 1) y + rcn l g y (x + 1) = tab l g (x + 1) y + (tab l g x y + rcn l g y x) - tab l g x y + _
  rw [show rcn l g y (x + 1) = rcn l g y x + if usb l g ((x : Int), (y : Int)) then 1 else 0 from rfl]
  omega
set_option maxRecDepth 100000 in
set_option maxHeartbeats 8000000 in
theorem rsums_any (A : Option Addr) (cap : Nat) (l : List ByteArray) (g : Int) (w : World) (hok : SkOk l) (h : TSl w A l) :
    Calls Tryd.prog 55 #[.slice A l.length cap, .int .i64 g] w fun e w' => ∃ v, e = .returned (.slice (some ⟨v, 0, none⟩) ((wid l + 1) * (l.length + 1)) ((wid l + 1) * (l.length + 1))) ∧ w.heap.size ≤ v ∧ Ow 3 v ((wid l + 1) * (l.length + 1)) (sumF l g (wid l + 1)) w' ∧ Below w.heap.size w w' := by
  have HGR := Lib.hid (fun x y W (hW : Below w.heap.size w W) => rgrade_any A cap l x y W hok (h.ext hW))
  rcases h with h0 | ⟨b, off, rfl, hblt, hcl⟩
  · have h1 := hok.1; rw [h0] at h1; simp at h1
  obtain ⟨r0, c0, hr0⟩ := first_row hok hcl
  have hl1 := hok.1
  have hl48 := hok.2.1
  have hw48 := hok.2.2.2.1
  have hw1 := hok.2.2.1
  have HUS := Lib.hid (show ∀ x y, (usb l g (x, y) = true ↔ g ≤ gr l x y) from fun x y => by unfold usb; simp)
  have HST := Lib.hid (fun x y => tab_step l g x y)
  have HBD := Lib.hid (fun x (hx : x ≤ 48) y => tab_bd l g hx y)
  have HT0 := Lib.hid (fun y => tab_zero l g y)
  obtain ⟨n, hn⟩ : ∃ n, n = wid l := ⟨_, rfl⟩
  have HN := Lib.hid hn
  rw [← hn] at hr0 hw48 hw1 ⊢
  obtain ⟨n1, hn1⟩ : ∃ n1, n1 = n + 1 := ⟨_, rfl⟩
  obtain ⟨h1, hh1⟩ : ∃ h1, h1 = l.length + 1 := ⟨_, rfl⟩
  rw [← hn1, ← hh1]
  obtain ⟨N, hN⟩ : ∃ N, N = n1 * h1 := ⟨_, rfl⟩
  rw [← hN]
  have HNN := Lib.hid hN
  have hn1i : (n : Int) + 1 = (n1 : Int) := by omega
  have hh1i : (l.length : Int) + 1 = (h1 : Int) := by omega
  have hNi : (n1 : Int) * (h1 : Int) = (N : Int) := by rw [hN]; push_cast; rfl
  have hn1b : n1 ≤ 49 ∧ n < n1 := by omega
  have hh1b : h1 ≤ 49 ∧ l.length < h1 := by omega
  have hNb : N ≤ 49 * 49 := by rw [hN]; exact Nat.mul_le_mul hn1b.1 hh1b.1
  have HN1 := Lib.hid hn1
  have HH1 := Lib.hid hh1
  have hmk : ∀ W, (Instr.makeSlice 64 (.int .i64 (N : Int)) (.int .i64 (N : Int))).run Tryd.prog W = .ok (.slice (some ⟨W.heap.size, 0, none⟩) N N) (W.alloc (.cells (cellsOf N fun _ => 0) 3)) := fun W => run_zeros N (by omega) W
  have HO0 := Lib.hid (Ow.new 3 w N (fun _ => 0))
  have HX0 := Lib.hid (ext_alloc w (.cells (cellsOf N fun _ => 0) 3))
  obtain ⟨F, hF⟩ : ∃ F, F = sumF l g n1 := ⟨_, rfl⟩
  have HF := Lib.hid hF
  have HFA := Lib.hid (show ∀ x y, x < n1 → F (y * n1 + x) = tab l g x y from fun x y hx => by rw [hF]; exact sumF_at hx)
  have HF0 := Lib.hid (show ∀ k, k < n1 + 1 → F k = 0 from fun k hk => by
    rw [hF]
    by_cases e : k < n1
    · have := sumF_at (l := l) (g := g) (y := 0) e
      rw [Nat.zero_mul, Nat.zero_add] at this
      rw [this]; rfl
    · have h2 := sumF_at (l := l) (g := g) (y := 1) (show 0 < n1 by omega)
      rw [show k = 1 * n1 + 0 by omega, h2]
      exact tab_zero l g 1)
  rw [← hF]
  clear hok hcl hN hn hn1 hh1 hF
  go_enter Tryd.func55, Tryd.ntmps55
  go_upto_region 3 with (fail)
  obtain ⟨u, hu⟩ : ∃ u, u = w.heap.size := ⟨_, rfl⟩
  have huw : w.heap.size ≤ u := by omega
  obtain ⟨X, hX⟩ : ∃ X, X = w.alloc (.cells (cellsOf N fun _ => 0) 3) := ⟨_, rfl⟩
  rw [← hu, ← hX]
  rw [← hu, ← hX] at HO0
  rw [← hX] at HX0
  clear hX hu c0 hmk
  go_wp2_with (fail)
  go_loopg [8] l.length (fun gg z wr => ∃ y : Nat, z = .int .i64 ((y : Int) + 1) ∧ y ≤ l.length ∧ gg = l.length - y ∧ Ow 3 u N (outK F ((y + 1) * n1 + 1)) wr ∧ Below w.heap.size w wr)
  case atStart => exact ⟨0, by go_num, by omega, by omega, HO0.out.congr (fun i _ => by unfold outK; split <;> first | rfl | (rw [HF0.out i (by omega)])), HX0.out⟩
  case round =>
    obtain ⟨y, rfl, hy, hg, ho, hb⟩ := hrel
    have HG := Lib.hid hg
    have HO := Lib.hid ho
    have HB := Lib.hid hb
    clear hg ho hb HO0 HX0
    by_cases hlt : y < l.length
    · have hyI : (y : Int) + 1 ≤ (l.length : Int) := by omega
      have HLT := Lib.hid hlt
      go_wp2_with (fail)
      go_loopg [9] n (fun gg z wr => ∃ x : Nat, z = .int .i64 ((x : Int) + 1) ∧ x ≤ n ∧ gg = n - x ∧ Ow 3 u N (outK F ((y + 1) * n1 + (x + 1))) wr ∧ Below w.heap.size w wr)
      case atStart => exact ⟨0, by go_num, by omega, by omega, HO.out, HB.out⟩
      case round =>
        obtain ⟨x, rfl, hx, hg2, ho, hb⟩ := hrel
        have HG2 := Lib.hid hg2
        have HO2 := Lib.hid ho
        have HB2 := Lib.hid hb
        clear hg2 ho hb HO HB
        by_cases hxn : x < n
        · have hxI : (x : Int) + 1 ≤ (n : Int) := by omega
          obtain ⟨yw, hyw⟩ : ∃ yw, yw = y * n1 := ⟨_, rfl⟩
          obtain ⟨yv, hyv⟩ : ∃ yv, yv = (y + 1) * n1 := ⟨_, rfl⟩
          have hywi : (y : Int) * (n1 : Int) = (yw : Int) := by rw [hyw]; push_cast; rfl
          have hyvi : ((y : Int) + 1) * (n1 : Int) = (yv : Int) := by rw [hyv]; push_cast; rfl
          have hyy : yv = yw + n1 := by rw [hyv, hyw, Nat.succ_mul]
          have hyN : yv + n1 ≤ N := by
            rw [hyv, HNN.out, ← Nat.succ_mul, Nat.mul_comm]
            exact Nat.mul_le_mul_left n1 (by have := HH1.out; omega)
          obtain ⟨i1, hi1⟩ : ∃ i1, i1 = yw + (x + 1) := ⟨_, rfl⟩
          obtain ⟨i2, hi2⟩ : ∃ i2, i2 = yv + (x + 1) := ⟨_, rfl⟩
          obtain ⟨i3, hi3⟩ : ∃ i3, i3 = yv + x := ⟨_, rfl⟩
          obtain ⟨i4, hi4⟩ : ∃ i4, i4 = yw + x := ⟨_, rfl⟩
          have hi1i : (yw : Int) + ((x : Int) + 1) = (i1 : Int) := by omega
          have hi2i : (yv : Int) + ((x : Int) + 1) = (i2 : Int) := by omega
          have hi3i : (i2 : Int) - 1 = (i3 : Int) := by omega
          have hi4i : (i1 : Int) - 1 = (i4 : Int) := by omega
          have b1 : i1 < N := by omega
          have b2 : i2 < N := by omega
          have b3 : i3 < N := by omega
          have b4 : i4 < N := by omega
          have f1 : F i1 = tab l g (x + 1) y := by rw [hi1, hyw]; exact HFA.out (x + 1) y (by omega)
          have f2 : F i2 = tab l g (x + 1) (y + 1) := by rw [hi2, hyv]; exact HFA.out (x + 1) (y + 1) (by omega)
          have f3 : F i3 = tab l g x (y + 1) := by rw [hi3, hyv]; exact HFA.out x (y + 1) (by omega)
          have f4 : F i4 = tab l g x y := by rw [hi4, hyw]; exact HFA.out x y (by omega)
          have HO3 := Lib.hid (show Ow 3 u N (outK F i2) wr from by rw [hi2, hyv]; exact HO2.out)
          have c1 : wr.cell? ⟨u, i1, none⟩ = some (.int .i64 (F i1)) := by rw [HO3.out.cell b1]; unfold outK; rw [if_pos (by omega)]
          have c3 : wr.cell? ⟨u, i3, none⟩ = some (.int .i64 (F i3)) := by rw [HO3.out.cell b3]; unfold outK; rw [if_pos (by omega)]
          have c4 : wr.cell? ⟨u, i4, none⟩ = some (.int .i64 (F i4)) := by rw [HO3.out.cell b4]; unfold outK; rw [if_pos (by omega)]
          have hub := HO3.out.lt
          have HSTEP := Lib.hid (show F i2 = F i1 + F i3 - F i4 + (if usb l g ((x : Int), (y : Int)) then 1 else 0) from by rw [f1, f2, f3, f4]; exact HST.out x y)
          have d1 := HBD.out (x + 1) (by omega) y
          have d3 := HBD.out x (by omega) (y + 1)
          have d4 := HBD.out x (by omega) y
          rw [← f1] at d1
          rw [← f3] at d3
          rw [← f4] at d4
          have HI2 := Lib.hid (show i2 + 1 = (y + 1) * n1 + (x + 1 + 1) from by rw [hi2, hyv]; omega)
          obtain ⟨v1, hv1⟩ : ∃ v1, v1 = F i1 := ⟨_, rfl⟩
          obtain ⟨v3, hv3⟩ : ∃ v3, v3 = F i3 := ⟨_, rfl⟩
          obtain ⟨v4, hv4⟩ : ∃ v4, v4 = F i4 := ⟨_, rfl⟩
          rw [← hv1] at c1 d1 HSTEP
          rw [← hv3] at c3 d3 HSTEP
          rw [← hv4] at c4 d4 HSTEP
          have b1I : (i1 : Int) < (N : Int) := by omega
          have b2I : (i2 : Int) < (N : Int) := by omega
          have b3I : (i3 : Int) < (N : Int) := by omega
          have b4I : (i4 : Int) < (N : Int) := by omega
          have d1' : 0 ≤ v1 ∧ v1 ≤ 3000 := by omega
          have d3' : 0 ≤ v3 ∧ v3 ≤ 3000 := by omega
          have d4' : 0 ≤ v4 ∧ v4 ≤ 3000 := by omega
          clear hyw hyv hyy hi1 hi2 hi3 hi4 f1 f2 f3 f4 hv1 hv3 hv4 d1 d3 d4 HO2
          go_upto_region 9 with (fail)
          go_quiet (fail)
          have HOQ := Lib.hid (HO3.out.ext (ext_drewN wr nq))
          have HBQ := Lib.hid (bdrewN HB2.out nq)
          obtain ⟨Z, hZ⟩ : ∃ Z, Z = wr.drewN nq := ⟨_, rfl⟩
          rw [← hZ] at HOQ HBQ ⊢
          clear hZ HO3 HB2 c1 c3 c4
          have q1 := HOQ.out.cell b2
          have q2 := HOQ.out.frozen i2
          have q3 := HOQ.out.lt
          have HSET := Lib.hid (show Ow 3 u N (outK F (i2 + 1)) (Z.setCell ⟨u, i2, none⟩ (.int .i64 (F i2))) from by
            have h := HOQ.out.set i2 (F i2)
            rw [outK_set] at h; exact h)
          have HGC := Lib.hid (HGR.out (x : Int) (y : Int) Z HBQ.out)
          have HU1 := Lib.hid (HUS.out (x : Int) (y : Int))
          obtain ⟨z1, hz1⟩ : ∃ z1, z1 = gr l (x : Int) (y : Int) := ⟨_, rfl⟩
          rw [← hz1] at HGC HU1
          clear hz1
          by_cases hgz : g ≤ z1
          · have HV := Lib.hid (show v1 + v3 - v4 + 1 = F i2 from by rw [HSTEP.out, if_pos (HU1.out.2 hgz)])
            clear HSTEP
            go_wp2_with (go_at_call 34; refine (HGC.out).mono ?_; rintro r9 w9 ⟨rfl, rfl⟩)
            all_goals go_roundg (n - (x + 1))
            all_goals first | (have := HG2.out; omega) | exact ⟨x + 1, by go_num, by omega, rfl, by rw [HV.out, ← HI2.out]; exact HSET.out, HBQ.out.setCell huw _⟩
          · have HV := Lib.hid (show v1 + v3 - v4 = F i2 from by rw [HSTEP.out, if_neg (fun h => hgz (HU1.out.1 h)), Int.add_zero])
            clear HSTEP
            go_wp2_with (go_at_call 34; refine (HGC.out).mono ?_; rintro r9 w9 ⟨rfl, rfl⟩)
            all_goals go_roundg (n - (x + 1))
            all_goals first | (have := HG2.out; omega) | exact ⟨x + 1, by go_num, by omega, rfl, by rw [HV.out, ← HI2.out]; exact HSET.out, HBQ.out.setCell huw _⟩
        · have hxI : ¬ (x : Int) + 1 ≤ (n : Int) := by omega
          have HOE := Lib.hid (show Ow 3 u N (outK F ((y + 1 + 1) * n1 + 1)) wr from HO2.out.congr (fun i hi => by
            have e : (y + 1) * n1 + (x + 1) = (y + 1 + 1) * n1 := by rw [Nat.succ_mul (y + 1), HN1.out]; omega
            unfold outK
            rw [e]
            by_cases h1 : i < (y + 1 + 1) * n1
            · rw [if_pos h1, if_pos (by omega)]
            · rw [if_neg h1]
              by_cases h2 : i < (y + 1 + 1) * n1 + 1
              · rw [if_pos h2]
                have := HFA.out 0 (y + 1 + 1) (by omega)
                rw [show i = (y + 1 + 1) * n1 + 0 by omega, this, HT0.out]
              · rw [if_neg h2]))
          go_wp2
          go_roundg (l.length - (y + 1))
          case measure => have := HG.out; have := HLT.out; omega
          case rel => exact ⟨y + 1, by go_num, by have := HLT.out; omega, rfl, HOE.out, HB2.out⟩
    · have hyI : ¬ (y : Int) + 1 ≤ (l.length : Int) := by omega
      have HOE := Lib.hid (show Ow 3 u N F wr from HO.out.congr (fun i hi => by
        unfold outK
        rw [if_pos ?_]
        rw [HNN.out] at hi
        have : y + 1 = h1 := by have := HH1.out; omega
        rw [this, Nat.mul_comm]; omega))
      go_wp2
      refine bodyPost_ret (v := .slice (some ⟨u, 0, none⟩) N N) (by simp [results, Tryd.results55, go_sem]) rfl ?_
      exact ⟨u, rfl, huw, HOE.out, HB.out⟩
end Go.Proofs.YtmgofdgbenfjmaaDoor
