/- SkinWhole walked. Conditions: the arguments read as lists. -/
import Derived.Test.YtdkoomcgnaokgaaDoorWhQ
import Derived.Test.YtdkoomcgnaokgaaDoorLOpened
namespace Go.Proofs.YtdkoomcgnaokgaaDoor
open Go.RowKit

def sK (P : List Prt) (k : Nat) : Nat := ((P.take k).map fun p => p.n).sum
theorem sK_succ {P : List Prt} {k : Nat} (h : k < P.length) : sK P (k + 1) = sK P k + P[k].n := by
  unfold sK
  rw [List.take_succ_eq_append_getElem h, List.map_append, List.sum_append]; simp
theorem sK_le (P : List Prt) : ∀ k, k ≤ P.length → sK P k ≤ (P.map fun p => p.n).sum := by
  have h : ∀ j, j ≤ P.length → sK P (P.length - j) ≤ (P.map fun p => p.n).sum := by
    intro j
    induction j with
    | zero => intro _; unfold sK; rw [Nat.sub_zero, List.take_length]; exact Nat.le_refl _
    | succ j ih =>
      intro hj
      have h1 := ih (by omega)
      have h2 := sK_succ (P := P) (k := P.length - (j + 1)) (by omega)
      rw [show P.length - (j + 1) + 1 = P.length - j by omega] at h2
      omega
  intro k hk
  have := h (P.length - k) (by omega)
  rw [show P.length - (P.length - k) = k by omega] at this
  exact this
theorem sK_all (P : List Prt) : sK P P.length = (P.map fun p => p.n).sum := by unfold sK; rw [List.take_length]
theorem ftE_ok {l t : List ByteArray} {x y a b : Int} (hok : SkOk t) (hw : wid t = wid l) (hl : t.length = l.length) (h1 : RcOk x y a b) (h2 : RcIn x y a b (wid l) l.length) : ftE t x y a b = 0 := by
  unfold ftE
  rw [if_pos ⟨hok, h1⟩, if_pos (by rw [hw, hl]; exact h2)]
set_option maxRecDepth 100000 in
set_option maxHeartbeats 4000000 in
theorem law_whole (A : Option Addr) (cap : Nat) (l : List ByteArray) (g : Int) (w : World) (hc : l.length ≤ cap) (hcm : cap ≤ 9223372036854775807) (h : TSl w A l) (hz : TSz l) :
    Calls Tryd.prog 10 #[.slice A l.length cap, .int .i64 g] w fun e w' => e = .returned (.bool true) ∧ Below w.heap.size w w' := by
  have HGD := Lib.hid (fun W (hW : Below w.heap.size w W) => good_any A cap l g W hc hcm (h.ext hW) hz)
  have HP := Lib.hid (parts_any A cap l g w hc hcm h hz)
  unfold RetPs at HP
  by_cases hps : PsOk l g
  · have hok := hps.1
    have hg1 := hps.2.1
    obtain ⟨hA, hS, hN⟩ := whole hok hg1
    have HP1 := Lib.hid (HP.out.mono (R' := fun e w' => Below w.heap.size w w' ∧ ∃ A cap, e = .returned (.tuple #[.slice A (paP l g).length cap, .int .i64 0]) ∧ (paP l g).length ≤ cap ∧ cap ≤ 9223372036854775807 ∧ PSl w' A (paP l g)) (fun e w' hr => ⟨hr.1, hr.2.elim (fun h => absurd hps h.1) (fun h => h.2)⟩))
    obtain ⟨P, hP⟩ : ∃ P, P = paP l g := ⟨_, rfl⟩
    rw [← hP] at HP1 hA hS hN
    rw [decide_eq_true hps] at HGD
    have HNT := Lib.hid (fun W (hW : Below w.heap.size w W) => (newtable_any A cap l g W hc hcm (h.ext hW) hz).mono (R' := fun e w' => Below W.heap.size W w' ∧ ∃ q, e = .returned (.tuple #[.pointer (some ⟨q, 0, none⟩), .int .i64 0]) ∧ TbS (wid l) l.length l g W.heap.size q l.length w') (fun e w' hr => by
      refine ⟨hr.1, ?_⟩
      rcases hr.2 with h | h
      · exact absurd hps h.1
      · exact h.2))
    have hl1 := hok.1
    have hl48 := hok.2.1
    have hw1 := hok.2.2.1
    have hw48 := hok.2.2.2.1
    have HCT := Lib.hid (fun base q x y a b W (k : TbS (wid l) l.length l g base q l.length W) (h1 : RcOk x y a b) (h2 : RcIn x y a b (wid l) l.length) => (show Calls Tryd.prog 15 #[.pointer (some ⟨q, 0, none⟩), .agg #[.int .i64 x, .int .i64 y, .int .i64 a, .int .i64 b]] W fun e w' => e = .returned (.tuple #[.int .i64 (cnt l g x.toNat y.toNat a.toNat b.toNat), .int .i64 0]) ∧ Below W.heap.size W w' from by
      have h3 := Count_any (wid l) l.length l g base q x y a b W k (by omega) (by omega)
      unfold ctE ctV at h3
      rw [if_pos h1, if_pos h1, if_pos h2, if_pos h2] at h3
      exact h3))
    have HCL := Lib.hid (fun W (hW : Below w.heap.size w W) => (clone_any A cap l W hl1 (by omega) (h.ext hW)).mono (R' := fun e w' => Below W.heap.size W w' ∧ ∃ b off cap, e = .returned (.slice (some ⟨b, off, none⟩) l.length cap) ∧ l.length ≤ cap ∧ cap ≤ 9223372036854775807 ∧ TSl w' (some ⟨b, off, none⟩) l) (fun e w' hr => by
      obtain ⟨k0, A2, cap2, k1, k2, k3, k4⟩ := hr
      obtain ⟨b, off, rfl⟩ := k4.addr hl1
      exact ⟨k0, b, off, cap2, k1, k2, k3, k4⟩))
    have HPU := Lib.hid (fun k (hk : k < P.length) b off cap W (h1 : l.length ≤ cap) (h2 : cap ≤ 9223372036854775807) (h3 : TSl W (some ⟨b, off, none⟩) (pnK l (P.take k))) => (show Calls Tryd.prog 41 #[.slice (some ⟨b, off, none⟩) l.length cap, .agg #[.int .i64 P[k].b.x0, .int .i64 P[k].b.y0, .int .i64 (P[k].b.x1 - P[k].b.x0 + 1), .int .i64 (P[k].b.y1 - P[k].b.y0 + 1)]] W (RetB W l.length (pnK l (P.take (k + 1)))) from by
      obtain ⟨k1, k2, k3⟩ := pnK_ok (P.take k) hok
      have hq := hA P[k] (List.getElem_mem hk)
      have h4 := punch_any (some ⟨b, off, none⟩) cap (pnK l (P.take k)) P[k].b.x0 P[k].b.y0 (P[k].b.x1 - P[k].b.x0 + 1) (P[k].b.y1 - P[k].b.y0 + 1) W (by rw [k3]; exact h1) h2 h3 (pnK_sz _ hok hz)
      rw [k3] at h4
      refine h4.mono fun e w' hr => ?_
      have e1 : pnP (pnK l (P.take k)) P[k].b.x0 P[k].b.y0 (P[k].b.x1 - P[k].b.x0 + 1) (P[k].b.y1 - P[k].b.y0 + 1) = pnK l (P.take (k + 1)) := (pnK_snoc l P hk).symm
      rw [e1] at hr
      obtain ⟨_, _, k4⟩ := pnK_ok (P.take (k + 1)) hok
      have := retB (s := pnK l (P.take (k + 1))) (ftE_ok k1 k2 k3 hq.2.2.1 hq.2.2.2.1) (by rw [k4]; exact hl1) hr
      rw [k4] at this
      exact this))
    unfold RetB at HPU
    have HRV := Lib.hid (fun k b off cap W (h1 : l.length ≤ cap) (h2 : cap ≤ 9223372036854775807) (h3 : TSl W (some ⟨b, off, none⟩) (pnK l (P.take k))) => (show Calls Tryd.prog 26 #[.slice (some ⟨b, off, none⟩) l.length cap] W fun e w' => e = .returned (.bool true) ∧ Below W.heap.size W w' from by
      obtain ⟨k1, k2, k3⟩ := pnK_ok (P.take k) hok
      have h4 := rvalid_any (some ⟨b, off, none⟩) cap (pnK l (P.take k)) W (by rw [k3]; exact h1) h2 h3 (pnK_sz _ hok hz)
      rw [k3, decide_eq_true k1] at h4
      exact h4))
    have HPR := Lib.hid (fun b off cap W (h1 : l.length ≤ cap) (h2 : cap ≤ 9223372036854775807) (h3 : TSl W (some ⟨b, off, none⟩) (pnK l (P.take P.length))) => (show Calls Tryd.prog 12 #[.slice (some ⟨b, off, none⟩) l.length cap, .int .i64 g] W fun e w' => Below W.heap.size W w' ∧ ∃ A cap, e = .returned (.tuple #[.slice A 0 cap, .int .i64 0]) from by
      rw [List.take_length] at h3
      obtain ⟨k1, k2, k3⟩ := pnK_ok P hok
      have h4 := parts_any (some ⟨b, off, none⟩) cap (pnK l P) g W (by rw [k3]; exact h1) h2 h3 (pnK_sz _ hok hz)
      rw [k3] at h4
      refine h4.mono fun e w' hr => ⟨hr.1, ?_⟩
      rcases hr.2 with h | ⟨_, A, cap, he, _⟩
      · exact absurd ⟨k1, hps.2⟩ h.1
      · rw [hN] at he
        exact ⟨A, cap, he⟩))
    have HA := Lib.hid hA
    have HS := Lib.hid hS
    have HSL := Lib.hid (fun k hk => sK_le P k hk)
    have hcb := cnt_bd l g 0 0 hw48 l.length
    have hsb : ∀ k, k ≤ P.length → sK P k ≤ 2304 := fun k hk => by
      have h1 := sK_le P k hk
      omega
    have HSB := Lib.hid hsb
    have HSS := Lib.hid (fun k (hk : k < P.length) => sK_succ (P := P) hk)
    have HSA := Lib.hid (sK_all P)
    have hfr : ∀ W, Below w.heap.size w W → ∃ b off, ∃ r0 : ByteArray, A = some ⟨b, off, none⟩ ∧ b < W.heap.size ∧ W.cell? ⟨b, off, none⟩ = some (.string r0) ∧ r0.size = wid l := fun W hW => by
      rcases h.ext hW with h0 | ⟨b, off, rfl, hb, hcl⟩
      · rw [h0] at hl1; simp at hl1
      · obtain ⟨r0, c0, hr0⟩ := first_row hok hcl
        exact ⟨b, off, r0, rfl, hb, c0, hr0⟩
    have HFR := Lib.hid hfr
    have hl0 : (0 : Int) < (l.length : Int) := by omega
    have hl0' : 0 < l.length := by omega
    clear h hz hps hok hA hS hN hfr HP hP hsb hcb
    go_enter Tryd.func10, Tryd.ntmps10
    go_upto_region 7 with (first
      | (go_at_call 12; refine (HP1.out).mono ?_; rintro e w1 ⟨hx1, A1, c1, rfl, i1, j1, t1⟩)
      | (go_at_call 17; refine (HGD.out _ hx1).mono ?_; rintro e w2 ⟨rfl, hx2⟩; have B2 := bext hx1 hx2 hx1.size)
      | (go_at_call 16; refine (HNT.out _ B2).mono ?_; rintro e w3 ⟨hx3, q, rfl, ht3⟩; have B3 := bext B2 hx3 B2.size))
    obtain ⟨b0, o0, r0, rfl, hb0, hc0, hr0⟩ := HFR.out w3 B3
    obtain ⟨n, hn⟩ : ∃ n, n = wid l := ⟨_, rfl⟩
    obtain ⟨base, hbase⟩ : ∃ base, base = w2.heap.size := ⟨_, rfl⟩
    rw [← hbase] at ht3
    have HCT0 := Lib.hid (HCT.out base q 0 0 (wid l) l.length w3 ht3 (by unfold RcOk; omega) (by unfold RcIn; omega))
    rw [Int.toNat_natCast, Int.toNat_natCast, show (0 : Int).toNat = 0 from rfl, ← HS.out] at HCT0
    rw [← hn] at hr0 HCT0
    have HN := Lib.hid hn
    obtain ⟨sa, hsa⟩ : ∃ sa : Nat, sa = (P.map fun p => p.n).sum := ⟨_, rfl⟩
    rw [← hsa] at HCT0 HSA
    clear hn hsa
    go_upto_block 0 with (first
      | (go_at_call 15; refine (HCT0.out).mono ?_; rintro e w4 ⟨rfl, hx4⟩; have B4 := bext B3 hx4 B3.size)
      | (go_at_call 45; refine (HCL.out _ B4).mono ?_; rintro e w5 ⟨hx5, b5, o5, c5, rfl, i5, j5, t5⟩; have B5 := bext B4 hx5 B4.size))
    obtain ⟨V0, hV0⟩ : ∃ V0, V0 = w5 := ⟨_, rfl⟩
    subst hV0
    have HB5 := Lib.hid B5
    have HTB := Lib.hid (fun W (hW : Below V0.heap.size V0 W) => ((ht3.ext hx4).ext hx5).ext hW)
    have HPS := Lib.hid (fun W (hW : Below V0.heap.size V0 W) => (((((t1.ext hx2).ext hx3).ext hx4).ext hx5).ext hW))
    have HT5 := Lib.hid t5
    have HB0 := Lib.hid (Below.refl V0.heap.size V0)
    clear hx1 hx2 hx3 hx4 hx5 t1 ht3 t5 hbase B2 B3 B4 B5 hb0 hc0 hr0
    go_wp2_with (fail)
    go_loopg [66, 11, 12] P.length (fun gg i sm t wr => ∃ (k b off cap : Nat), i = .int .i64 k ∧ k ≤ P.length ∧ gg = P.length - k ∧ sm = .int .i64 (sK P k : Int) ∧ t = .slice (some ⟨b, off, none⟩) l.length cap ∧ l.length ≤ cap ∧ cap ≤ 9223372036854775807 ∧ TSl wr (some ⟨b, off, none⟩) (pnK l (P.take k)) ∧ Below V0.heap.size V0 wr)
    case atStart => exact ⟨0, b5, o5, c5, rfl, by omega, by omega, rfl, rfl, i5, j5, HT5.out, HB0.out⟩
    case round =>
      obtain ⟨k, b, off, cap', rfl, hk, hg, rfl, rfl, hc1, hc2, ht, hb⟩ := hrel
      have HG := Lib.hid hg
      have HB := Lib.hid hb
      have HT := Lib.hid ht
      clear hg hb ht HB0 HT5
      by_cases hlt : k < P.length
      · rcases HPS.out wr HB.out with h0 | ⟨b1, off1, rfl, hb1, hcl⟩
        · rw [h0] at hlt; simp at hlt
        · have q0 := hcl k hlt 0 (by omega)
          have q1 := hcl k hlt 1 (by omega)
          have q2 := hcl k hlt 2 (by omega)
          have q3 := hcl k hlt 3 (by omega)
          have q4 := hcl k hlt 4 (by omega)
          have q5 := hcl k hlt 5 (by omega)
          have q6 := hcl k hlt 6 (by omega)
          have HPU1 := Lib.hid (fun W => HPU.out k hlt b off cap' W hc1 hc2)
          have hpa := HA.out P[k] (List.getElem_mem hlt)
          have HSS1 := Lib.hid (HSS.out k hlt)
          have hsb1 := HSB.out (k + 1) hlt
          obtain ⟨p, hp⟩ : ∃ p, p = P[k] := ⟨_, rfl⟩
          rw [← hp] at q0 q1 q2 q3 q4 q5 q6 HPU1 hpa HSS1
          unfold pvs at q0 q1 q2 q3 q4 q5 q6
          simp only [List.getElem_cons_zero, List.getElem_cons_succ] at q0 q1 q2 q3 q4 q5 q6
          rw [Nat.add_zero] at q0
          unfold PaOk at hpa
          obtain ⟨p1, p2, p3, p4, p5⟩ := hpa
          have HCK := Lib.hid (fun W (hW : Below V0.heap.size V0 W) => HCT.out base q _ _ _ _ W (HTB.out W hW) p3 p4)
          obtain ⟨pn, pe, ph, px, py, pu, pv⟩ := p
          dsimp only at q0 q1 q2 q3 q4 q5 q6 HPU1 HSS1 p1 p2 p3 p4 p5 HCK
          unfold RcOk at p3
          unfold RcIn at p4
          obtain ⟨a, ha⟩ : ∃ a, a = pu - px + 1 := ⟨_, rfl⟩
          obtain ⟨a', ha'⟩ : ∃ a', a' = pv - py + 1 := ⟨_, rfl⟩
          obtain ⟨cv, hcv⟩ : ∃ cv, cv = cnt l g px.toNat py.toNat (pu - px + 1).toNat (pv - py + 1).toNat := ⟨_, rfl⟩
          rw [← hcv] at p5
          rw [← hcv] at HCK
          rw [← ha] at q5 HPU1 HCK p3 p4
          rw [← ha'] at q6 HPU1 HCK p3 p4
          have hk2 : (k : Int) < (P.length : Int) := by omega
          have hs0 := HSB.out k hk
          clear hp hcl ha ha' hcv
          go_upto_region 12 with (fail)
          have HX := Lib.hid (ext_alloc wr (.cells #[.int .i64 (pn : Int), .int .i64 (pe : Int), .int .i64 (ph : Int), .int .i64 px, .int .i64 py, .int .i64 a, .int .i64 a'] 33))
          have HR := Lib.hid (Bk.new 33 wr #[.int .i64 (pn : Int), .int .i64 (pe : Int), .int .i64 (ph : Int), .int .i64 px, .int .i64 py, .int .i64 a, .int .i64 a'])
          obtain ⟨pp, hpp⟩ : ∃ pp, pp = wr.heap.size := ⟨_, rfl⟩
          obtain ⟨V, hV⟩ : ∃ V, V = wr.alloc (.cells #[.int .i64 (pn : Int), .int .i64 (pe : Int), .int .i64 (ph : Int), .int .i64 px, .int .i64 py, .int .i64 a, .int .i64 a'] 33) := ⟨_, rfl⟩
          rw [← hV] at HX HR ⊢
          rw [← hpp] at HR ⊢
          have HB1 := Lib.hid (bext HB.out HX.out HB.out.size)
          have HT1 := Lib.hid (HT.out.ext HX.out)
          have n1 : ¬ (pn : Int) < 1 := by omega
          have n2 : ¬ (pe : Int) < 4 := by omega
          have n3 : ¬ cv < (pn : Int) := by omega
          have e1 : (sK P k : Int) + (pn : Int) = (sK P (k + 1) : Int) := by rw [HSS1.out]; omega
          clear hpp hV q0 q1 q2 q3 q4 q5 q6 hb1 HB HX HT p1 p2 p3 p4 p5
          obtain ⟨r1, r2, r3⟩ := HR.out.facts
          go_wp2_with (first
            | (go_at_call 15; refine (HCK.out _ HB1.out).mono ?_; rintro e w6 ⟨rfl, hx6⟩; obtain ⟨r1, r2, r3⟩ := (HR.out.ext hx6).facts; have B6 := bext HB1.out hx6 HB1.out.size)
            | (go_at_call 41; refine (HPU1.out _ (HT1.out.ext hx6)).mono ?_; rintro e w7 ⟨hx7, b7, o7, c7, rfl, i7, j7, t7⟩; clear r1 r2 r3; have B7 := bext B6 hx7 B6.size)
            | (go_at_call 26; refine (HRV.out (k + 1) _ _ _ _ i7 j7 t7).mono ?_; rintro e w8 ⟨rfl, hx8⟩; have B8 := bext B7 hx8 B7.size))
          go_roundg (P.length - (k + 1))
          case measure => have := HG.out; omega
          case rel => exact ⟨k + 1, b7, o7, c7, by go_num, by omega, rfl, rfl, rfl, i7, j7, t7.ext hx8, B8⟩
      · obtain rfl : k = P.length := by omega
        have HPR1 := Lib.hid (HPR.out b off cap' wr hc1 hc2 HT.out)
        rw [HSA.out]
        go_wp2_with (first
          | (go_at_call 12; refine (HPR1.out).mono ?_; rintro e w6 ⟨hx6, A6, c6, rfl⟩; have B6 := bext HB.out hx6 HB.out.size)
          | (go_at_call 14; refine (awake_any _).mono ?_; rintro e w8 ⟨rfl, hx8⟩; have B8 := bext B6 hx8 B6.size))
        refine bodyPost_ret (v := .bool true) (by simp [results, Tryd.results10, go_sem]) rfl ?_
        exact ⟨rfl, bext HB5.out B8 HB5.out.size⟩
  · rw [decide_eq_false hps] at HGD
    have HP1 := Lib.hid (HP.out.mono (R' := fun e w' => Below w.heap.size w w' ∧ e = .returned (.tuple #[.slice none 0 0, .int .i64 2])) (fun e w' hr => ⟨hr.1, hr.2.elim (fun h => h.2) (fun h => absurd h.1 hps)⟩))
    clear h hz hps HP
    go_enter Tryd.func10, Tryd.ntmps10
    go_wp2_with (first
      | (go_at_call 12; refine (HP1.out).mono ?_; rintro e w1 ⟨hx1, rfl⟩)
      | (go_at_call 17; refine (HGD.out _ hx1).mono ?_; rintro e w2 ⟨rfl, hx2⟩; have B2 := bext hx1 hx2 hx1.size)
      | (go_at_call 14; refine (awake_any _).mono ?_; rintro e w8 ⟨rfl, hx8⟩; have B8 := bext B2 hx8 B2.size))
    go_ret
    exact ⟨rfl, B8⟩
end Go.Proofs.YtdkoomcgnaokgaaDoor
