/- SkinWithin walked. Conditions: the arguments read as lists. -/
import Derived.Test.YtmgofdgbenfjmaaDoorCo
import Derived.Test.YtmgofdgbenfjmaaDoorTc
import Derived.Test.YtmgofdgbenfjmaaDoorRc
import Derived.Test.YtmgofdgbenfjmaaDoorRgT
import Derived.Test.YtmgofdgbenfjmaaDoorAw
namespace Go.Proofs.YtmgofdgbenfjmaaDoor
open Go.RowKit

/-- the rectangle lies within and is usable -/
def FullR (l : List ByteArray) (g x y a b : Int) : Prop := RcOk x y a b ∧ RcIn x y a b (wid l) l.length ∧ cnt l g x.toNat y.toNat a.toNat b.toNat = a * b
theorem FullR.us {l : List ByteArray} {g x y a b : Int} (h : FullR l g x y a b) : UsR (usb l g) false ⟨x.toNat, y.toNat, a.toNat, b.toNat⟩ := by
  obtain ⟨h1, h2, h3⟩ := h
  unfold RcOk at h1
  refine ⟨by dsimp only; omega, by dsimp only; omega, ?_, fun h => by cases h⟩
  refine fu_iff.1 (cnt_fuB.1 ?_)
  dsimp only
  rw [h3, show ((a.toNat : Nat) : Int) = a by omega, show ((b.toNat : Nat) : Int) = b by omega]
/-- one contains the other -/
def Con (s : Rn) (x y a b : Nat) : Prop := s.x ≤ x ∧ s.y ≤ y ∧ x + a ≤ s.x + s.a ∧ y + b ≤ s.y + s.b
def ConK (ms : List Rn) (k x y a b : Nat) : Prop := ∃ s ∈ ms.take k, Con s x y a b
theorem conK_zero (ms : List Rn) (x y a b : Nat) : ¬ ConK ms 0 x y a b := fun ⟨s, h, _⟩ => by simp at h
theorem conK_succ {ms : List Rn} {k x y a b : Nat} (hk : k < ms.length) : ConK ms (k + 1) x y a b ↔ ConK ms k x y a b ∨ Con ms[k] x y a b := by
  unfold ConK
  rw [List.take_succ_eq_append_getElem hk]
  simp only [List.mem_append, List.mem_singleton]
  exact ⟨fun ⟨s, h1, h2⟩ => h1.elim (fun h => .inl ⟨s, h, h2⟩) (fun h => .inr (h ▸ h2)), fun h => h.elim (fun ⟨s, h1, h2⟩ => ⟨s, .inl h1, h2⟩) (fun h => ⟨_, .inr rfl, h⟩)⟩
set_option maxRecDepth 100000 in
set_option maxHeartbeats 8000000 in
theorem law_within (A : Option Addr) (cap : Nat) (l : List ByteArray) (g x y a b : Int) (w : World) (hc : l.length ≤ cap) (hcm : cap ≤ 9223372036854775807) (h : TSl w A l) (hz : TSz l) :
    Calls Tryd.prog 6 #[.slice A l.length cap, .int .i64 g, .agg #[.int .i64 x, .int .i64 y, .int .i64 a, .int .i64 b]] w fun e w' => e = .returned (.bool true) ∧ Below w.heap.size w w' := by
  have HX0 := Lib.hid (ext_alloc w (.cells #[.int .i64 x, .int .i64 y, .int .i64 a, .int .i64 b] 31))
  have HZ := Lib.hid (Bk.new 31 w #[.int .i64 x, .int .i64 y, .int .i64 a, .int .i64 b])
  have HMX := Lib.hid (fun W (hW : Below w.heap.size w W) => smaximal_any A cap l g W hc hcm (h.ext hW) hz)
  have HLG := Lib.hid (fun W (hW : Below w.heap.size w W) => largest_any A cap l g W hc hcm (h.ext hW) hz)
  have HGD := Lib.hid (fun W (hW : Below w.heap.size w W) => good_any A cap l g W hc hcm (h.ext hW) hz)
  have HTS := Lib.hid (fun W (hW : Below w.heap.size w W) => h.ext hW)
  by_cases hps : PsOk l g
  · rw [decide_eq_true hps] at HGD
    have HPS := Lib.hid hps
    have hok := hps.1
    rcases h with h0 | ⟨bb, off, rfl, hblt, hcl⟩
    · have h1 := hok.1; rw [h0] at h1; simp at h1
    obtain ⟨r0, hr0c, hr0s⟩ := first_row hok hcl
    have HC := Lib.hid (show ∀ W, Below w.heap.size w W → bb < W.heap.size ∧ W.cell? ⟨bb, off, none⟩ = some (.string r0) from fun W hW => ⟨Nat.lt_of_lt_of_le hblt hW.size, (hW.cell (p := ⟨bb, off, none⟩) hblt).trans hr0c⟩)
    have hl1 := hok.1
    have hl48 := hok.2.1
    have hw48 := hok.2.2.2.1
    have HINN := Lib.hid (usb_inn (l := l) hps.2.1)
    have HRC := Lib.hid (fun W => rrect_any x y a b W)
    have HLI := Lib.hid (fun (hrok : RcOk x y a b) W => rlies_any x y a b (wid l) l.length W hrok.1 hrok.2.1 ⟨by omega, by omega⟩ ⟨by omega, by omega⟩)
    have HRT := Lib.hid (fun (hrok : RcOk x y a b) (hrin : RcIn x y a b (wid l) l.length) W (hW : Below w.heap.size w W) => (show Calls Tryd.prog 25 #[.slice (some ⟨bb, off, none⟩) l.length cap, .int .i64 g, .agg #[.int .i64 x, .int .i64 y, .int .i64 a, .int .i64 b]] W fun e w' => e = .returned (.int .i64 (cnt l g x.toNat y.toNat a.toNat b.toNat)) ∧ Below W.heap.size W w' from by
      unfold RcOk at hrok
      unfold RcIn at hrin
      have h := rcount_any (some ⟨bb, off, none⟩) cap l g x.toNat y.toNat a.toNat b.toNat W HPS.out.1 (HTS.out W hW) (by omega) (by omega)
      rw [show ((x.toNat : Nat) : Int) = x by omega, show ((y.toNat : Nat) : Int) = y by omega, show ((a.toNat : Nat) : Int) = a by omega, show ((b.toNat : Nat) : Int) = b by omega] at h
      exact h))
    have HFU := Lib.hid (fun hf : FullR l g x y a b => hf.us)
    have HFD := Lib.hid (show ∀ v, v = cnt l g x.toNat y.toNat a.toNat b.toNat → RcOk x y a b → RcIn x y a b (wid l) l.length → (v = a * b ↔ FullR l g x y a b) from fun v hv h1 h2 => by
      subst hv; exact ⟨fun h => ⟨h1, h2, h⟩, fun h => h.2.2⟩)
    have HMX := Lib.hid (fun W hW => (HMX.out W hW).mono (R' := fun e w' => Below W.heap.size W w' ∧ ∃ A2 c2 ms, e = .returned (.tuple #[.slice A2 ms.length c2, .int .i64 0]) ∧ ms.length ≤ 10000000 ∧ RSl w' A2 ms ∧ ∀ r, r ∈ ms ↔ Mx (usb l g) r) (fun e w' hr => ⟨hr.1, hr.2.elim (fun h => absurd hps h.1) (fun h => by
      obtain ⟨_, A2, c2, ms, h1, _, _, h4, h5, _, h7⟩ := h
      exact ⟨A2, c2, ms, h1, h4, h5, h7⟩)⟩))
    obtain ⟨N, hN⟩ : ∃ N, N = wid l := ⟨_, rfl⟩
    have HN := Lib.hid hN
    rw [← hN] at hr0s hw48 HINN HLI HRT HFD
    clear hps hok hcl hblt hz hN hr0c
    by_cases hex : ∃ s, UsR (usb l g) false s
    · have HLG := Lib.hid (fun W hW => (HLG.out W hW).mono (R' := fun e w' => Below W.heap.size W w' ∧ ∃ m : Rn, BestR (usb l g) false m ∧ e = .returned (.tuple #[.agg #[.int .i64 (m.x : Int), .int .i64 (m.y : Int), .int .i64 (m.a : Int), .int .i64 (m.b : Int)], .int .i64 0])) (fun e w' hr => ⟨hr.1, hr.2.elim (fun h => absurd HPS.out h.1) (fun h => h.elim (fun h => by obtain ⟨s, hs⟩ := hex; exact absurd hs (h.2.1 s)) (fun h => h.2))⟩))
      clear hex
      go_enter Tryd.func6, Tryd.ntmps6
      go_upto_region 1 with (fail)
      obtain ⟨rb, hrb⟩ : ∃ rb, rb = w.heap.size := ⟨_, rfl⟩
      obtain ⟨W0, hW0⟩ : ∃ V, V = w.alloc (.cells #[.int .i64 x, .int .i64 y, .int .i64 a, .int .i64 b] 31) := ⟨_, rfl⟩
      rw [← hrb, ← hW0]
      rw [← hrb, ← hW0] at HZ
      rw [← hW0] at HX0
      clear hrb hW0
      go_upto_region 3 with (first
        | (go_at_call 15; refine (HMX.out _ HX0.out).mono ?_; rintro e w1 ⟨hx1, A2, c2, ms, rfl, hml, hms, hmx⟩; have HB1 := Lib.hid (bext HX0.out hx1 HX0.out.size); have HZ1 := Lib.hid (HZ.out.ext hx1); have HMS := Lib.hid hms; have HMM := Lib.hid hmx; clear hx1 hms hmx)
        | (go_at_call 18; refine (HLG.out _ HB1.out).mono ?_; rintro e w2 ⟨hx2, m, hbest, rfl⟩; have HBT := Lib.hid hbest; clear hbest; have HB2 := Lib.hid (bext HB1.out hx2 HB1.out.size); have HZ2 := Lib.hid (HZ1.out.ext hx2); have HMS2 := Lib.hid (HMS.out.ext hx2); clear hx2))
      have HXQ := Lib.hid (ext_alloc w2 (.cells #[.int .i64 (m.x : Int), .int .i64 (m.y : Int), .int .i64 (m.a : Int), .int .i64 (m.b : Int)] 31))
      have HQ := Lib.hid (Bk.new 31 w2 #[.int .i64 (m.x : Int), .int .i64 (m.y : Int), .int .i64 (m.a : Int), .int .i64 (m.b : Int)])
      obtain ⟨qb, hqb⟩ : ∃ qb, qb = w2.heap.size := ⟨_, rfl⟩
      obtain ⟨V2, hV2⟩ : ∃ V, V = w2.alloc (.cells #[.int .i64 (m.x : Int), .int .i64 (m.y : Int), .int .i64 (m.a : Int), .int .i64 (m.b : Int)] 31) := ⟨_, rfl⟩
      rw [← hqb, ← hV2]
      rw [← hqb, ← hV2] at HQ
      rw [← hV2] at HXQ
      have HB3 := Lib.hid (bext HB2.out HXQ.out HB2.out.size)
      have HZ3 := Lib.hid (HZ2.out.ext HXQ.out)
      have HMS3 := Lib.hid (HMS2.out.ext HXQ.out)
      clear hqb hV2 HXQ HB2 HZ2 HMS2 HB1 HZ1 HMS HX0 HZ HMX HLG
      have HCN := Lib.hid (fun W hW => contains_rects A2 c2 ms m W hml (HMS3.out.ext hW) ((HMM.out m).2 (best_mx HINN.out HBT.out)))
      obtain ⟨qf1, qf2, qf3⟩ := HQ.out.facts
      go_upto_region 7 with (first
        | (go_at_call 21; refine (HGD.out _ HB3.out).mono ?_; rintro e w3 ⟨rfl, hx3⟩; have HX3 := Lib.hid hx3; clear hx3 qf1 qf2 qf3; obtain ⟨qf1, qf2, qf3⟩ := (HQ.out.ext HX3.out).facts)
        | (go_at_call 22; refine (HCN.out _ HX3.out).mono ?_; rintro e w4 ⟨rfl, hx4⟩; have HX4 := Lib.hid (ext_trans HX3.out hx4); clear hx4))
      have HB4 := Lib.hid (bext HB3.out HX4.out HB3.out.size)
      have HZ4 := Lib.hid (HZ3.out.ext HX4.out)
      have HQ4 := Lib.hid (HQ.out.ext HX4.out)
      have HMS4 := Lib.hid (HMS3.out.ext HX4.out)
      clear HX4 HX3 HZ3 HQ HMS3 HCN qf1 qf2 qf3
      have HF7 := Lib.hid (show ∀ W, Below w4.heap.size w4 W → W.cell? ⟨rb, 0, none⟩ = some (.int .i64 x) ∧ W.cell? ⟨rb, 1, none⟩ = some (.int .i64 y) ∧ W.cell? ⟨rb, 2, none⟩ = some (.int .i64 a) ∧ W.cell? ⟨rb, 3, none⟩ = some (.int .i64 b) ∧ rb < W.heap.size ∧ bb < W.heap.size ∧ W.cell? ⟨bb, off, none⟩ = some (.string r0) from fun W hW => by
        obtain ⟨h1, h2⟩ := HC.out W (bext HB4.out hW HB4.out.size)
        have hk := HZ4.out.ext hW
        exact ⟨hk.cell 0, hk.cell 1, hk.cell 2, hk.cell 3, hk.lt, h1, h2⟩)
      have hl0 : (0 : Int) < (l.length : Int) := by omega
      have hl0' : 0 < l.length := by omega
      go_cut [89] from 64 to 90 (fun z wx => ∃ c : Bool, z = .bool c ∧ (c = false → FullR l g x y a b) ∧ (c = true → ¬ FullR l g x y a b) ∧ Below w4.heap.size w4 wx)
      case first =>
        by_cases hrok : RcOk x y a b
        · rw [decide_eq_true hrok] at HRC
          have HLI := Lib.hid (HLI.out hrok)
          have HRT := Lib.hid (HRT.out hrok)
          have HFD := Lib.hid (fun v hv => HFD.out v hv hrok)
          have HRK := Lib.hid hrok
          by_cases hrin : RcIn x y a b N l.length
          · rw [decide_eq_true hrin] at HLI
            have HRT := Lib.hid (HRT.out hrin)
            obtain ⟨v, hv⟩ : ∃ v, v = cnt l g x.toNat y.toNat a.toNat b.toNat := ⟨_, rfl⟩
            have HFD := Lib.hid (HFD.out v hv hrin)
            rw [← hv] at HRT
            have hp48 : 0 ≤ a * b ∧ a * b ≤ 2304 := by
              unfold RcOk at hrok
              unfold RcIn at hrin
              obtain ⟨an, rfl⟩ := Int.eq_ofNat_of_zero_le (show 0 ≤ a by omega)
              obtain ⟨bn, rfl⟩ := Int.eq_ofNat_of_zero_le (show 0 ≤ b by omega)
              have h1 := Nat.mul_le_mul (show an ≤ 48 by omega) (show bn ≤ 48 by omega)
              have h2 : (an : Int) * (bn : Int) = ((an * bn : Nat) : Int) := by push_cast; rfl
              omega
            obtain ⟨p, hp⟩ : ∃ p, a * b = p := ⟨_, rfl⟩
            rw [hp] at HFD hp48
            obtain ⟨hp0, hp1⟩ := hp48
            have hpw : IntKind.i64.wrap p = p := IntWalk.i64_in _ ⟨by omega, by omega⟩
            clear hv hrok hrin
            by_cases hvp : v = p
            · subst hvp
              have HYE := Lib.hid (HFD.out.1 rfl)
              refine wp_region_T (S := fun W => Below w4.heap.size w4 W) 25 (by kernel_rfl) (ext_drew _) (fun hHeld => ?_)
              refine wpAnyT_take (i := 0) (v := ?v1) [14, 13, 3, 1] rfl (by kernel_rfl) (fun _ _ _ h => h) (Or.inl ⟨by rfl, ?hy1⟩) hHeld ?rst1
              case hy1 => (intro wx hSw; obtain ⟨q1, q2, q3, q4, q5, q6, q7⟩ := HF7.out wx hSw; go_simp; try (with_reducible rfl))
              try simp only [List.getElem_toArray, List.getElem_cons_zero, Act.put, List.setIfInBounds_toArray, List.set_cons_zero, List.set_cons_succ]
              refine wpAnyT_one (i := 1) (by kernel_rfl) rfl (fun K hK => ?_)
              go_simp
              go_at_call 23
              refine (HRC.out _).mono ?_
              rintro e8 w8 ⟨rfl, hx8⟩
              have B8 := bext hHeld hx8 hHeld.size
              clear hx8
              refine hK.out _ _ (B8) (fun hHeld => ?_)
              clear hK K
              try simp only [List.getElem_toArray, List.getElem_cons_zero, List.getElem_cons_succ, Act.put, List.setIfInBounds_toArray, List.set_cons_zero, List.set_cons_succ]
              refine wpAnyT_take (i := 2) (v := ?v2) [14, 13, 3] rfl (by kernel_rfl) (fun _ _ _ h => h) (Or.inl ⟨by rfl, ?hy2⟩) hHeld ?rst2
              case hy2 => (intro wx hSw; obtain ⟨q1, q2, q3, q4, q5, q6, q7⟩ := HF7.out wx hSw; go_simp; try (with_reducible rfl))
              try simp only [List.getElem_toArray, List.getElem_cons_zero, List.getElem_cons_succ, Act.put, List.setIfInBounds_toArray, List.set_cons_zero, List.set_cons_succ]
              refine wpAnyT_take (i := 3) (v := ?v3) [14, 13] rfl (by kernel_rfl) (fun _ _ _ h => h) (Or.inl ⟨by rfl, ?hy3⟩) hHeld ?rst3
              case hy3 => (intro wx hSw; obtain ⟨q1, q2, q3, q4, q5, q6, q7⟩ := HF7.out wx hSw; go_simp; try (with_reducible rfl))
              try simp only [List.getElem_toArray, List.getElem_cons_zero, List.getElem_cons_succ, Act.put, List.setIfInBounds_toArray, List.set_cons_zero, List.set_cons_succ]
              refine wpAnyT_take (i := 4) (v := ?v4) [14, 11] rfl (by kernel_rfl) (fun _ _ _ h => h) (Or.inl ⟨by rfl, ?hy4⟩) hHeld ?rst4
              case hy4 => (intro wx hSw; obtain ⟨q1, q2, q3, q4, q5, q6, q7⟩ := HF7.out wx hSw; go_simp; try (with_reducible rfl))
              try simp only [List.getElem_toArray, List.getElem_cons_zero, List.getElem_cons_succ, Act.put, List.setIfInBounds_toArray, List.set_cons_zero, List.set_cons_succ]
              refine wpAnyT_take (i := 5) (v := ?v5) [14, 11, 8, 7, 6] rfl (by kernel_rfl) (fun _ _ _ h => h) (Or.inl ⟨by rfl, ?hy5⟩) hHeld ?rst5
              case hy5 => (intro wx hSw; obtain ⟨q1, q2, q3, q4, q5, q6, q7⟩ := HF7.out wx hSw; go_simp; try (with_reducible rfl))
              try simp only [List.getElem_toArray, List.getElem_cons_zero, List.getElem_cons_succ, Act.put, List.setIfInBounds_toArray, List.set_cons_zero, List.set_cons_succ]
              refine wpAnyT_take (i := 6) (v := ?v6) [14, 11, 8, 7] rfl (by kernel_rfl) (fun _ _ _ h => h) (Or.inl ⟨by rfl, ?hy6⟩) hHeld ?rst6
              case hy6 => (intro wx hSw; obtain ⟨q1, q2, q3, q4, q5, q6, q7⟩ := HF7.out wx hSw; go_simp; try (with_reducible rfl))
              try simp only [List.getElem_toArray, List.getElem_cons_zero, List.getElem_cons_succ, Act.put, List.setIfInBounds_toArray, List.set_cons_zero, List.set_cons_succ]
              refine wpAnyT_take (i := 7) (v := ?v7) [14, 11, 8] rfl (by kernel_rfl) (fun _ _ _ h => h) (Or.inl ⟨by rfl, ?hy7⟩) hHeld ?rst7
              case hy7 => (intro wx hSw; obtain ⟨q1, q2, q3, q4, q5, q6, q7⟩ := HF7.out wx hSw; go_simp; try (with_reducible rfl))
              try simp only [List.getElem_toArray, List.getElem_cons_zero, List.getElem_cons_succ, Act.put, List.setIfInBounds_toArray, List.set_cons_zero, List.set_cons_succ]
              refine wpAnyT_take (i := 8) (v := ?v8) [14, 11] rfl (by kernel_rfl) (fun _ _ _ h => h) (Or.inl ⟨by rfl, ?hy8⟩) hHeld ?rst8
              case hy8 => (intro wx hSw; obtain ⟨q1, q2, q3, q4, q5, q6, q7⟩ := HF7.out wx hSw; go_simp; try (with_reducible rfl))
              try simp only [List.getElem_toArray, List.getElem_cons_zero, List.getElem_cons_succ, Act.put, List.setIfInBounds_toArray, List.set_cons_zero, List.set_cons_succ]
              refine wpAnyT_take (i := 9) (v := ?v9) [14, 11, 10] rfl (by kernel_rfl) (fun _ _ _ h => h) (Or.inl ⟨by rfl, ?hy9⟩) hHeld ?rst9
              case hy9 => (intro wx hSw; obtain ⟨q1, q2, q3, q4, q5, q6, q7⟩ := HF7.out wx hSw; go_simp; try (with_reducible rfl))
              try simp only [List.getElem_toArray, List.getElem_cons_zero, List.getElem_cons_succ, Act.put, List.setIfInBounds_toArray, List.set_cons_zero, List.set_cons_succ]
              refine wpAnyT_take (i := 10) (v := ?v10) [14, 11] rfl (by kernel_rfl) (fun _ _ _ h => h) (Or.inl ⟨by rfl, ?hy10⟩) hHeld ?rst10
              case hy10 => (intro wx hSw; obtain ⟨q1, q2, q3, q4, q5, q6, q7⟩ := HF7.out wx hSw; go_simp; try (with_reducible rfl))
              try simp only [List.getElem_toArray, List.getElem_cons_zero, List.getElem_cons_succ, Act.put, List.setIfInBounds_toArray, List.set_cons_zero, List.set_cons_succ]
              refine wpAnyT_one (i := 11) (by kernel_rfl) rfl (fun K hK => ?_)
              go_simp
              go_at_call 24
              refine (HLI.out _).mono ?_
              rintro e9 w9 ⟨rfl, hx9⟩
              have B9 := bext hHeld hx9 hHeld.size
              clear hx9
              refine hK.out _ _ (B9) (fun hHeld => ?_)
              clear hK K
              try simp only [List.getElem_toArray, List.getElem_cons_zero, List.getElem_cons_succ, Act.put, List.setIfInBounds_toArray, List.set_cons_zero, List.set_cons_succ]
              refine wpAnyT_take (i := 12) (v := ?v11) [14, 13] rfl (by kernel_rfl) (fun _ _ _ h => h) (Or.inl ⟨by rfl, ?hy11⟩) hHeld ?rst11
              case hy11 => (intro wx hSw; obtain ⟨q1, q2, q3, q4, q5, q6, q7⟩ := HF7.out wx hSw; go_simp; try (with_reducible rfl))
              try simp only [List.getElem_toArray, List.getElem_cons_zero, List.getElem_cons_succ, Act.put, List.setIfInBounds_toArray, List.set_cons_zero, List.set_cons_succ]
              refine wpAnyT_take (i := 13) (v := ?v12) [14] rfl (by kernel_rfl) (fun _ _ _ h => h) (Or.inl ⟨by rfl, ?hy12⟩) hHeld ?rst12
              case hy12 => (intro wx hSw; obtain ⟨q1, q2, q3, q4, q5, q6, q7⟩ := HF7.out wx hSw; go_simp; try (with_reducible rfl))
              try simp only [List.getElem_toArray, List.getElem_cons_zero, List.getElem_cons_succ, Act.put, List.setIfInBounds_toArray, List.set_cons_zero, List.set_cons_succ]
              refine wpAnyT_take (i := 14) (v := ?v13) [] rfl (by kernel_rfl) (fun _ _ _ h => h) (Or.inl ⟨by rfl, ?hy13⟩) hHeld ?rst13
              case hy13 => (intro wx hSw; obtain ⟨q1, q2, q3, q4, q5, q6, q7⟩ := HF7.out wx hSw; go_simp; try (with_reducible rfl))
              try simp only [List.getElem_toArray, List.getElem_cons_zero, List.getElem_cons_succ, Act.put, List.setIfInBounds_toArray, List.set_cons_zero, List.set_cons_succ]
              refine wpAnyT_take (i := 15) (v := ?v14) [24, 18] rfl (by kernel_rfl) (fun _ _ _ h => h) (Or.inl ⟨by rfl, ?hy14⟩) hHeld ?rst14
              case hy14 => (intro wx hSw; obtain ⟨q1, q2, q3, q4, q5, q6, q7⟩ := HF7.out wx hSw; go_simp; try (with_reducible rfl))
              try simp only [List.getElem_toArray, List.getElem_cons_zero, List.getElem_cons_succ, Act.put, List.setIfInBounds_toArray, List.set_cons_zero, List.set_cons_succ]
              refine wpAnyT_take (i := 16) (v := ?v15) [24, 18] rfl (by kernel_rfl) (fun _ _ _ h => h) (Or.inl ⟨by rfl, ?hy15⟩) hHeld ?rst15
              case hy15 => (intro wx hSw; obtain ⟨q1, q2, q3, q4, q5, q6, q7⟩ := HF7.out wx hSw; go_simp; try (with_reducible rfl))
              try simp only [List.getElem_toArray, List.getElem_cons_zero, List.getElem_cons_succ, Act.put, List.setIfInBounds_toArray, List.set_cons_zero, List.set_cons_succ]
              refine wpAnyT_take (i := 17) (v := ?v16) [24, 18] rfl (by kernel_rfl) (fun _ _ _ h => h) (Or.inl ⟨by rfl, ?hy16⟩) hHeld ?rst16
              case hy16 => (intro wx hSw; obtain ⟨q1, q2, q3, q4, q5, q6, q7⟩ := HF7.out wx hSw; go_simp; try (with_reducible rfl))
              try simp only [List.getElem_toArray, List.getElem_cons_zero, List.getElem_cons_succ, Act.put, List.setIfInBounds_toArray, List.set_cons_zero, List.set_cons_succ]
              refine wpAnyT_take (i := 19) (v := ?v17) [24, 23, 20] rfl (by kernel_rfl) (fun _ _ _ h => h) (Or.inl ⟨by rfl, ?hy17⟩) hHeld ?rst17
              case hy17 => (intro wx hSw; obtain ⟨q1, q2, q3, q4, q5, q6, q7⟩ := HF7.out wx hSw; go_simp; try (with_reducible rfl))
              try simp only [List.getElem_toArray, List.getElem_cons_zero, List.getElem_cons_succ, Act.put, List.setIfInBounds_toArray, List.set_cons_zero, List.set_cons_succ]
              refine wpAnyT_take (i := 20) (v := ?v18) [24, 23] rfl (by kernel_rfl) (fun _ _ _ h => h) (Or.inl ⟨by rfl, ?hy18⟩) hHeld ?rst18
              case hy18 => (intro wx hSw; obtain ⟨q1, q2, q3, q4, q5, q6, q7⟩ := HF7.out wx hSw; go_simp; try (with_reducible rfl))
              try simp only [List.getElem_toArray, List.getElem_cons_zero, List.getElem_cons_succ, Act.put, List.setIfInBounds_toArray, List.set_cons_zero, List.set_cons_succ]
              refine wpAnyT_take (i := 21) (v := ?v19) [24, 23, 22] rfl (by kernel_rfl) (fun _ _ _ h => h) (Or.inl ⟨by rfl, ?hy19⟩) hHeld ?rst19
              case hy19 => (intro wx hSw; obtain ⟨q1, q2, q3, q4, q5, q6, q7⟩ := HF7.out wx hSw; go_simp; try (with_reducible rfl))
              try simp only [List.getElem_toArray, List.getElem_cons_zero, List.getElem_cons_succ, Act.put, List.setIfInBounds_toArray, List.set_cons_zero, List.set_cons_succ]
              refine wpAnyT_take (i := 22) (v := ?v20) [24, 23] rfl (by kernel_rfl) (fun _ _ _ h => h) (Or.inl ⟨by rfl, ?hy20⟩) hHeld ?rst20
              case hy20 => (intro wx hSw; obtain ⟨q1, q2, q3, q4, q5, q6, q7⟩ := HF7.out wx hSw; go_simp; try (with_reducible rfl))
              try simp only [List.getElem_toArray, List.getElem_cons_zero, List.getElem_cons_succ, Act.put, List.setIfInBounds_toArray, List.set_cons_zero, List.set_cons_succ]
              refine wpAnyT_take (i := 23) (v := ?v21) [24] rfl (by kernel_rfl) (fun _ _ _ h => h) (Or.inl ⟨by rfl, ?hy21⟩) hHeld ?rst21
              case hy21 => (intro wx hSw; obtain ⟨q1, q2, q3, q4, q5, q6, q7⟩ := HF7.out wx hSw; go_simp; try (with_reducible rfl))
              try simp only [List.getElem_toArray, List.getElem_cons_zero, List.getElem_cons_succ, Act.put, List.setIfInBounds_toArray, List.set_cons_zero, List.set_cons_succ]
              refine wpAnyT_one (i := 18) (by kernel_rfl) rfl (fun K hK => ?_)
              go_simp
              go_at_call 25
              refine (HRT.out _ (bext HB4.out hHeld HB4.out.size)).mono ?_
              rintro e10 w10 ⟨rfl, hx10⟩
              have B10 := bext hHeld hx10 hHeld.size
              clear hx10
              refine hK.out _ _ (B10) (fun hHeld => ?_)
              clear hK K
              try simp only [List.getElem_toArray, List.getElem_cons_zero, List.getElem_cons_succ, Act.put, List.setIfInBounds_toArray, List.set_cons_zero, List.set_cons_succ]
              refine wpAnyT_take (i := 24) (v := ?v22) [] rfl (by kernel_rfl) (fun _ _ _ h => h) (Or.inl ⟨by rfl, ?hy22⟩) hHeld ?rst22
              case hy22 => (intro wx hSw; obtain ⟨q1, q2, q3, q4, q5, q6, q7⟩ := HF7.out wx hSw; go_simp; try (with_reducible rfl))
              try simp only [List.getElem_toArray, List.getElem_cons_zero, List.getElem_cons_succ, Act.put, List.setIfInBounds_toArray, List.set_cons_zero, List.set_cons_succ]
              refine wpAnyT_last (by kernel_rfl) (by kernel_rfl) rfl (fun K hK => ?_)
              go_simp
              refine hK.out _ _ ?_
              clear hK K
              go_wp2_with (fail)
              go_meet
              case rel => exact ⟨false, rfl, (fun _ => HYE.out), (fun h => nomatch h), hHeld⟩
            · have HNE := Lib.hid (fun h => hvp (HFD.out.2 h))
              have tv : (v == p) = false := by simpa using hvp
              have tv2 : (v != p) = true := by simpa using hvp
              clear hvp
              refine wp_region_T (S := fun W => Below w4.heap.size w4 W) 25 (by kernel_rfl) (ext_drew _) (fun hHeld => ?_)
              refine wpAnyT_take (i := 0) (v := ?v23) [14, 13, 3, 1] rfl (by kernel_rfl) (fun _ _ _ h => h) (Or.inl ⟨by rfl, ?hy23⟩) hHeld ?rst23
              case hy23 => (intro wx hSw; obtain ⟨q1, q2, q3, q4, q5, q6, q7⟩ := HF7.out wx hSw; go_simp; try (with_reducible rfl))
              try simp only [List.getElem_toArray, List.getElem_cons_zero, Act.put, List.setIfInBounds_toArray, List.set_cons_zero, List.set_cons_succ]
              refine wpAnyT_one (i := 1) (by kernel_rfl) rfl (fun K hK => ?_)
              go_simp
              go_at_call 23
              refine (HRC.out _).mono ?_
              rintro e8 w8 ⟨rfl, hx8⟩
              have B8 := bext hHeld hx8 hHeld.size
              clear hx8
              refine hK.out _ _ (B8) (fun hHeld => ?_)
              clear hK K
              try simp only [List.getElem_toArray, List.getElem_cons_zero, List.getElem_cons_succ, Act.put, List.setIfInBounds_toArray, List.set_cons_zero, List.set_cons_succ]
              refine wpAnyT_take (i := 2) (v := ?v24) [14, 13, 3] rfl (by kernel_rfl) (fun _ _ _ h => h) (Or.inl ⟨by rfl, ?hy24⟩) hHeld ?rst24
              case hy24 => (intro wx hSw; obtain ⟨q1, q2, q3, q4, q5, q6, q7⟩ := HF7.out wx hSw; go_simp; try (with_reducible rfl))
              try simp only [List.getElem_toArray, List.getElem_cons_zero, List.getElem_cons_succ, Act.put, List.setIfInBounds_toArray, List.set_cons_zero, List.set_cons_succ]
              refine wpAnyT_take (i := 3) (v := ?v25) [14, 13] rfl (by kernel_rfl) (fun _ _ _ h => h) (Or.inl ⟨by rfl, ?hy25⟩) hHeld ?rst25
              case hy25 => (intro wx hSw; obtain ⟨q1, q2, q3, q4, q5, q6, q7⟩ := HF7.out wx hSw; go_simp; try (with_reducible rfl))
              try simp only [List.getElem_toArray, List.getElem_cons_zero, List.getElem_cons_succ, Act.put, List.setIfInBounds_toArray, List.set_cons_zero, List.set_cons_succ]
              refine wpAnyT_take (i := 4) (v := ?v26) [14, 11] rfl (by kernel_rfl) (fun _ _ _ h => h) (Or.inl ⟨by rfl, ?hy26⟩) hHeld ?rst26
              case hy26 => (intro wx hSw; obtain ⟨q1, q2, q3, q4, q5, q6, q7⟩ := HF7.out wx hSw; go_simp; try (with_reducible rfl))
              try simp only [List.getElem_toArray, List.getElem_cons_zero, List.getElem_cons_succ, Act.put, List.setIfInBounds_toArray, List.set_cons_zero, List.set_cons_succ]
              refine wpAnyT_take (i := 5) (v := ?v27) [14, 11, 8, 7, 6] rfl (by kernel_rfl) (fun _ _ _ h => h) (Or.inl ⟨by rfl, ?hy27⟩) hHeld ?rst27
              case hy27 => (intro wx hSw; obtain ⟨q1, q2, q3, q4, q5, q6, q7⟩ := HF7.out wx hSw; go_simp; try (with_reducible rfl))
              try simp only [List.getElem_toArray, List.getElem_cons_zero, List.getElem_cons_succ, Act.put, List.setIfInBounds_toArray, List.set_cons_zero, List.set_cons_succ]
              refine wpAnyT_take (i := 6) (v := ?v28) [14, 11, 8, 7] rfl (by kernel_rfl) (fun _ _ _ h => h) (Or.inl ⟨by rfl, ?hy28⟩) hHeld ?rst28
              case hy28 => (intro wx hSw; obtain ⟨q1, q2, q3, q4, q5, q6, q7⟩ := HF7.out wx hSw; go_simp; try (with_reducible rfl))
              try simp only [List.getElem_toArray, List.getElem_cons_zero, List.getElem_cons_succ, Act.put, List.setIfInBounds_toArray, List.set_cons_zero, List.set_cons_succ]
              refine wpAnyT_take (i := 7) (v := ?v29) [14, 11, 8] rfl (by kernel_rfl) (fun _ _ _ h => h) (Or.inl ⟨by rfl, ?hy29⟩) hHeld ?rst29
              case hy29 => (intro wx hSw; obtain ⟨q1, q2, q3, q4, q5, q6, q7⟩ := HF7.out wx hSw; go_simp; try (with_reducible rfl))
              try simp only [List.getElem_toArray, List.getElem_cons_zero, List.getElem_cons_succ, Act.put, List.setIfInBounds_toArray, List.set_cons_zero, List.set_cons_succ]
              refine wpAnyT_take (i := 8) (v := ?v30) [14, 11] rfl (by kernel_rfl) (fun _ _ _ h => h) (Or.inl ⟨by rfl, ?hy30⟩) hHeld ?rst30
              case hy30 => (intro wx hSw; obtain ⟨q1, q2, q3, q4, q5, q6, q7⟩ := HF7.out wx hSw; go_simp; try (with_reducible rfl))
              try simp only [List.getElem_toArray, List.getElem_cons_zero, List.getElem_cons_succ, Act.put, List.setIfInBounds_toArray, List.set_cons_zero, List.set_cons_succ]
              refine wpAnyT_take (i := 9) (v := ?v31) [14, 11, 10] rfl (by kernel_rfl) (fun _ _ _ h => h) (Or.inl ⟨by rfl, ?hy31⟩) hHeld ?rst31
              case hy31 => (intro wx hSw; obtain ⟨q1, q2, q3, q4, q5, q6, q7⟩ := HF7.out wx hSw; go_simp; try (with_reducible rfl))
              try simp only [List.getElem_toArray, List.getElem_cons_zero, List.getElem_cons_succ, Act.put, List.setIfInBounds_toArray, List.set_cons_zero, List.set_cons_succ]
              refine wpAnyT_take (i := 10) (v := ?v32) [14, 11] rfl (by kernel_rfl) (fun _ _ _ h => h) (Or.inl ⟨by rfl, ?hy32⟩) hHeld ?rst32
              case hy32 => (intro wx hSw; obtain ⟨q1, q2, q3, q4, q5, q6, q7⟩ := HF7.out wx hSw; go_simp; try (with_reducible rfl))
              try simp only [List.getElem_toArray, List.getElem_cons_zero, List.getElem_cons_succ, Act.put, List.setIfInBounds_toArray, List.set_cons_zero, List.set_cons_succ]
              refine wpAnyT_one (i := 11) (by kernel_rfl) rfl (fun K hK => ?_)
              go_simp
              go_at_call 24
              refine (HLI.out _).mono ?_
              rintro e9 w9 ⟨rfl, hx9⟩
              have B9 := bext hHeld hx9 hHeld.size
              clear hx9
              refine hK.out _ _ (B9) (fun hHeld => ?_)
              clear hK K
              try simp only [List.getElem_toArray, List.getElem_cons_zero, List.getElem_cons_succ, Act.put, List.setIfInBounds_toArray, List.set_cons_zero, List.set_cons_succ]
              refine wpAnyT_take (i := 12) (v := ?v33) [14, 13] rfl (by kernel_rfl) (fun _ _ _ h => h) (Or.inl ⟨by rfl, ?hy33⟩) hHeld ?rst33
              case hy33 => (intro wx hSw; obtain ⟨q1, q2, q3, q4, q5, q6, q7⟩ := HF7.out wx hSw; go_simp; try (with_reducible rfl))
              try simp only [List.getElem_toArray, List.getElem_cons_zero, List.getElem_cons_succ, Act.put, List.setIfInBounds_toArray, List.set_cons_zero, List.set_cons_succ]
              refine wpAnyT_take (i := 13) (v := ?v34) [14] rfl (by kernel_rfl) (fun _ _ _ h => h) (Or.inl ⟨by rfl, ?hy34⟩) hHeld ?rst34
              case hy34 => (intro wx hSw; obtain ⟨q1, q2, q3, q4, q5, q6, q7⟩ := HF7.out wx hSw; go_simp; try (with_reducible rfl))
              try simp only [List.getElem_toArray, List.getElem_cons_zero, List.getElem_cons_succ, Act.put, List.setIfInBounds_toArray, List.set_cons_zero, List.set_cons_succ]
              refine wpAnyT_take (i := 14) (v := ?v35) [] rfl (by kernel_rfl) (fun _ _ _ h => h) (Or.inl ⟨by rfl, ?hy35⟩) hHeld ?rst35
              case hy35 => (intro wx hSw; obtain ⟨q1, q2, q3, q4, q5, q6, q7⟩ := HF7.out wx hSw; go_simp; try (with_reducible rfl))
              try simp only [List.getElem_toArray, List.getElem_cons_zero, List.getElem_cons_succ, Act.put, List.setIfInBounds_toArray, List.set_cons_zero, List.set_cons_succ]
              refine wpAnyT_take (i := 15) (v := ?v36) [24, 18] rfl (by kernel_rfl) (fun _ _ _ h => h) (Or.inl ⟨by rfl, ?hy36⟩) hHeld ?rst36
              case hy36 => (intro wx hSw; obtain ⟨q1, q2, q3, q4, q5, q6, q7⟩ := HF7.out wx hSw; go_simp; try (with_reducible rfl))
              try simp only [List.getElem_toArray, List.getElem_cons_zero, List.getElem_cons_succ, Act.put, List.setIfInBounds_toArray, List.set_cons_zero, List.set_cons_succ]
              refine wpAnyT_take (i := 16) (v := ?v37) [24, 18] rfl (by kernel_rfl) (fun _ _ _ h => h) (Or.inl ⟨by rfl, ?hy37⟩) hHeld ?rst37
              case hy37 => (intro wx hSw; obtain ⟨q1, q2, q3, q4, q5, q6, q7⟩ := HF7.out wx hSw; go_simp; try (with_reducible rfl))
              try simp only [List.getElem_toArray, List.getElem_cons_zero, List.getElem_cons_succ, Act.put, List.setIfInBounds_toArray, List.set_cons_zero, List.set_cons_succ]
              refine wpAnyT_take (i := 17) (v := ?v38) [24, 18] rfl (by kernel_rfl) (fun _ _ _ h => h) (Or.inl ⟨by rfl, ?hy38⟩) hHeld ?rst38
              case hy38 => (intro wx hSw; obtain ⟨q1, q2, q3, q4, q5, q6, q7⟩ := HF7.out wx hSw; go_simp; try (with_reducible rfl))
              try simp only [List.getElem_toArray, List.getElem_cons_zero, List.getElem_cons_succ, Act.put, List.setIfInBounds_toArray, List.set_cons_zero, List.set_cons_succ]
              refine wpAnyT_take (i := 19) (v := ?v39) [24, 23, 20] rfl (by kernel_rfl) (fun _ _ _ h => h) (Or.inl ⟨by rfl, ?hy39⟩) hHeld ?rst39
              case hy39 => (intro wx hSw; obtain ⟨q1, q2, q3, q4, q5, q6, q7⟩ := HF7.out wx hSw; go_simp; try (with_reducible rfl))
              try simp only [List.getElem_toArray, List.getElem_cons_zero, List.getElem_cons_succ, Act.put, List.setIfInBounds_toArray, List.set_cons_zero, List.set_cons_succ]
              refine wpAnyT_take (i := 20) (v := ?v40) [24, 23] rfl (by kernel_rfl) (fun _ _ _ h => h) (Or.inl ⟨by rfl, ?hy40⟩) hHeld ?rst40
              case hy40 => (intro wx hSw; obtain ⟨q1, q2, q3, q4, q5, q6, q7⟩ := HF7.out wx hSw; go_simp; try (with_reducible rfl))
              try simp only [List.getElem_toArray, List.getElem_cons_zero, List.getElem_cons_succ, Act.put, List.setIfInBounds_toArray, List.set_cons_zero, List.set_cons_succ]
              refine wpAnyT_take (i := 21) (v := ?v41) [24, 23, 22] rfl (by kernel_rfl) (fun _ _ _ h => h) (Or.inl ⟨by rfl, ?hy41⟩) hHeld ?rst41
              case hy41 => (intro wx hSw; obtain ⟨q1, q2, q3, q4, q5, q6, q7⟩ := HF7.out wx hSw; go_simp; try (with_reducible rfl))
              try simp only [List.getElem_toArray, List.getElem_cons_zero, List.getElem_cons_succ, Act.put, List.setIfInBounds_toArray, List.set_cons_zero, List.set_cons_succ]
              refine wpAnyT_take (i := 22) (v := ?v42) [24, 23] rfl (by kernel_rfl) (fun _ _ _ h => h) (Or.inl ⟨by rfl, ?hy42⟩) hHeld ?rst42
              case hy42 => (intro wx hSw; obtain ⟨q1, q2, q3, q4, q5, q6, q7⟩ := HF7.out wx hSw; go_simp; try (with_reducible rfl))
              try simp only [List.getElem_toArray, List.getElem_cons_zero, List.getElem_cons_succ, Act.put, List.setIfInBounds_toArray, List.set_cons_zero, List.set_cons_succ]
              refine wpAnyT_take (i := 23) (v := ?v43) [24] rfl (by kernel_rfl) (fun _ _ _ h => h) (Or.inl ⟨by rfl, ?hy43⟩) hHeld ?rst43
              case hy43 => (intro wx hSw; obtain ⟨q1, q2, q3, q4, q5, q6, q7⟩ := HF7.out wx hSw; go_simp; try (with_reducible rfl))
              try simp only [List.getElem_toArray, List.getElem_cons_zero, List.getElem_cons_succ, Act.put, List.setIfInBounds_toArray, List.set_cons_zero, List.set_cons_succ]
              refine wpAnyT_one (i := 18) (by kernel_rfl) rfl (fun K hK => ?_)
              go_simp
              go_at_call 25
              refine (HRT.out _ (bext HB4.out hHeld HB4.out.size)).mono ?_
              rintro e10 w10 ⟨rfl, hx10⟩
              have B10 := bext hHeld hx10 hHeld.size
              clear hx10
              refine hK.out _ _ (B10) (fun hHeld => ?_)
              clear hK K
              try simp only [List.getElem_toArray, List.getElem_cons_zero, List.getElem_cons_succ, Act.put, List.setIfInBounds_toArray, List.set_cons_zero, List.set_cons_succ]
              refine wpAnyT_take (i := 24) (v := ?v44) [] rfl (by kernel_rfl) (fun _ _ _ h => h) (Or.inl ⟨by rfl, ?hy44⟩) hHeld ?rst44
              case hy44 => (intro wx hSw; obtain ⟨q1, q2, q3, q4, q5, q6, q7⟩ := HF7.out wx hSw; go_simp; try (with_reducible rfl))
              try simp only [List.getElem_toArray, List.getElem_cons_zero, List.getElem_cons_succ, Act.put, List.setIfInBounds_toArray, List.set_cons_zero, List.set_cons_succ]
              refine wpAnyT_last (by kernel_rfl) (by kernel_rfl) rfl (fun K hK => ?_)
              go_simp
              refine hK.out _ _ ?_
              clear hK K
              go_wp2_with (fail)
              go_meet
              case rel => exact ⟨true, rfl, (fun h => nomatch h), fun _ => HNE.out, hHeld⟩
          · rw [decide_eq_false hrin] at HLI
            have HNE := Lib.hid (fun h : FullR l g x y a b => hrin (by rw [HN.out]; exact h.2.1))
            clear hrok hrin
            refine wp_region_T (S := fun W => Below w4.heap.size w4 W) 25 (by kernel_rfl) (ext_drew _) (fun hHeld => ?_)
            refine wpAnyT_take (i := 0) (v := ?v45) [14, 13, 3, 1] rfl (by kernel_rfl) (fun _ _ _ h => h) (Or.inl ⟨by rfl, ?hy45⟩) hHeld ?rst45
            case hy45 => (intro wx hSw; obtain ⟨q1, q2, q3, q4, q5, q6, q7⟩ := HF7.out wx hSw; go_simp; try (with_reducible rfl))
            try simp only [List.getElem_toArray, List.getElem_cons_zero, Act.put, List.setIfInBounds_toArray, List.set_cons_zero, List.set_cons_succ]
            refine wpAnyT_one (i := 1) (by kernel_rfl) rfl (fun K hK => ?_)
            go_simp
            go_at_call 23
            refine (HRC.out _).mono ?_
            rintro e8 w8 ⟨rfl, hx8⟩
            have B8 := bext hHeld hx8 hHeld.size
            clear hx8
            refine hK.out _ _ (B8) (fun hHeld => ?_)
            clear hK K
            try simp only [List.getElem_toArray, List.getElem_cons_zero, List.getElem_cons_succ, Act.put, List.setIfInBounds_toArray, List.set_cons_zero, List.set_cons_succ]
            refine wpAnyT_take (i := 2) (v := ?v46) [14, 13, 3] rfl (by kernel_rfl) (fun _ _ _ h => h) (Or.inl ⟨by rfl, ?hy46⟩) hHeld ?rst46
            case hy46 => (intro wx hSw; obtain ⟨q1, q2, q3, q4, q5, q6, q7⟩ := HF7.out wx hSw; go_simp; try (with_reducible rfl))
            try simp only [List.getElem_toArray, List.getElem_cons_zero, List.getElem_cons_succ, Act.put, List.setIfInBounds_toArray, List.set_cons_zero, List.set_cons_succ]
            refine wpAnyT_take (i := 3) (v := ?v47) [14, 13] rfl (by kernel_rfl) (fun _ _ _ h => h) (Or.inl ⟨by rfl, ?hy47⟩) hHeld ?rst47
            case hy47 => (intro wx hSw; obtain ⟨q1, q2, q3, q4, q5, q6, q7⟩ := HF7.out wx hSw; go_simp; try (with_reducible rfl))
            try simp only [List.getElem_toArray, List.getElem_cons_zero, List.getElem_cons_succ, Act.put, List.setIfInBounds_toArray, List.set_cons_zero, List.set_cons_succ]
            refine wpAnyT_take (i := 4) (v := ?v48) [14, 11] rfl (by kernel_rfl) (fun _ _ _ h => h) (Or.inl ⟨by rfl, ?hy48⟩) hHeld ?rst48
            case hy48 => (intro wx hSw; obtain ⟨q1, q2, q3, q4, q5, q6, q7⟩ := HF7.out wx hSw; go_simp; try (with_reducible rfl))
            try simp only [List.getElem_toArray, List.getElem_cons_zero, List.getElem_cons_succ, Act.put, List.setIfInBounds_toArray, List.set_cons_zero, List.set_cons_succ]
            refine wpAnyT_take (i := 5) (v := ?v49) [14, 11, 8, 7, 6] rfl (by kernel_rfl) (fun _ _ _ h => h) (Or.inl ⟨by rfl, ?hy49⟩) hHeld ?rst49
            case hy49 => (intro wx hSw; obtain ⟨q1, q2, q3, q4, q5, q6, q7⟩ := HF7.out wx hSw; go_simp; try (with_reducible rfl))
            try simp only [List.getElem_toArray, List.getElem_cons_zero, List.getElem_cons_succ, Act.put, List.setIfInBounds_toArray, List.set_cons_zero, List.set_cons_succ]
            refine wpAnyT_take (i := 6) (v := ?v50) [14, 11, 8, 7] rfl (by kernel_rfl) (fun _ _ _ h => h) (Or.inl ⟨by rfl, ?hy50⟩) hHeld ?rst50
            case hy50 => (intro wx hSw; obtain ⟨q1, q2, q3, q4, q5, q6, q7⟩ := HF7.out wx hSw; go_simp; try (with_reducible rfl))
            try simp only [List.getElem_toArray, List.getElem_cons_zero, List.getElem_cons_succ, Act.put, List.setIfInBounds_toArray, List.set_cons_zero, List.set_cons_succ]
            refine wpAnyT_take (i := 7) (v := ?v51) [14, 11, 8] rfl (by kernel_rfl) (fun _ _ _ h => h) (Or.inl ⟨by rfl, ?hy51⟩) hHeld ?rst51
            case hy51 => (intro wx hSw; obtain ⟨q1, q2, q3, q4, q5, q6, q7⟩ := HF7.out wx hSw; go_simp; try (with_reducible rfl))
            try simp only [List.getElem_toArray, List.getElem_cons_zero, List.getElem_cons_succ, Act.put, List.setIfInBounds_toArray, List.set_cons_zero, List.set_cons_succ]
            refine wpAnyT_take (i := 8) (v := ?v52) [14, 11] rfl (by kernel_rfl) (fun _ _ _ h => h) (Or.inl ⟨by rfl, ?hy52⟩) hHeld ?rst52
            case hy52 => (intro wx hSw; obtain ⟨q1, q2, q3, q4, q5, q6, q7⟩ := HF7.out wx hSw; go_simp; try (with_reducible rfl))
            try simp only [List.getElem_toArray, List.getElem_cons_zero, List.getElem_cons_succ, Act.put, List.setIfInBounds_toArray, List.set_cons_zero, List.set_cons_succ]
            refine wpAnyT_take (i := 9) (v := ?v53) [14, 11, 10] rfl (by kernel_rfl) (fun _ _ _ h => h) (Or.inl ⟨by rfl, ?hy53⟩) hHeld ?rst53
            case hy53 => (intro wx hSw; obtain ⟨q1, q2, q3, q4, q5, q6, q7⟩ := HF7.out wx hSw; go_simp; try (with_reducible rfl))
            try simp only [List.getElem_toArray, List.getElem_cons_zero, List.getElem_cons_succ, Act.put, List.setIfInBounds_toArray, List.set_cons_zero, List.set_cons_succ]
            refine wpAnyT_take (i := 10) (v := ?v54) [14, 11] rfl (by kernel_rfl) (fun _ _ _ h => h) (Or.inl ⟨by rfl, ?hy54⟩) hHeld ?rst54
            case hy54 => (intro wx hSw; obtain ⟨q1, q2, q3, q4, q5, q6, q7⟩ := HF7.out wx hSw; go_simp; try (with_reducible rfl))
            try simp only [List.getElem_toArray, List.getElem_cons_zero, List.getElem_cons_succ, Act.put, List.setIfInBounds_toArray, List.set_cons_zero, List.set_cons_succ]
            refine wpAnyT_one (i := 11) (by kernel_rfl) rfl (fun K hK => ?_)
            go_simp
            go_at_call 24
            refine (HLI.out _).mono ?_
            rintro e9 w9 ⟨rfl, hx9⟩
            have B9 := bext hHeld hx9 hHeld.size
            clear hx9
            refine hK.out _ _ (B9) (fun hHeld => ?_)
            clear hK K
            try simp only [List.getElem_toArray, List.getElem_cons_zero, List.getElem_cons_succ, Act.put, List.setIfInBounds_toArray, List.set_cons_zero, List.set_cons_succ]
            refine wpAnyT_take (i := 12) (v := ?v55) [14, 13] rfl (by kernel_rfl) (fun _ _ _ h => h) (Or.inl ⟨by rfl, ?hy55⟩) hHeld ?rst55
            case hy55 => (intro wx hSw; obtain ⟨q1, q2, q3, q4, q5, q6, q7⟩ := HF7.out wx hSw; go_simp; try (with_reducible rfl))
            try simp only [List.getElem_toArray, List.getElem_cons_zero, List.getElem_cons_succ, Act.put, List.setIfInBounds_toArray, List.set_cons_zero, List.set_cons_succ]
            refine wpAnyT_take (i := 13) (v := ?v56) [14] rfl (by kernel_rfl) (fun _ _ _ h => h) (Or.inl ⟨by rfl, ?hy56⟩) hHeld ?rst56
            case hy56 => (intro wx hSw; obtain ⟨q1, q2, q3, q4, q5, q6, q7⟩ := HF7.out wx hSw; go_simp; try (with_reducible rfl))
            try simp only [List.getElem_toArray, List.getElem_cons_zero, List.getElem_cons_succ, Act.put, List.setIfInBounds_toArray, List.set_cons_zero, List.set_cons_succ]
            refine wpAnyT_take (i := 14) (v := ?v57) [] rfl (by kernel_rfl) (fun _ _ _ h => h) (Or.inl ⟨by rfl, ?hy57⟩) hHeld ?rst57
            case hy57 => (intro wx hSw; obtain ⟨q1, q2, q3, q4, q5, q6, q7⟩ := HF7.out wx hSw; go_simp; try (with_reducible rfl))
            try simp only [List.getElem_toArray, List.getElem_cons_zero, List.getElem_cons_succ, Act.put, List.setIfInBounds_toArray, List.set_cons_zero, List.set_cons_succ]
            refine wpAnyT_take (i := 15) (v := undef) [24, 18] rfl (by kernel_rfl) (fun _ _ _ h => h) (Or.inr ⟨by rfl, rfl⟩) hHeld ?_
            try simp only [List.getElem_toArray, List.getElem_cons_zero, List.getElem_cons_succ, Act.put, List.setIfInBounds_toArray, List.set_cons_zero, List.set_cons_succ]
            refine wpAnyT_take (i := 16) (v := undef) [24, 18] rfl (by kernel_rfl) (fun _ _ _ h => h) (Or.inr ⟨by rfl, rfl⟩) hHeld ?_
            try simp only [List.getElem_toArray, List.getElem_cons_zero, List.getElem_cons_succ, Act.put, List.setIfInBounds_toArray, List.set_cons_zero, List.set_cons_succ]
            refine wpAnyT_take (i := 17) (v := undef) [24, 18] rfl (by kernel_rfl) (fun _ _ _ h => h) (Or.inr ⟨by rfl, rfl⟩) hHeld ?_
            try simp only [List.getElem_toArray, List.getElem_cons_zero, List.getElem_cons_succ, Act.put, List.setIfInBounds_toArray, List.set_cons_zero, List.set_cons_succ]
            refine wpAnyT_take (i := 18) (v := undef) [24] rfl (by kernel_rfl) (fun _ _ _ h => h) (Or.inr ⟨by rfl, rfl⟩) hHeld ?_
            try simp only [List.getElem_toArray, List.getElem_cons_zero, List.getElem_cons_succ, Act.put, List.setIfInBounds_toArray, List.set_cons_zero, List.set_cons_succ]
            refine wpAnyT_take (i := 19) (v := undef) [24, 23, 20] rfl (by kernel_rfl) (fun _ _ _ h => h) (Or.inr ⟨by rfl, rfl⟩) hHeld ?_
            try simp only [List.getElem_toArray, List.getElem_cons_zero, List.getElem_cons_succ, Act.put, List.setIfInBounds_toArray, List.set_cons_zero, List.set_cons_succ]
            refine wpAnyT_take (i := 20) (v := undef) [24, 23] rfl (by kernel_rfl) (fun _ _ _ h => h) (Or.inr ⟨by rfl, rfl⟩) hHeld ?_
            try simp only [List.getElem_toArray, List.getElem_cons_zero, List.getElem_cons_succ, Act.put, List.setIfInBounds_toArray, List.set_cons_zero, List.set_cons_succ]
            refine wpAnyT_take (i := 21) (v := undef) [24, 23, 22] rfl (by kernel_rfl) (fun _ _ _ h => h) (Or.inr ⟨by rfl, rfl⟩) hHeld ?_
            try simp only [List.getElem_toArray, List.getElem_cons_zero, List.getElem_cons_succ, Act.put, List.setIfInBounds_toArray, List.set_cons_zero, List.set_cons_succ]
            refine wpAnyT_take (i := 22) (v := undef) [24, 23] rfl (by kernel_rfl) (fun _ _ _ h => h) (Or.inr ⟨by rfl, rfl⟩) hHeld ?_
            try simp only [List.getElem_toArray, List.getElem_cons_zero, List.getElem_cons_succ, Act.put, List.setIfInBounds_toArray, List.set_cons_zero, List.set_cons_succ]
            refine wpAnyT_take (i := 23) (v := undef) [24] rfl (by kernel_rfl) (fun _ _ _ h => h) (Or.inr ⟨by rfl, rfl⟩) hHeld ?_
            try simp only [List.getElem_toArray, List.getElem_cons_zero, List.getElem_cons_succ, Act.put, List.setIfInBounds_toArray, List.set_cons_zero, List.set_cons_succ]
            refine wpAnyT_take (i := 24) (v := undef) [] rfl (by kernel_rfl) (fun _ _ _ h => h) (Or.inr ⟨by rfl, rfl⟩) hHeld ?_
            try simp only [List.getElem_toArray, List.getElem_cons_zero, List.getElem_cons_succ, Act.put, List.setIfInBounds_toArray, List.set_cons_zero, List.set_cons_succ]
            refine wpAnyT_last (by kernel_rfl) (by kernel_rfl) rfl (fun K hK => ?_)
            go_simp
            refine hK.out _ _ ?_
            clear hK K
            go_wp2_with (fail)
            go_meet
            case rel => exact ⟨true, rfl, (fun h => nomatch h), fun _ => HNE.out, hHeld⟩
        · rw [decide_eq_false hrok] at HRC
          have HNE := Lib.hid (fun h : FullR l g x y a b => hrok h.1)
          clear hrok
          refine wp_region_T (S := fun W => Below w4.heap.size w4 W) 25 (by kernel_rfl) (ext_drew _) (fun hHeld => ?_)
          refine wpAnyT_take (i := 0) (v := ?v58) [14, 13, 3, 1] rfl (by kernel_rfl) (fun _ _ _ h => h) (Or.inl ⟨by rfl, ?hy58⟩) hHeld ?rst58
          case hy58 => (intro wx hSw; obtain ⟨q1, q2, q3, q4, q5, q6, q7⟩ := HF7.out wx hSw; go_simp; try (with_reducible rfl))
          try simp only [List.getElem_toArray, List.getElem_cons_zero, Act.put, List.setIfInBounds_toArray, List.set_cons_zero, List.set_cons_succ]
          refine wpAnyT_one (i := 1) (by kernel_rfl) rfl (fun K hK => ?_)
          go_simp
          go_at_call 23
          refine (HRC.out _).mono ?_
          rintro e8 w8 ⟨rfl, hx8⟩
          have B8 := bext hHeld hx8 hHeld.size
          clear hx8
          refine hK.out _ _ (B8) (fun hHeld => ?_)
          clear hK K
          try simp only [List.getElem_toArray, List.getElem_cons_zero, List.getElem_cons_succ, Act.put, List.setIfInBounds_toArray, List.set_cons_zero, List.set_cons_succ]
          refine wpAnyT_take (i := 2) (v := ?v59) [14, 13, 3] rfl (by kernel_rfl) (fun _ _ _ h => h) (Or.inl ⟨by rfl, ?hy59⟩) hHeld ?rst59
          case hy59 => (intro wx hSw; obtain ⟨q1, q2, q3, q4, q5, q6, q7⟩ := HF7.out wx hSw; go_simp; try (with_reducible rfl))
          try simp only [List.getElem_toArray, List.getElem_cons_zero, List.getElem_cons_succ, Act.put, List.setIfInBounds_toArray, List.set_cons_zero, List.set_cons_succ]
          refine wpAnyT_take (i := 3) (v := ?v60) [14, 13] rfl (by kernel_rfl) (fun _ _ _ h => h) (Or.inl ⟨by rfl, ?hy60⟩) hHeld ?rst60
          case hy60 => (intro wx hSw; obtain ⟨q1, q2, q3, q4, q5, q6, q7⟩ := HF7.out wx hSw; go_simp; try (with_reducible rfl))
          try simp only [List.getElem_toArray, List.getElem_cons_zero, List.getElem_cons_succ, Act.put, List.setIfInBounds_toArray, List.set_cons_zero, List.set_cons_succ]
          refine wpAnyT_take (i := 4) (v := undef) [14, 11] rfl (by kernel_rfl) (fun _ _ _ h => h) (Or.inr ⟨by rfl, rfl⟩) hHeld ?_
          try simp only [List.getElem_toArray, List.getElem_cons_zero, List.getElem_cons_succ, Act.put, List.setIfInBounds_toArray, List.set_cons_zero, List.set_cons_succ]
          refine wpAnyT_take (i := 5) (v := undef) [14, 11, 8, 7, 6] rfl (by kernel_rfl) (fun _ _ _ h => h) (Or.inr ⟨by rfl, rfl⟩) hHeld ?_
          try simp only [List.getElem_toArray, List.getElem_cons_zero, List.getElem_cons_succ, Act.put, List.setIfInBounds_toArray, List.set_cons_zero, List.set_cons_succ]
          refine wpAnyT_take (i := 6) (v := undef) [14, 11, 8, 7] rfl (by kernel_rfl) (fun _ _ _ h => h) (Or.inr ⟨by rfl, rfl⟩) hHeld ?_
          try simp only [List.getElem_toArray, List.getElem_cons_zero, List.getElem_cons_succ, Act.put, List.setIfInBounds_toArray, List.set_cons_zero, List.set_cons_succ]
          refine wpAnyT_take (i := 7) (v := undef) [14, 11, 8] rfl (by kernel_rfl) (fun _ _ _ h => h) (Or.inr ⟨by rfl, rfl⟩) hHeld ?_
          try simp only [List.getElem_toArray, List.getElem_cons_zero, List.getElem_cons_succ, Act.put, List.setIfInBounds_toArray, List.set_cons_zero, List.set_cons_succ]
          refine wpAnyT_take (i := 8) (v := undef) [14, 11] rfl (by kernel_rfl) (fun _ _ _ h => h) (Or.inr ⟨by rfl, rfl⟩) hHeld ?_
          try simp only [List.getElem_toArray, List.getElem_cons_zero, List.getElem_cons_succ, Act.put, List.setIfInBounds_toArray, List.set_cons_zero, List.set_cons_succ]
          refine wpAnyT_take (i := 9) (v := undef) [14, 11, 10] rfl (by kernel_rfl) (fun _ _ _ h => h) (Or.inr ⟨by rfl, rfl⟩) hHeld ?_
          try simp only [List.getElem_toArray, List.getElem_cons_zero, List.getElem_cons_succ, Act.put, List.setIfInBounds_toArray, List.set_cons_zero, List.set_cons_succ]
          refine wpAnyT_take (i := 10) (v := undef) [14, 11] rfl (by kernel_rfl) (fun _ _ _ h => h) (Or.inr ⟨by rfl, rfl⟩) hHeld ?_
          try simp only [List.getElem_toArray, List.getElem_cons_zero, List.getElem_cons_succ, Act.put, List.setIfInBounds_toArray, List.set_cons_zero, List.set_cons_succ]
          refine wpAnyT_take (i := 11) (v := undef) [14] rfl (by kernel_rfl) (fun _ _ _ h => h) (Or.inr ⟨by rfl, rfl⟩) hHeld ?_
          try simp only [List.getElem_toArray, List.getElem_cons_zero, List.getElem_cons_succ, Act.put, List.setIfInBounds_toArray, List.set_cons_zero, List.set_cons_succ]
          refine wpAnyT_take (i := 12) (v := undef) [14, 13] rfl (by kernel_rfl) (fun _ _ _ h => h) (Or.inr ⟨by rfl, rfl⟩) hHeld ?_
          try simp only [List.getElem_toArray, List.getElem_cons_zero, List.getElem_cons_succ, Act.put, List.setIfInBounds_toArray, List.set_cons_zero, List.set_cons_succ]
          refine wpAnyT_take (i := 13) (v := ?v61) [14] rfl (by kernel_rfl) (fun _ _ _ h => h) (Or.inl ⟨by rfl, ?hy61⟩) hHeld ?rst61
          case hy61 => (intro wx hSw; obtain ⟨q1, q2, q3, q4, q5, q6, q7⟩ := HF7.out wx hSw; go_simp; try (with_reducible rfl))
          try simp only [List.getElem_toArray, List.getElem_cons_zero, List.getElem_cons_succ, Act.put, List.setIfInBounds_toArray, List.set_cons_zero, List.set_cons_succ]
          refine wpAnyT_take (i := 14) (v := ?v62) [] rfl (by kernel_rfl) (fun _ _ _ h => h) (Or.inl ⟨by rfl, ?hy62⟩) hHeld ?rst62
          case hy62 => (intro wx hSw; obtain ⟨q1, q2, q3, q4, q5, q6, q7⟩ := HF7.out wx hSw; go_simp; try (with_reducible rfl))
          try simp only [List.getElem_toArray, List.getElem_cons_zero, List.getElem_cons_succ, Act.put, List.setIfInBounds_toArray, List.set_cons_zero, List.set_cons_succ]
          refine wpAnyT_take (i := 15) (v := undef) [24, 18] rfl (by kernel_rfl) (fun _ _ _ h => h) (Or.inr ⟨by rfl, rfl⟩) hHeld ?_
          try simp only [List.getElem_toArray, List.getElem_cons_zero, List.getElem_cons_succ, Act.put, List.setIfInBounds_toArray, List.set_cons_zero, List.set_cons_succ]
          refine wpAnyT_take (i := 16) (v := undef) [24, 18] rfl (by kernel_rfl) (fun _ _ _ h => h) (Or.inr ⟨by rfl, rfl⟩) hHeld ?_
          try simp only [List.getElem_toArray, List.getElem_cons_zero, List.getElem_cons_succ, Act.put, List.setIfInBounds_toArray, List.set_cons_zero, List.set_cons_succ]
          refine wpAnyT_take (i := 17) (v := undef) [24, 18] rfl (by kernel_rfl) (fun _ _ _ h => h) (Or.inr ⟨by rfl, rfl⟩) hHeld ?_
          try simp only [List.getElem_toArray, List.getElem_cons_zero, List.getElem_cons_succ, Act.put, List.setIfInBounds_toArray, List.set_cons_zero, List.set_cons_succ]
          refine wpAnyT_take (i := 18) (v := undef) [24] rfl (by kernel_rfl) (fun _ _ _ h => h) (Or.inr ⟨by rfl, rfl⟩) hHeld ?_
          try simp only [List.getElem_toArray, List.getElem_cons_zero, List.getElem_cons_succ, Act.put, List.setIfInBounds_toArray, List.set_cons_zero, List.set_cons_succ]
          refine wpAnyT_take (i := 19) (v := undef) [24, 23, 20] rfl (by kernel_rfl) (fun _ _ _ h => h) (Or.inr ⟨by rfl, rfl⟩) hHeld ?_
          try simp only [List.getElem_toArray, List.getElem_cons_zero, List.getElem_cons_succ, Act.put, List.setIfInBounds_toArray, List.set_cons_zero, List.set_cons_succ]
          refine wpAnyT_take (i := 20) (v := undef) [24, 23] rfl (by kernel_rfl) (fun _ _ _ h => h) (Or.inr ⟨by rfl, rfl⟩) hHeld ?_
          try simp only [List.getElem_toArray, List.getElem_cons_zero, List.getElem_cons_succ, Act.put, List.setIfInBounds_toArray, List.set_cons_zero, List.set_cons_succ]
          refine wpAnyT_take (i := 21) (v := undef) [24, 23, 22] rfl (by kernel_rfl) (fun _ _ _ h => h) (Or.inr ⟨by rfl, rfl⟩) hHeld ?_
          try simp only [List.getElem_toArray, List.getElem_cons_zero, List.getElem_cons_succ, Act.put, List.setIfInBounds_toArray, List.set_cons_zero, List.set_cons_succ]
          refine wpAnyT_take (i := 22) (v := undef) [24, 23] rfl (by kernel_rfl) (fun _ _ _ h => h) (Or.inr ⟨by rfl, rfl⟩) hHeld ?_
          try simp only [List.getElem_toArray, List.getElem_cons_zero, List.getElem_cons_succ, Act.put, List.setIfInBounds_toArray, List.set_cons_zero, List.set_cons_succ]
          refine wpAnyT_take (i := 23) (v := undef) [24] rfl (by kernel_rfl) (fun _ _ _ h => h) (Or.inr ⟨by rfl, rfl⟩) hHeld ?_
          try simp only [List.getElem_toArray, List.getElem_cons_zero, List.getElem_cons_succ, Act.put, List.setIfInBounds_toArray, List.set_cons_zero, List.set_cons_succ]
          refine wpAnyT_take (i := 24) (v := undef) [] rfl (by kernel_rfl) (fun _ _ _ h => h) (Or.inr ⟨by rfl, rfl⟩) hHeld ?_
          try simp only [List.getElem_toArray, List.getElem_cons_zero, List.getElem_cons_succ, Act.put, List.setIfInBounds_toArray, List.set_cons_zero, List.set_cons_succ]
          refine wpAnyT_last (by kernel_rfl) (by kernel_rfl) rfl (fun K hK => ?_)
          go_simp
          refine hK.out _ _ ?_
          clear hK K
          go_wp2_with (fail)
          go_meet
          case rel => exact ⟨true, rfl, (fun h => nomatch h), fun _ => HNE.out, hHeld⟩
      case rest =>
        obtain ⟨c, rfl, hf, ht, hb⟩ := hcut
        have HB5 := Lib.hid (bext HB4.out hb HB4.out.size)
        have HX5 := Lib.hid hb
        clear hb
        rename_i hKc
        refine hKc _ _ ?_
        cases c
        · have HF := Lib.hid (hf rfl)
          clear hf ht
          have hro := HF.out.1
          have hri := HF.out.2.1
          have hus := HFU.out HF.out
          unfold RcOk at hro
          unfold RcIn at hri
          obtain ⟨an, rfl⟩ := Int.eq_ofNat_of_zero_le (show 0 ≤ a by omega)
          obtain ⟨bn, rfl⟩ := Int.eq_ofNat_of_zero_le (show 0 ≤ b by omega)
          obtain ⟨xn, rfl⟩ := Int.eq_ofNat_of_zero_le (show 0 ≤ x by omega)
          obtain ⟨yn, rfl⟩ := Int.eq_ofNat_of_zero_le (show 0 ≤ y by omega)
          simp only [Int.toNat_natCast] at hus
          have hinn := Fu.inn HINN.out hus.1 hus.2.1 hus.2.2.1
          have HUS := Lib.hid hus
          dsimp only at hinn
          have hxa : xn + an ≤ 48 := by omega
          have hyb : yn + bn ≤ 48 := by omega
          have hmi := Fu.inn HINN.out HBT.out.1.1 HBT.out.1.2.1 HBT.out.1.2.2.1
          obtain ⟨p, hp⟩ : ∃ p, p = an * bn := ⟨_, rfl⟩
          obtain ⟨pm, hpm⟩ : ∃ pm, pm = m.a * m.b := ⟨_, rfl⟩
          have hpI : (an : Int) * (bn : Int) = (p : Int) := by rw [hp]; push_cast; rfl
          have hpmI : (m.a : Int) * (m.b : Int) = (pm : Int) := by rw [hpm]; push_cast; rfl
          have hp48 : p ≤ 48 * 48 := by rw [hp]; exact Nat.mul_le_mul (by omega) (by omega)
          have hpm48 : pm ≤ 48 * 48 := by rw [hpm]; exact Nat.mul_le_mul (by omega) (by omega)
          have hle : p ≤ pm := by
            have := HBT.out.2 _ hus
            unfold btr at this
            dsimp only at this
            omega
          have HP1 := Lib.hid hp48
          have HP2 := Lib.hid hpm48
          have HP3 := Lib.hid hpI
          have HP4 := Lib.hid hpmI
          have HP5 := Lib.hid hle
          have HALL := Lib.hid (show ConK ms ms.length xn yn an bn from by
            obtain ⟨s, s1, s2, s3, s4, s5, _, _⟩ := within' HINN.out ⟨xn, yn, an, bn⟩ hus.1 hus.2.1 hus.2.2.1
            refine ⟨s, by rw [List.take_length]; exact (HMM.out s).2 s1, s2, s3, s4, s5⟩)
          have HCZ := Lib.hid (conK_zero ms xn yn an bn)
          clear hp hpm hpI hpmI hp48 hpm48 hle hus hro hri hmi hinn hKc
          go_wp2_with (fail)
          go_loopg [93, 11] ms.length (fun gg z v wr => ∃ k : Nat, z = .int .i64 k ∧ k ≤ ms.length ∧ gg = ms.length - k ∧ ∃ c : Bool, v = .bool c ∧ (c = true ↔ ConK ms k xn yn an bn) ∧ Below w4.heap.size w4 wr)
          case atStart => exact ⟨0, rfl, by omega, by omega, false, rfl, ⟨(fun h => nomatch h), fun h => (HCZ.out h).elim⟩, HX5.out⟩
          case round =>
            obtain ⟨k, rfl, hk, hgg, c, rfl, hc2, hb⟩ := hrel
            have HG := Lib.hid hgg
            have HCC := Lib.hid hc2
            have HX6 := Lib.hid hb
            have HB6 := Lib.hid (bext HB4.out hb HB4.out.size)
            clear hgg hc2 hb HX5 HB5
            by_cases hlt : k < ms.length
            · rcases HMS4.out.ext HX6.out with h0 | ⟨sb0, so, rfl, hsb, hcl⟩
              · rw [h0] at hlt; simp at hlt
              obtain ⟨c1, c2, c3, c4⟩ := hcl k hlt
              have hsi := Fu.inn HINN.out ((HMM.out ms[k]).1 (List.getElem_mem _)).1 ((HMM.out ms[k]).1 (List.getElem_mem _)).2.1 ((HMM.out ms[k]).1 (List.getElem_mem _)).2.2.1
              have hsucc := conK_succ (x := xn) (y := yn) (a := an) (b := bn) hlt
              obtain ⟨s, hs⟩ : ∃ s, s = ms[k] := ⟨_, rfl⟩
              rw [← hs] at c1 c2 c3 c4 hsi hsucc
              obtain ⟨sx, sy, sa, sb⟩ := s
              dsimp only at c1 c2 c3 c4 hsi
              unfold Con at hsucc
              dsimp only at hsucc
              have HSU := Lib.hid hsucc
              have hkI : (k : Int) < (ms.length : Int) := by omega
              have hk0 : (0 : Int) ≤ (k : Int) := by omega
              have hs1 : sx + sa ≤ 48 := by omega
              have hs2 : sy + sb ≤ 48 := by omega
              have HXA := Lib.hid (ext_alloc wr (.cells #[.int .i64 (sx : Int), .int .i64 (sy : Int), .int .i64 (sa : Int), .int .i64 (sb : Int)] 31))
              have HSB := Lib.hid (Bk.new 31 wr #[.int .i64 (sx : Int), .int .i64 (sy : Int), .int .i64 (sa : Int), .int .i64 (sb : Int)])
              have HX7 := Lib.hid (bext HX6.out HXA.out HX6.out.size)
              have HLT := Lib.hid hlt
              clear hs hcl hsucc hsi
              go_upto_region 13 with (fail)
              obtain ⟨xb, hxb⟩ : ∃ xb, xb = wr.heap.size := ⟨_, rfl⟩
              obtain ⟨V7, hV7⟩ : ∃ V, V = wr.alloc (.cells #[.int .i64 (sx : Int), .int .i64 (sy : Int), .int .i64 (sa : Int), .int .i64 (sb : Int)] 31) := ⟨_, rfl⟩
              rw [← hxb, ← hV7]
              rw [← hxb, ← hV7] at HSB
              rw [← hV7] at HX7
              clear hxb hV7 HXA HX6 c1 c2 c3 c4 hsb
              obtain ⟨s1, s2, s3⟩ := HSB.out.facts
              obtain ⟨r1, r2, r3⟩ := (HZ4.out.ext HX7.out).facts
              cases c
              · have hcf : ¬ ConK ms k xn yn an bn := fun h => by have := HCC.out.2 h; cases this
                by_cases h1 : sx ≤ xn
                · have h1I : (sx : Int) ≤ (xn : Int) := by omega
                  by_cases h2 : sy ≤ yn
                  · have h2I : (sy : Int) ≤ (yn : Int) := by omega
                    by_cases h3 : xn + an ≤ sx + sa
                    · have h3I : (xn : Int) + (an : Int) ≤ (sx : Int) + (sa : Int) := by omega
                      by_cases h4 : yn + bn ≤ sy + sb
                      · have h4I : (yn : Int) + (bn : Int) ≤ (sy : Int) + (sb : Int) := by omega
                        have HCC2 := Lib.hid (show (true = true ↔ ConK ms (k + 1) xn yn an bn) from by rw [HSU.out]; exact ⟨fun _ => .inr ⟨h1, h2, h3, h4⟩, fun _ => rfl⟩)
                        clear hcf
                        go_wp2_with (fail)
                        go_roundg (ms.length - (k + 1))
                        case measure => have := HG.out; have := HLT.out; omega
                        case rel => exact ⟨k + 1, by go_num, by have := HLT.out; omega, rfl, true, rfl, (by first | exact HCC2.out | simpa using HCC2.out), HX7.out⟩
                      · have h4I : ¬ (yn : Int) + (bn : Int) ≤ (sy : Int) + (sb : Int) := by omega
                        have HCC2 := Lib.hid (show (false = true ↔ ConK ms (k + 1) xn yn an bn) from by rw [HSU.out]; exact ⟨(fun h => nomatch h), fun h => h.elim (fun h => absurd h hcf) (fun h => absurd h.2.2.2 h4)⟩)
                        clear hcf
                        go_wp2_with (fail)
                        go_roundg (ms.length - (k + 1))
                        case measure => have := HG.out; have := HLT.out; omega
                        case rel => exact ⟨k + 1, by go_num, by have := HLT.out; omega, rfl, false, rfl, (by first | exact HCC2.out | simpa using HCC2.out), HX7.out⟩
                    · have h3I : ¬ (xn : Int) + (an : Int) ≤ (sx : Int) + (sa : Int) := by omega
                      have HCC2 := Lib.hid (show (false = true ↔ ConK ms (k + 1) xn yn an bn) from by rw [HSU.out]; exact ⟨(fun h => nomatch h), fun h => h.elim (fun h => absurd h hcf) (fun h => absurd h.2.2.1 h3)⟩)
                      clear hcf
                      go_wp2_with (fail)
                      go_roundg (ms.length - (k + 1))
                      case measure => have := HG.out; have := HLT.out; omega
                      case rel => exact ⟨k + 1, by go_num, by have := HLT.out; omega, rfl, false, rfl, (by first | exact HCC2.out | simpa using HCC2.out), HX7.out⟩
                  · have h2I : ¬ (sy : Int) ≤ (yn : Int) := by omega
                    have HCC2 := Lib.hid (show (false = true ↔ ConK ms (k + 1) xn yn an bn) from by rw [HSU.out]; exact ⟨(fun h => nomatch h), fun h => h.elim (fun h => absurd h hcf) (fun h => absurd h.2.1 h2)⟩)
                    clear hcf
                    go_wp2_with (fail)
                    go_roundg (ms.length - (k + 1))
                    case measure => have := HG.out; have := HLT.out; omega
                    case rel => exact ⟨k + 1, by go_num, by have := HLT.out; omega, rfl, false, rfl, (by first | exact HCC2.out | simpa using HCC2.out), HX7.out⟩
                · have h1I : ¬ (sx : Int) ≤ (xn : Int) := by omega
                  have HCC2 := Lib.hid (show (false = true ↔ ConK ms (k + 1) xn yn an bn) from by rw [HSU.out]; exact ⟨(fun h => nomatch h), fun h => h.elim (fun h => absurd h hcf) (fun h => absurd h.1 h1)⟩)
                  clear hcf
                  go_wp2_with (fail)
                  go_roundg (ms.length - (k + 1))
                  case measure => have := HG.out; have := HLT.out; omega
                  case rel => exact ⟨k + 1, by go_num, by have := HLT.out; omega, rfl, false, rfl, (by first | exact HCC2.out | simpa using HCC2.out), HX7.out⟩
              ·
                have HCC2 := Lib.hid (show (true = true ↔ ConK ms (k + 1) xn yn an bn) from by rw [HSU.out]; exact ⟨fun _ => .inl (HCC.out.1 rfl), fun _ => rfl⟩)
                go_wp2_with (fail)
                go_roundg (ms.length - (k + 1))
                case measure => have := HG.out; have := HLT.out; omega
                case rel => exact ⟨k + 1, by go_num, by have := HLT.out; omega, rfl, true, rfl, (by first | exact HCC2.out | simpa using HCC2.out), HX7.out⟩
            · obtain rfl : k = ms.length := by omega
              obtain rfl : c = true := HCC.out.2 HALL.out
              obtain ⟨r1, r2, r3⟩ := (HZ4.out.ext HX6.out).facts
              obtain ⟨q1, q2, q3⟩ := (HQ4.out.ext HX6.out).facts
              have hpI := HP3.out
              have hpmI := HP4.out
              have hleI : (p : Int) ≤ (pm : Int) := by have := HP5.out; omega
              have hle := HP5.out
              have hp48 := HP1.out
              have hpm48 := HP2.out
              clear hlt
              go_wp2_with (go_at_call 14; refine (awake_any _).mono ?_; rintro e w8 ⟨rfl, hx8⟩)
              (try simp only [Exit.inBlock, Exit.then])
              refine bodyPost_ret (v := .bool true) (by simp [results, Tryd.results6, go_sem]) rfl ?_
              exact ⟨rfl, bext HB6.out hx8 HB6.out.size⟩
        · clear hf ht hKc
          go_wp2_with (go_at_call 14; refine (awake_any _).mono ?_; rintro e w8 ⟨rfl, hx8⟩)
          (try simp only [Exit.inBlock, Exit.then])
          refine bodyPost_ret (v := .bool true) (by simp [results, Tryd.results6, go_sem]) rfl ?_
          exact ⟨rfl, bext HB5.out hx8 HB5.out.size⟩
    · have HLG := Lib.hid (fun W hW => (HLG.out W hW).mono (R' := fun e w' => Below W.heap.size W w' ∧ e = .returned (.tuple #[.agg #[.int .i64 0, .int .i64 0, .int .i64 0, .int .i64 0], .int .i64 7])) (fun e w' hr => ⟨hr.1, hr.2.elim (fun h => absurd HPS.out h.1) (fun h => h.elim (fun h => h.2.2) (fun h => by obtain ⟨_, m, hm, _⟩ := h; exact absurd ⟨m, hm.1⟩ hex))⟩))
      have HNX := Lib.hid hex
      clear hex
      go_enter Tryd.func6, Tryd.ntmps6
      go_upto_region 1 with (fail)
      obtain ⟨rb, hrb⟩ : ∃ rb, rb = w.heap.size := ⟨_, rfl⟩
      obtain ⟨W0, hW0⟩ : ∃ V, V = w.alloc (.cells #[.int .i64 x, .int .i64 y, .int .i64 a, .int .i64 b] 31) := ⟨_, rfl⟩
      rw [← hrb, ← hW0]
      rw [← hrb, ← hW0] at HZ
      rw [← hW0] at HX0
      clear hrb hW0
      go_upto_region 3 with (first
        | (go_at_call 15; refine (HMX.out _ HX0.out).mono ?_; rintro e w1 ⟨hx1, A2, c2, ms, rfl, hml, hms, hmx⟩; have HB1 := Lib.hid (bext HX0.out hx1 HX0.out.size); have HZ1 := Lib.hid (HZ.out.ext hx1); have HMS := Lib.hid hms; have HMM := Lib.hid hmx; clear hx1 hms hmx)
        | (go_at_call 18; refine (HLG.out _ HB1.out).mono ?_; rintro e w2 ⟨hx2, rfl⟩; have HB2 := Lib.hid (bext HB1.out hx2 HB1.out.size); have HZ2 := Lib.hid (HZ1.out.ext hx2); have HMS2 := Lib.hid (HMS.out.ext hx2); clear hx2))
      have HXQ := Lib.hid (ext_alloc w2 (.cells #[.int .i64 0, .int .i64 0, .int .i64 0, .int .i64 0] 31))
      have HQ := Lib.hid (Bk.new 31 w2 #[.int .i64 0, .int .i64 0, .int .i64 0, .int .i64 0])
      obtain ⟨qb, hqb⟩ : ∃ qb, qb = w2.heap.size := ⟨_, rfl⟩
      obtain ⟨V2, hV2⟩ : ∃ V, V = w2.alloc (.cells #[.int .i64 0, .int .i64 0, .int .i64 0, .int .i64 0] 31) := ⟨_, rfl⟩
      rw [← hqb, ← hV2]
      rw [← hqb, ← hV2] at HQ
      rw [← hV2] at HXQ
      have HB3 := Lib.hid (bext HB2.out HXQ.out HB2.out.size)
      have HZ3 := Lib.hid (HZ2.out.ext HXQ.out)
      have HMS3 := Lib.hid (HMS2.out.ext HXQ.out)
      clear hqb hV2 HXQ HB2 HZ2 HMS2 HB1 HZ1 HMS HX0 HZ HMX HLG
      obtain rfl : ms = [] := by
        cases ms with
        | nil => rfl
        | cons s t =>
          have h1 := (HMM.out s).1 (by simp)
          exact absurd ⟨s, h1.1, h1.2.1, h1.2.2.1, fun h => by cases h⟩ HNX.out
      go_upto_region 7 with (go_at_call 21; refine (HGD.out _ HB3.out).mono ?_; rintro e w4 ⟨rfl, hx4⟩; have HX4 := Lib.hid hx4; clear hx4)
      have HB4 := Lib.hid (bext HB3.out HX4.out HB3.out.size)
      have HZ4 := Lib.hid (HZ3.out.ext HX4.out)
      clear HX4 HZ3 HQ HMS3
      have HF7 := Lib.hid (show ∀ W, Below w4.heap.size w4 W → W.cell? ⟨rb, 0, none⟩ = some (.int .i64 x) ∧ W.cell? ⟨rb, 1, none⟩ = some (.int .i64 y) ∧ W.cell? ⟨rb, 2, none⟩ = some (.int .i64 a) ∧ W.cell? ⟨rb, 3, none⟩ = some (.int .i64 b) ∧ rb < W.heap.size ∧ bb < W.heap.size ∧ W.cell? ⟨bb, off, none⟩ = some (.string r0) from fun W hW => by
        obtain ⟨h1, h2⟩ := HC.out W (bext HB4.out hW HB4.out.size)
        have hk := HZ4.out.ext hW
        exact ⟨hk.cell 0, hk.cell 1, hk.cell 2, hk.cell 3, hk.lt, h1, h2⟩)
      have hl0 : (0 : Int) < (l.length : Int) := by omega
      have hl0' : 0 < l.length := by omega
      go_cut [89] from 64 to 90 (fun z wx => ∃ c : Bool, z = .bool c ∧ (c = false → FullR l g x y a b) ∧ (c = true → ¬ FullR l g x y a b) ∧ Below w4.heap.size w4 wx)
      case first =>
        by_cases hrok : RcOk x y a b
        · rw [decide_eq_true hrok] at HRC
          have HLI := Lib.hid (HLI.out hrok)
          have HRT := Lib.hid (HRT.out hrok)
          have HFD := Lib.hid (fun v hv => HFD.out v hv hrok)
          have HRK := Lib.hid hrok
          by_cases hrin : RcIn x y a b N l.length
          · rw [decide_eq_true hrin] at HLI
            have HRT := Lib.hid (HRT.out hrin)
            obtain ⟨v, hv⟩ : ∃ v, v = cnt l g x.toNat y.toNat a.toNat b.toNat := ⟨_, rfl⟩
            have HFD := Lib.hid (HFD.out v hv hrin)
            rw [← hv] at HRT
            have hp48 : 0 ≤ a * b ∧ a * b ≤ 2304 := by
              unfold RcOk at hrok
              unfold RcIn at hrin
              obtain ⟨an, rfl⟩ := Int.eq_ofNat_of_zero_le (show 0 ≤ a by omega)
              obtain ⟨bn, rfl⟩ := Int.eq_ofNat_of_zero_le (show 0 ≤ b by omega)
              have h1 := Nat.mul_le_mul (show an ≤ 48 by omega) (show bn ≤ 48 by omega)
              have h2 : (an : Int) * (bn : Int) = ((an * bn : Nat) : Int) := by push_cast; rfl
              omega
            obtain ⟨p, hp⟩ : ∃ p, a * b = p := ⟨_, rfl⟩
            rw [hp] at HFD hp48
            obtain ⟨hp0, hp1⟩ := hp48
            have hpw : IntKind.i64.wrap p = p := IntWalk.i64_in _ ⟨by omega, by omega⟩
            clear hv hrok hrin
            by_cases hvp : v = p
            · subst hvp
              have HYE := Lib.hid (HFD.out.1 rfl)
              refine wp_region_T (S := fun W => Below w4.heap.size w4 W) 25 (by kernel_rfl) (ext_drew _) (fun hHeld => ?_)
              refine wpAnyT_take (i := 0) (v := ?v63) [14, 13, 3, 1] rfl (by kernel_rfl) (fun _ _ _ h => h) (Or.inl ⟨by rfl, ?hy63⟩) hHeld ?rst63
              case hy63 => (intro wx hSw; obtain ⟨q1, q2, q3, q4, q5, q6, q7⟩ := HF7.out wx hSw; go_simp; try (with_reducible rfl))
              try simp only [List.getElem_toArray, List.getElem_cons_zero, Act.put, List.setIfInBounds_toArray, List.set_cons_zero, List.set_cons_succ]
              refine wpAnyT_one (i := 1) (by kernel_rfl) rfl (fun K hK => ?_)
              go_simp
              go_at_call 23
              refine (HRC.out _).mono ?_
              rintro e8 w8 ⟨rfl, hx8⟩
              have B8 := bext hHeld hx8 hHeld.size
              clear hx8
              refine hK.out _ _ (B8) (fun hHeld => ?_)
              clear hK K
              try simp only [List.getElem_toArray, List.getElem_cons_zero, List.getElem_cons_succ, Act.put, List.setIfInBounds_toArray, List.set_cons_zero, List.set_cons_succ]
              refine wpAnyT_take (i := 2) (v := ?v64) [14, 13, 3] rfl (by kernel_rfl) (fun _ _ _ h => h) (Or.inl ⟨by rfl, ?hy64⟩) hHeld ?rst64
              case hy64 => (intro wx hSw; obtain ⟨q1, q2, q3, q4, q5, q6, q7⟩ := HF7.out wx hSw; go_simp; try (with_reducible rfl))
              try simp only [List.getElem_toArray, List.getElem_cons_zero, List.getElem_cons_succ, Act.put, List.setIfInBounds_toArray, List.set_cons_zero, List.set_cons_succ]
              refine wpAnyT_take (i := 3) (v := ?v65) [14, 13] rfl (by kernel_rfl) (fun _ _ _ h => h) (Or.inl ⟨by rfl, ?hy65⟩) hHeld ?rst65
              case hy65 => (intro wx hSw; obtain ⟨q1, q2, q3, q4, q5, q6, q7⟩ := HF7.out wx hSw; go_simp; try (with_reducible rfl))
              try simp only [List.getElem_toArray, List.getElem_cons_zero, List.getElem_cons_succ, Act.put, List.setIfInBounds_toArray, List.set_cons_zero, List.set_cons_succ]
              refine wpAnyT_take (i := 4) (v := ?v66) [14, 11] rfl (by kernel_rfl) (fun _ _ _ h => h) (Or.inl ⟨by rfl, ?hy66⟩) hHeld ?rst66
              case hy66 => (intro wx hSw; obtain ⟨q1, q2, q3, q4, q5, q6, q7⟩ := HF7.out wx hSw; go_simp; try (with_reducible rfl))
              try simp only [List.getElem_toArray, List.getElem_cons_zero, List.getElem_cons_succ, Act.put, List.setIfInBounds_toArray, List.set_cons_zero, List.set_cons_succ]
              refine wpAnyT_take (i := 5) (v := ?v67) [14, 11, 8, 7, 6] rfl (by kernel_rfl) (fun _ _ _ h => h) (Or.inl ⟨by rfl, ?hy67⟩) hHeld ?rst67
              case hy67 => (intro wx hSw; obtain ⟨q1, q2, q3, q4, q5, q6, q7⟩ := HF7.out wx hSw; go_simp; try (with_reducible rfl))
              try simp only [List.getElem_toArray, List.getElem_cons_zero, List.getElem_cons_succ, Act.put, List.setIfInBounds_toArray, List.set_cons_zero, List.set_cons_succ]
              refine wpAnyT_take (i := 6) (v := ?v68) [14, 11, 8, 7] rfl (by kernel_rfl) (fun _ _ _ h => h) (Or.inl ⟨by rfl, ?hy68⟩) hHeld ?rst68
              case hy68 => (intro wx hSw; obtain ⟨q1, q2, q3, q4, q5, q6, q7⟩ := HF7.out wx hSw; go_simp; try (with_reducible rfl))
              try simp only [List.getElem_toArray, List.getElem_cons_zero, List.getElem_cons_succ, Act.put, List.setIfInBounds_toArray, List.set_cons_zero, List.set_cons_succ]
              refine wpAnyT_take (i := 7) (v := ?v69) [14, 11, 8] rfl (by kernel_rfl) (fun _ _ _ h => h) (Or.inl ⟨by rfl, ?hy69⟩) hHeld ?rst69
              case hy69 => (intro wx hSw; obtain ⟨q1, q2, q3, q4, q5, q6, q7⟩ := HF7.out wx hSw; go_simp; try (with_reducible rfl))
              try simp only [List.getElem_toArray, List.getElem_cons_zero, List.getElem_cons_succ, Act.put, List.setIfInBounds_toArray, List.set_cons_zero, List.set_cons_succ]
              refine wpAnyT_take (i := 8) (v := ?v70) [14, 11] rfl (by kernel_rfl) (fun _ _ _ h => h) (Or.inl ⟨by rfl, ?hy70⟩) hHeld ?rst70
              case hy70 => (intro wx hSw; obtain ⟨q1, q2, q3, q4, q5, q6, q7⟩ := HF7.out wx hSw; go_simp; try (with_reducible rfl))
              try simp only [List.getElem_toArray, List.getElem_cons_zero, List.getElem_cons_succ, Act.put, List.setIfInBounds_toArray, List.set_cons_zero, List.set_cons_succ]
              refine wpAnyT_take (i := 9) (v := ?v71) [14, 11, 10] rfl (by kernel_rfl) (fun _ _ _ h => h) (Or.inl ⟨by rfl, ?hy71⟩) hHeld ?rst71
              case hy71 => (intro wx hSw; obtain ⟨q1, q2, q3, q4, q5, q6, q7⟩ := HF7.out wx hSw; go_simp; try (with_reducible rfl))
              try simp only [List.getElem_toArray, List.getElem_cons_zero, List.getElem_cons_succ, Act.put, List.setIfInBounds_toArray, List.set_cons_zero, List.set_cons_succ]
              refine wpAnyT_take (i := 10) (v := ?v72) [14, 11] rfl (by kernel_rfl) (fun _ _ _ h => h) (Or.inl ⟨by rfl, ?hy72⟩) hHeld ?rst72
              case hy72 => (intro wx hSw; obtain ⟨q1, q2, q3, q4, q5, q6, q7⟩ := HF7.out wx hSw; go_simp; try (with_reducible rfl))
              try simp only [List.getElem_toArray, List.getElem_cons_zero, List.getElem_cons_succ, Act.put, List.setIfInBounds_toArray, List.set_cons_zero, List.set_cons_succ]
              refine wpAnyT_one (i := 11) (by kernel_rfl) rfl (fun K hK => ?_)
              go_simp
              go_at_call 24
              refine (HLI.out _).mono ?_
              rintro e9 w9 ⟨rfl, hx9⟩
              have B9 := bext hHeld hx9 hHeld.size
              clear hx9
              refine hK.out _ _ (B9) (fun hHeld => ?_)
              clear hK K
              try simp only [List.getElem_toArray, List.getElem_cons_zero, List.getElem_cons_succ, Act.put, List.setIfInBounds_toArray, List.set_cons_zero, List.set_cons_succ]
              refine wpAnyT_take (i := 12) (v := ?v73) [14, 13] rfl (by kernel_rfl) (fun _ _ _ h => h) (Or.inl ⟨by rfl, ?hy73⟩) hHeld ?rst73
              case hy73 => (intro wx hSw; obtain ⟨q1, q2, q3, q4, q5, q6, q7⟩ := HF7.out wx hSw; go_simp; try (with_reducible rfl))
              try simp only [List.getElem_toArray, List.getElem_cons_zero, List.getElem_cons_succ, Act.put, List.setIfInBounds_toArray, List.set_cons_zero, List.set_cons_succ]
              refine wpAnyT_take (i := 13) (v := ?v74) [14] rfl (by kernel_rfl) (fun _ _ _ h => h) (Or.inl ⟨by rfl, ?hy74⟩) hHeld ?rst74
              case hy74 => (intro wx hSw; obtain ⟨q1, q2, q3, q4, q5, q6, q7⟩ := HF7.out wx hSw; go_simp; try (with_reducible rfl))
              try simp only [List.getElem_toArray, List.getElem_cons_zero, List.getElem_cons_succ, Act.put, List.setIfInBounds_toArray, List.set_cons_zero, List.set_cons_succ]
              refine wpAnyT_take (i := 14) (v := ?v75) [] rfl (by kernel_rfl) (fun _ _ _ h => h) (Or.inl ⟨by rfl, ?hy75⟩) hHeld ?rst75
              case hy75 => (intro wx hSw; obtain ⟨q1, q2, q3, q4, q5, q6, q7⟩ := HF7.out wx hSw; go_simp; try (with_reducible rfl))
              try simp only [List.getElem_toArray, List.getElem_cons_zero, List.getElem_cons_succ, Act.put, List.setIfInBounds_toArray, List.set_cons_zero, List.set_cons_succ]
              refine wpAnyT_take (i := 15) (v := ?v76) [24, 18] rfl (by kernel_rfl) (fun _ _ _ h => h) (Or.inl ⟨by rfl, ?hy76⟩) hHeld ?rst76
              case hy76 => (intro wx hSw; obtain ⟨q1, q2, q3, q4, q5, q6, q7⟩ := HF7.out wx hSw; go_simp; try (with_reducible rfl))
              try simp only [List.getElem_toArray, List.getElem_cons_zero, List.getElem_cons_succ, Act.put, List.setIfInBounds_toArray, List.set_cons_zero, List.set_cons_succ]
              refine wpAnyT_take (i := 16) (v := ?v77) [24, 18] rfl (by kernel_rfl) (fun _ _ _ h => h) (Or.inl ⟨by rfl, ?hy77⟩) hHeld ?rst77
              case hy77 => (intro wx hSw; obtain ⟨q1, q2, q3, q4, q5, q6, q7⟩ := HF7.out wx hSw; go_simp; try (with_reducible rfl))
              try simp only [List.getElem_toArray, List.getElem_cons_zero, List.getElem_cons_succ, Act.put, List.setIfInBounds_toArray, List.set_cons_zero, List.set_cons_succ]
              refine wpAnyT_take (i := 17) (v := ?v78) [24, 18] rfl (by kernel_rfl) (fun _ _ _ h => h) (Or.inl ⟨by rfl, ?hy78⟩) hHeld ?rst78
              case hy78 => (intro wx hSw; obtain ⟨q1, q2, q3, q4, q5, q6, q7⟩ := HF7.out wx hSw; go_simp; try (with_reducible rfl))
              try simp only [List.getElem_toArray, List.getElem_cons_zero, List.getElem_cons_succ, Act.put, List.setIfInBounds_toArray, List.set_cons_zero, List.set_cons_succ]
              refine wpAnyT_take (i := 19) (v := ?v79) [24, 23, 20] rfl (by kernel_rfl) (fun _ _ _ h => h) (Or.inl ⟨by rfl, ?hy79⟩) hHeld ?rst79
              case hy79 => (intro wx hSw; obtain ⟨q1, q2, q3, q4, q5, q6, q7⟩ := HF7.out wx hSw; go_simp; try (with_reducible rfl))
              try simp only [List.getElem_toArray, List.getElem_cons_zero, List.getElem_cons_succ, Act.put, List.setIfInBounds_toArray, List.set_cons_zero, List.set_cons_succ]
              refine wpAnyT_take (i := 20) (v := ?v80) [24, 23] rfl (by kernel_rfl) (fun _ _ _ h => h) (Or.inl ⟨by rfl, ?hy80⟩) hHeld ?rst80
              case hy80 => (intro wx hSw; obtain ⟨q1, q2, q3, q4, q5, q6, q7⟩ := HF7.out wx hSw; go_simp; try (with_reducible rfl))
              try simp only [List.getElem_toArray, List.getElem_cons_zero, List.getElem_cons_succ, Act.put, List.setIfInBounds_toArray, List.set_cons_zero, List.set_cons_succ]
              refine wpAnyT_take (i := 21) (v := ?v81) [24, 23, 22] rfl (by kernel_rfl) (fun _ _ _ h => h) (Or.inl ⟨by rfl, ?hy81⟩) hHeld ?rst81
              case hy81 => (intro wx hSw; obtain ⟨q1, q2, q3, q4, q5, q6, q7⟩ := HF7.out wx hSw; go_simp; try (with_reducible rfl))
              try simp only [List.getElem_toArray, List.getElem_cons_zero, List.getElem_cons_succ, Act.put, List.setIfInBounds_toArray, List.set_cons_zero, List.set_cons_succ]
              refine wpAnyT_take (i := 22) (v := ?v82) [24, 23] rfl (by kernel_rfl) (fun _ _ _ h => h) (Or.inl ⟨by rfl, ?hy82⟩) hHeld ?rst82
              case hy82 => (intro wx hSw; obtain ⟨q1, q2, q3, q4, q5, q6, q7⟩ := HF7.out wx hSw; go_simp; try (with_reducible rfl))
              try simp only [List.getElem_toArray, List.getElem_cons_zero, List.getElem_cons_succ, Act.put, List.setIfInBounds_toArray, List.set_cons_zero, List.set_cons_succ]
              refine wpAnyT_take (i := 23) (v := ?v83) [24] rfl (by kernel_rfl) (fun _ _ _ h => h) (Or.inl ⟨by rfl, ?hy83⟩) hHeld ?rst83
              case hy83 => (intro wx hSw; obtain ⟨q1, q2, q3, q4, q5, q6, q7⟩ := HF7.out wx hSw; go_simp; try (with_reducible rfl))
              try simp only [List.getElem_toArray, List.getElem_cons_zero, List.getElem_cons_succ, Act.put, List.setIfInBounds_toArray, List.set_cons_zero, List.set_cons_succ]
              refine wpAnyT_one (i := 18) (by kernel_rfl) rfl (fun K hK => ?_)
              go_simp
              go_at_call 25
              refine (HRT.out _ (bext HB4.out hHeld HB4.out.size)).mono ?_
              rintro e10 w10 ⟨rfl, hx10⟩
              have B10 := bext hHeld hx10 hHeld.size
              clear hx10
              refine hK.out _ _ (B10) (fun hHeld => ?_)
              clear hK K
              try simp only [List.getElem_toArray, List.getElem_cons_zero, List.getElem_cons_succ, Act.put, List.setIfInBounds_toArray, List.set_cons_zero, List.set_cons_succ]
              refine wpAnyT_take (i := 24) (v := ?v84) [] rfl (by kernel_rfl) (fun _ _ _ h => h) (Or.inl ⟨by rfl, ?hy84⟩) hHeld ?rst84
              case hy84 => (intro wx hSw; obtain ⟨q1, q2, q3, q4, q5, q6, q7⟩ := HF7.out wx hSw; go_simp; try (with_reducible rfl))
              try simp only [List.getElem_toArray, List.getElem_cons_zero, List.getElem_cons_succ, Act.put, List.setIfInBounds_toArray, List.set_cons_zero, List.set_cons_succ]
              refine wpAnyT_last (by kernel_rfl) (by kernel_rfl) rfl (fun K hK => ?_)
              go_simp
              refine hK.out _ _ ?_
              clear hK K
              go_wp2_with (fail)
              go_meet
              case rel => exact ⟨false, rfl, (fun _ => HYE.out), (fun h => nomatch h), hHeld⟩
            · have HNE := Lib.hid (fun h => hvp (HFD.out.2 h))
              have tv : (v == p) = false := by simpa using hvp
              have tv2 : (v != p) = true := by simpa using hvp
              clear hvp
              refine wp_region_T (S := fun W => Below w4.heap.size w4 W) 25 (by kernel_rfl) (ext_drew _) (fun hHeld => ?_)
              refine wpAnyT_take (i := 0) (v := ?v85) [14, 13, 3, 1] rfl (by kernel_rfl) (fun _ _ _ h => h) (Or.inl ⟨by rfl, ?hy85⟩) hHeld ?rst85
              case hy85 => (intro wx hSw; obtain ⟨q1, q2, q3, q4, q5, q6, q7⟩ := HF7.out wx hSw; go_simp; try (with_reducible rfl))
              try simp only [List.getElem_toArray, List.getElem_cons_zero, Act.put, List.setIfInBounds_toArray, List.set_cons_zero, List.set_cons_succ]
              refine wpAnyT_one (i := 1) (by kernel_rfl) rfl (fun K hK => ?_)
              go_simp
              go_at_call 23
              refine (HRC.out _).mono ?_
              rintro e8 w8 ⟨rfl, hx8⟩
              have B8 := bext hHeld hx8 hHeld.size
              clear hx8
              refine hK.out _ _ (B8) (fun hHeld => ?_)
              clear hK K
              try simp only [List.getElem_toArray, List.getElem_cons_zero, List.getElem_cons_succ, Act.put, List.setIfInBounds_toArray, List.set_cons_zero, List.set_cons_succ]
              refine wpAnyT_take (i := 2) (v := ?v86) [14, 13, 3] rfl (by kernel_rfl) (fun _ _ _ h => h) (Or.inl ⟨by rfl, ?hy86⟩) hHeld ?rst86
              case hy86 => (intro wx hSw; obtain ⟨q1, q2, q3, q4, q5, q6, q7⟩ := HF7.out wx hSw; go_simp; try (with_reducible rfl))
              try simp only [List.getElem_toArray, List.getElem_cons_zero, List.getElem_cons_succ, Act.put, List.setIfInBounds_toArray, List.set_cons_zero, List.set_cons_succ]
              refine wpAnyT_take (i := 3) (v := ?v87) [14, 13] rfl (by kernel_rfl) (fun _ _ _ h => h) (Or.inl ⟨by rfl, ?hy87⟩) hHeld ?rst87
              case hy87 => (intro wx hSw; obtain ⟨q1, q2, q3, q4, q5, q6, q7⟩ := HF7.out wx hSw; go_simp; try (with_reducible rfl))
              try simp only [List.getElem_toArray, List.getElem_cons_zero, List.getElem_cons_succ, Act.put, List.setIfInBounds_toArray, List.set_cons_zero, List.set_cons_succ]
              refine wpAnyT_take (i := 4) (v := ?v88) [14, 11] rfl (by kernel_rfl) (fun _ _ _ h => h) (Or.inl ⟨by rfl, ?hy88⟩) hHeld ?rst88
              case hy88 => (intro wx hSw; obtain ⟨q1, q2, q3, q4, q5, q6, q7⟩ := HF7.out wx hSw; go_simp; try (with_reducible rfl))
              try simp only [List.getElem_toArray, List.getElem_cons_zero, List.getElem_cons_succ, Act.put, List.setIfInBounds_toArray, List.set_cons_zero, List.set_cons_succ]
              refine wpAnyT_take (i := 5) (v := ?v89) [14, 11, 8, 7, 6] rfl (by kernel_rfl) (fun _ _ _ h => h) (Or.inl ⟨by rfl, ?hy89⟩) hHeld ?rst89
              case hy89 => (intro wx hSw; obtain ⟨q1, q2, q3, q4, q5, q6, q7⟩ := HF7.out wx hSw; go_simp; try (with_reducible rfl))
              try simp only [List.getElem_toArray, List.getElem_cons_zero, List.getElem_cons_succ, Act.put, List.setIfInBounds_toArray, List.set_cons_zero, List.set_cons_succ]
              refine wpAnyT_take (i := 6) (v := ?v90) [14, 11, 8, 7] rfl (by kernel_rfl) (fun _ _ _ h => h) (Or.inl ⟨by rfl, ?hy90⟩) hHeld ?rst90
              case hy90 => (intro wx hSw; obtain ⟨q1, q2, q3, q4, q5, q6, q7⟩ := HF7.out wx hSw; go_simp; try (with_reducible rfl))
              try simp only [List.getElem_toArray, List.getElem_cons_zero, List.getElem_cons_succ, Act.put, List.setIfInBounds_toArray, List.set_cons_zero, List.set_cons_succ]
              refine wpAnyT_take (i := 7) (v := ?v91) [14, 11, 8] rfl (by kernel_rfl) (fun _ _ _ h => h) (Or.inl ⟨by rfl, ?hy91⟩) hHeld ?rst91
              case hy91 => (intro wx hSw; obtain ⟨q1, q2, q3, q4, q5, q6, q7⟩ := HF7.out wx hSw; go_simp; try (with_reducible rfl))
              try simp only [List.getElem_toArray, List.getElem_cons_zero, List.getElem_cons_succ, Act.put, List.setIfInBounds_toArray, List.set_cons_zero, List.set_cons_succ]
              refine wpAnyT_take (i := 8) (v := ?v92) [14, 11] rfl (by kernel_rfl) (fun _ _ _ h => h) (Or.inl ⟨by rfl, ?hy92⟩) hHeld ?rst92
              case hy92 => (intro wx hSw; obtain ⟨q1, q2, q3, q4, q5, q6, q7⟩ := HF7.out wx hSw; go_simp; try (with_reducible rfl))
              try simp only [List.getElem_toArray, List.getElem_cons_zero, List.getElem_cons_succ, Act.put, List.setIfInBounds_toArray, List.set_cons_zero, List.set_cons_succ]
              refine wpAnyT_take (i := 9) (v := ?v93) [14, 11, 10] rfl (by kernel_rfl) (fun _ _ _ h => h) (Or.inl ⟨by rfl, ?hy93⟩) hHeld ?rst93
              case hy93 => (intro wx hSw; obtain ⟨q1, q2, q3, q4, q5, q6, q7⟩ := HF7.out wx hSw; go_simp; try (with_reducible rfl))
              try simp only [List.getElem_toArray, List.getElem_cons_zero, List.getElem_cons_succ, Act.put, List.setIfInBounds_toArray, List.set_cons_zero, List.set_cons_succ]
              refine wpAnyT_take (i := 10) (v := ?v94) [14, 11] rfl (by kernel_rfl) (fun _ _ _ h => h) (Or.inl ⟨by rfl, ?hy94⟩) hHeld ?rst94
              case hy94 => (intro wx hSw; obtain ⟨q1, q2, q3, q4, q5, q6, q7⟩ := HF7.out wx hSw; go_simp; try (with_reducible rfl))
              try simp only [List.getElem_toArray, List.getElem_cons_zero, List.getElem_cons_succ, Act.put, List.setIfInBounds_toArray, List.set_cons_zero, List.set_cons_succ]
              refine wpAnyT_one (i := 11) (by kernel_rfl) rfl (fun K hK => ?_)
              go_simp
              go_at_call 24
              refine (HLI.out _).mono ?_
              rintro e9 w9 ⟨rfl, hx9⟩
              have B9 := bext hHeld hx9 hHeld.size
              clear hx9
              refine hK.out _ _ (B9) (fun hHeld => ?_)
              clear hK K
              try simp only [List.getElem_toArray, List.getElem_cons_zero, List.getElem_cons_succ, Act.put, List.setIfInBounds_toArray, List.set_cons_zero, List.set_cons_succ]
              refine wpAnyT_take (i := 12) (v := ?v95) [14, 13] rfl (by kernel_rfl) (fun _ _ _ h => h) (Or.inl ⟨by rfl, ?hy95⟩) hHeld ?rst95
              case hy95 => (intro wx hSw; obtain ⟨q1, q2, q3, q4, q5, q6, q7⟩ := HF7.out wx hSw; go_simp; try (with_reducible rfl))
              try simp only [List.getElem_toArray, List.getElem_cons_zero, List.getElem_cons_succ, Act.put, List.setIfInBounds_toArray, List.set_cons_zero, List.set_cons_succ]
              refine wpAnyT_take (i := 13) (v := ?v96) [14] rfl (by kernel_rfl) (fun _ _ _ h => h) (Or.inl ⟨by rfl, ?hy96⟩) hHeld ?rst96
              case hy96 => (intro wx hSw; obtain ⟨q1, q2, q3, q4, q5, q6, q7⟩ := HF7.out wx hSw; go_simp; try (with_reducible rfl))
              try simp only [List.getElem_toArray, List.getElem_cons_zero, List.getElem_cons_succ, Act.put, List.setIfInBounds_toArray, List.set_cons_zero, List.set_cons_succ]
              refine wpAnyT_take (i := 14) (v := ?v97) [] rfl (by kernel_rfl) (fun _ _ _ h => h) (Or.inl ⟨by rfl, ?hy97⟩) hHeld ?rst97
              case hy97 => (intro wx hSw; obtain ⟨q1, q2, q3, q4, q5, q6, q7⟩ := HF7.out wx hSw; go_simp; try (with_reducible rfl))
              try simp only [List.getElem_toArray, List.getElem_cons_zero, List.getElem_cons_succ, Act.put, List.setIfInBounds_toArray, List.set_cons_zero, List.set_cons_succ]
              refine wpAnyT_take (i := 15) (v := ?v98) [24, 18] rfl (by kernel_rfl) (fun _ _ _ h => h) (Or.inl ⟨by rfl, ?hy98⟩) hHeld ?rst98
              case hy98 => (intro wx hSw; obtain ⟨q1, q2, q3, q4, q5, q6, q7⟩ := HF7.out wx hSw; go_simp; try (with_reducible rfl))
              try simp only [List.getElem_toArray, List.getElem_cons_zero, List.getElem_cons_succ, Act.put, List.setIfInBounds_toArray, List.set_cons_zero, List.set_cons_succ]
              refine wpAnyT_take (i := 16) (v := ?v99) [24, 18] rfl (by kernel_rfl) (fun _ _ _ h => h) (Or.inl ⟨by rfl, ?hy99⟩) hHeld ?rst99
              case hy99 => (intro wx hSw; obtain ⟨q1, q2, q3, q4, q5, q6, q7⟩ := HF7.out wx hSw; go_simp; try (with_reducible rfl))
              try simp only [List.getElem_toArray, List.getElem_cons_zero, List.getElem_cons_succ, Act.put, List.setIfInBounds_toArray, List.set_cons_zero, List.set_cons_succ]
              refine wpAnyT_take (i := 17) (v := ?v100) [24, 18] rfl (by kernel_rfl) (fun _ _ _ h => h) (Or.inl ⟨by rfl, ?hy100⟩) hHeld ?rst100
              case hy100 => (intro wx hSw; obtain ⟨q1, q2, q3, q4, q5, q6, q7⟩ := HF7.out wx hSw; go_simp; try (with_reducible rfl))
              try simp only [List.getElem_toArray, List.getElem_cons_zero, List.getElem_cons_succ, Act.put, List.setIfInBounds_toArray, List.set_cons_zero, List.set_cons_succ]
              refine wpAnyT_take (i := 19) (v := ?v101) [24, 23, 20] rfl (by kernel_rfl) (fun _ _ _ h => h) (Or.inl ⟨by rfl, ?hy101⟩) hHeld ?rst101
              case hy101 => (intro wx hSw; obtain ⟨q1, q2, q3, q4, q5, q6, q7⟩ := HF7.out wx hSw; go_simp; try (with_reducible rfl))
              try simp only [List.getElem_toArray, List.getElem_cons_zero, List.getElem_cons_succ, Act.put, List.setIfInBounds_toArray, List.set_cons_zero, List.set_cons_succ]
              refine wpAnyT_take (i := 20) (v := ?v102) [24, 23] rfl (by kernel_rfl) (fun _ _ _ h => h) (Or.inl ⟨by rfl, ?hy102⟩) hHeld ?rst102
              case hy102 => (intro wx hSw; obtain ⟨q1, q2, q3, q4, q5, q6, q7⟩ := HF7.out wx hSw; go_simp; try (with_reducible rfl))
              try simp only [List.getElem_toArray, List.getElem_cons_zero, List.getElem_cons_succ, Act.put, List.setIfInBounds_toArray, List.set_cons_zero, List.set_cons_succ]
              refine wpAnyT_take (i := 21) (v := ?v103) [24, 23, 22] rfl (by kernel_rfl) (fun _ _ _ h => h) (Or.inl ⟨by rfl, ?hy103⟩) hHeld ?rst103
              case hy103 => (intro wx hSw; obtain ⟨q1, q2, q3, q4, q5, q6, q7⟩ := HF7.out wx hSw; go_simp; try (with_reducible rfl))
              try simp only [List.getElem_toArray, List.getElem_cons_zero, List.getElem_cons_succ, Act.put, List.setIfInBounds_toArray, List.set_cons_zero, List.set_cons_succ]
              refine wpAnyT_take (i := 22) (v := ?v104) [24, 23] rfl (by kernel_rfl) (fun _ _ _ h => h) (Or.inl ⟨by rfl, ?hy104⟩) hHeld ?rst104
              case hy104 => (intro wx hSw; obtain ⟨q1, q2, q3, q4, q5, q6, q7⟩ := HF7.out wx hSw; go_simp; try (with_reducible rfl))
              try simp only [List.getElem_toArray, List.getElem_cons_zero, List.getElem_cons_succ, Act.put, List.setIfInBounds_toArray, List.set_cons_zero, List.set_cons_succ]
              refine wpAnyT_take (i := 23) (v := ?v105) [24] rfl (by kernel_rfl) (fun _ _ _ h => h) (Or.inl ⟨by rfl, ?hy105⟩) hHeld ?rst105
              case hy105 => (intro wx hSw; obtain ⟨q1, q2, q3, q4, q5, q6, q7⟩ := HF7.out wx hSw; go_simp; try (with_reducible rfl))
              try simp only [List.getElem_toArray, List.getElem_cons_zero, List.getElem_cons_succ, Act.put, List.setIfInBounds_toArray, List.set_cons_zero, List.set_cons_succ]
              refine wpAnyT_one (i := 18) (by kernel_rfl) rfl (fun K hK => ?_)
              go_simp
              go_at_call 25
              refine (HRT.out _ (bext HB4.out hHeld HB4.out.size)).mono ?_
              rintro e10 w10 ⟨rfl, hx10⟩
              have B10 := bext hHeld hx10 hHeld.size
              clear hx10
              refine hK.out _ _ (B10) (fun hHeld => ?_)
              clear hK K
              try simp only [List.getElem_toArray, List.getElem_cons_zero, List.getElem_cons_succ, Act.put, List.setIfInBounds_toArray, List.set_cons_zero, List.set_cons_succ]
              refine wpAnyT_take (i := 24) (v := ?v106) [] rfl (by kernel_rfl) (fun _ _ _ h => h) (Or.inl ⟨by rfl, ?hy106⟩) hHeld ?rst106
              case hy106 => (intro wx hSw; obtain ⟨q1, q2, q3, q4, q5, q6, q7⟩ := HF7.out wx hSw; go_simp; try (with_reducible rfl))
              try simp only [List.getElem_toArray, List.getElem_cons_zero, List.getElem_cons_succ, Act.put, List.setIfInBounds_toArray, List.set_cons_zero, List.set_cons_succ]
              refine wpAnyT_last (by kernel_rfl) (by kernel_rfl) rfl (fun K hK => ?_)
              go_simp
              refine hK.out _ _ ?_
              clear hK K
              go_wp2_with (fail)
              go_meet
              case rel => exact ⟨true, rfl, (fun h => nomatch h), fun _ => HNE.out, hHeld⟩
          · rw [decide_eq_false hrin] at HLI
            have HNE := Lib.hid (fun h : FullR l g x y a b => hrin (by rw [HN.out]; exact h.2.1))
            clear hrok hrin
            refine wp_region_T (S := fun W => Below w4.heap.size w4 W) 25 (by kernel_rfl) (ext_drew _) (fun hHeld => ?_)
            refine wpAnyT_take (i := 0) (v := ?v107) [14, 13, 3, 1] rfl (by kernel_rfl) (fun _ _ _ h => h) (Or.inl ⟨by rfl, ?hy107⟩) hHeld ?rst107
            case hy107 => (intro wx hSw; obtain ⟨q1, q2, q3, q4, q5, q6, q7⟩ := HF7.out wx hSw; go_simp; try (with_reducible rfl))
            try simp only [List.getElem_toArray, List.getElem_cons_zero, Act.put, List.setIfInBounds_toArray, List.set_cons_zero, List.set_cons_succ]
            refine wpAnyT_one (i := 1) (by kernel_rfl) rfl (fun K hK => ?_)
            go_simp
            go_at_call 23
            refine (HRC.out _).mono ?_
            rintro e8 w8 ⟨rfl, hx8⟩
            have B8 := bext hHeld hx8 hHeld.size
            clear hx8
            refine hK.out _ _ (B8) (fun hHeld => ?_)
            clear hK K
            try simp only [List.getElem_toArray, List.getElem_cons_zero, List.getElem_cons_succ, Act.put, List.setIfInBounds_toArray, List.set_cons_zero, List.set_cons_succ]
            refine wpAnyT_take (i := 2) (v := ?v108) [14, 13, 3] rfl (by kernel_rfl) (fun _ _ _ h => h) (Or.inl ⟨by rfl, ?hy108⟩) hHeld ?rst108
            case hy108 => (intro wx hSw; obtain ⟨q1, q2, q3, q4, q5, q6, q7⟩ := HF7.out wx hSw; go_simp; try (with_reducible rfl))
            try simp only [List.getElem_toArray, List.getElem_cons_zero, List.getElem_cons_succ, Act.put, List.setIfInBounds_toArray, List.set_cons_zero, List.set_cons_succ]
            refine wpAnyT_take (i := 3) (v := ?v109) [14, 13] rfl (by kernel_rfl) (fun _ _ _ h => h) (Or.inl ⟨by rfl, ?hy109⟩) hHeld ?rst109
            case hy109 => (intro wx hSw; obtain ⟨q1, q2, q3, q4, q5, q6, q7⟩ := HF7.out wx hSw; go_simp; try (with_reducible rfl))
            try simp only [List.getElem_toArray, List.getElem_cons_zero, List.getElem_cons_succ, Act.put, List.setIfInBounds_toArray, List.set_cons_zero, List.set_cons_succ]
            refine wpAnyT_take (i := 4) (v := ?v110) [14, 11] rfl (by kernel_rfl) (fun _ _ _ h => h) (Or.inl ⟨by rfl, ?hy110⟩) hHeld ?rst110
            case hy110 => (intro wx hSw; obtain ⟨q1, q2, q3, q4, q5, q6, q7⟩ := HF7.out wx hSw; go_simp; try (with_reducible rfl))
            try simp only [List.getElem_toArray, List.getElem_cons_zero, List.getElem_cons_succ, Act.put, List.setIfInBounds_toArray, List.set_cons_zero, List.set_cons_succ]
            refine wpAnyT_take (i := 5) (v := ?v111) [14, 11, 8, 7, 6] rfl (by kernel_rfl) (fun _ _ _ h => h) (Or.inl ⟨by rfl, ?hy111⟩) hHeld ?rst111
            case hy111 => (intro wx hSw; obtain ⟨q1, q2, q3, q4, q5, q6, q7⟩ := HF7.out wx hSw; go_simp; try (with_reducible rfl))
            try simp only [List.getElem_toArray, List.getElem_cons_zero, List.getElem_cons_succ, Act.put, List.setIfInBounds_toArray, List.set_cons_zero, List.set_cons_succ]
            refine wpAnyT_take (i := 6) (v := ?v112) [14, 11, 8, 7] rfl (by kernel_rfl) (fun _ _ _ h => h) (Or.inl ⟨by rfl, ?hy112⟩) hHeld ?rst112
            case hy112 => (intro wx hSw; obtain ⟨q1, q2, q3, q4, q5, q6, q7⟩ := HF7.out wx hSw; go_simp; try (with_reducible rfl))
            try simp only [List.getElem_toArray, List.getElem_cons_zero, List.getElem_cons_succ, Act.put, List.setIfInBounds_toArray, List.set_cons_zero, List.set_cons_succ]
            refine wpAnyT_take (i := 7) (v := ?v113) [14, 11, 8] rfl (by kernel_rfl) (fun _ _ _ h => h) (Or.inl ⟨by rfl, ?hy113⟩) hHeld ?rst113
            case hy113 => (intro wx hSw; obtain ⟨q1, q2, q3, q4, q5, q6, q7⟩ := HF7.out wx hSw; go_simp; try (with_reducible rfl))
            try simp only [List.getElem_toArray, List.getElem_cons_zero, List.getElem_cons_succ, Act.put, List.setIfInBounds_toArray, List.set_cons_zero, List.set_cons_succ]
            refine wpAnyT_take (i := 8) (v := ?v114) [14, 11] rfl (by kernel_rfl) (fun _ _ _ h => h) (Or.inl ⟨by rfl, ?hy114⟩) hHeld ?rst114
            case hy114 => (intro wx hSw; obtain ⟨q1, q2, q3, q4, q5, q6, q7⟩ := HF7.out wx hSw; go_simp; try (with_reducible rfl))
            try simp only [List.getElem_toArray, List.getElem_cons_zero, List.getElem_cons_succ, Act.put, List.setIfInBounds_toArray, List.set_cons_zero, List.set_cons_succ]
            refine wpAnyT_take (i := 9) (v := ?v115) [14, 11, 10] rfl (by kernel_rfl) (fun _ _ _ h => h) (Or.inl ⟨by rfl, ?hy115⟩) hHeld ?rst115
            case hy115 => (intro wx hSw; obtain ⟨q1, q2, q3, q4, q5, q6, q7⟩ := HF7.out wx hSw; go_simp; try (with_reducible rfl))
            try simp only [List.getElem_toArray, List.getElem_cons_zero, List.getElem_cons_succ, Act.put, List.setIfInBounds_toArray, List.set_cons_zero, List.set_cons_succ]
            refine wpAnyT_take (i := 10) (v := ?v116) [14, 11] rfl (by kernel_rfl) (fun _ _ _ h => h) (Or.inl ⟨by rfl, ?hy116⟩) hHeld ?rst116
            case hy116 => (intro wx hSw; obtain ⟨q1, q2, q3, q4, q5, q6, q7⟩ := HF7.out wx hSw; go_simp; try (with_reducible rfl))
            try simp only [List.getElem_toArray, List.getElem_cons_zero, List.getElem_cons_succ, Act.put, List.setIfInBounds_toArray, List.set_cons_zero, List.set_cons_succ]
            refine wpAnyT_one (i := 11) (by kernel_rfl) rfl (fun K hK => ?_)
            go_simp
            go_at_call 24
            refine (HLI.out _).mono ?_
            rintro e9 w9 ⟨rfl, hx9⟩
            have B9 := bext hHeld hx9 hHeld.size
            clear hx9
            refine hK.out _ _ (B9) (fun hHeld => ?_)
            clear hK K
            try simp only [List.getElem_toArray, List.getElem_cons_zero, List.getElem_cons_succ, Act.put, List.setIfInBounds_toArray, List.set_cons_zero, List.set_cons_succ]
            refine wpAnyT_take (i := 12) (v := ?v117) [14, 13] rfl (by kernel_rfl) (fun _ _ _ h => h) (Or.inl ⟨by rfl, ?hy117⟩) hHeld ?rst117
            case hy117 => (intro wx hSw; obtain ⟨q1, q2, q3, q4, q5, q6, q7⟩ := HF7.out wx hSw; go_simp; try (with_reducible rfl))
            try simp only [List.getElem_toArray, List.getElem_cons_zero, List.getElem_cons_succ, Act.put, List.setIfInBounds_toArray, List.set_cons_zero, List.set_cons_succ]
            refine wpAnyT_take (i := 13) (v := ?v118) [14] rfl (by kernel_rfl) (fun _ _ _ h => h) (Or.inl ⟨by rfl, ?hy118⟩) hHeld ?rst118
            case hy118 => (intro wx hSw; obtain ⟨q1, q2, q3, q4, q5, q6, q7⟩ := HF7.out wx hSw; go_simp; try (with_reducible rfl))
            try simp only [List.getElem_toArray, List.getElem_cons_zero, List.getElem_cons_succ, Act.put, List.setIfInBounds_toArray, List.set_cons_zero, List.set_cons_succ]
            refine wpAnyT_take (i := 14) (v := ?v119) [] rfl (by kernel_rfl) (fun _ _ _ h => h) (Or.inl ⟨by rfl, ?hy119⟩) hHeld ?rst119
            case hy119 => (intro wx hSw; obtain ⟨q1, q2, q3, q4, q5, q6, q7⟩ := HF7.out wx hSw; go_simp; try (with_reducible rfl))
            try simp only [List.getElem_toArray, List.getElem_cons_zero, List.getElem_cons_succ, Act.put, List.setIfInBounds_toArray, List.set_cons_zero, List.set_cons_succ]
            refine wpAnyT_take (i := 15) (v := undef) [24, 18] rfl (by kernel_rfl) (fun _ _ _ h => h) (Or.inr ⟨by rfl, rfl⟩) hHeld ?_
            try simp only [List.getElem_toArray, List.getElem_cons_zero, List.getElem_cons_succ, Act.put, List.setIfInBounds_toArray, List.set_cons_zero, List.set_cons_succ]
            refine wpAnyT_take (i := 16) (v := undef) [24, 18] rfl (by kernel_rfl) (fun _ _ _ h => h) (Or.inr ⟨by rfl, rfl⟩) hHeld ?_
            try simp only [List.getElem_toArray, List.getElem_cons_zero, List.getElem_cons_succ, Act.put, List.setIfInBounds_toArray, List.set_cons_zero, List.set_cons_succ]
            refine wpAnyT_take (i := 17) (v := undef) [24, 18] rfl (by kernel_rfl) (fun _ _ _ h => h) (Or.inr ⟨by rfl, rfl⟩) hHeld ?_
            try simp only [List.getElem_toArray, List.getElem_cons_zero, List.getElem_cons_succ, Act.put, List.setIfInBounds_toArray, List.set_cons_zero, List.set_cons_succ]
            refine wpAnyT_take (i := 18) (v := undef) [24] rfl (by kernel_rfl) (fun _ _ _ h => h) (Or.inr ⟨by rfl, rfl⟩) hHeld ?_
            try simp only [List.getElem_toArray, List.getElem_cons_zero, List.getElem_cons_succ, Act.put, List.setIfInBounds_toArray, List.set_cons_zero, List.set_cons_succ]
            refine wpAnyT_take (i := 19) (v := undef) [24, 23, 20] rfl (by kernel_rfl) (fun _ _ _ h => h) (Or.inr ⟨by rfl, rfl⟩) hHeld ?_
            try simp only [List.getElem_toArray, List.getElem_cons_zero, List.getElem_cons_succ, Act.put, List.setIfInBounds_toArray, List.set_cons_zero, List.set_cons_succ]
            refine wpAnyT_take (i := 20) (v := undef) [24, 23] rfl (by kernel_rfl) (fun _ _ _ h => h) (Or.inr ⟨by rfl, rfl⟩) hHeld ?_
            try simp only [List.getElem_toArray, List.getElem_cons_zero, List.getElem_cons_succ, Act.put, List.setIfInBounds_toArray, List.set_cons_zero, List.set_cons_succ]
            refine wpAnyT_take (i := 21) (v := undef) [24, 23, 22] rfl (by kernel_rfl) (fun _ _ _ h => h) (Or.inr ⟨by rfl, rfl⟩) hHeld ?_
            try simp only [List.getElem_toArray, List.getElem_cons_zero, List.getElem_cons_succ, Act.put, List.setIfInBounds_toArray, List.set_cons_zero, List.set_cons_succ]
            refine wpAnyT_take (i := 22) (v := undef) [24, 23] rfl (by kernel_rfl) (fun _ _ _ h => h) (Or.inr ⟨by rfl, rfl⟩) hHeld ?_
            try simp only [List.getElem_toArray, List.getElem_cons_zero, List.getElem_cons_succ, Act.put, List.setIfInBounds_toArray, List.set_cons_zero, List.set_cons_succ]
            refine wpAnyT_take (i := 23) (v := undef) [24] rfl (by kernel_rfl) (fun _ _ _ h => h) (Or.inr ⟨by rfl, rfl⟩) hHeld ?_
            try simp only [List.getElem_toArray, List.getElem_cons_zero, List.getElem_cons_succ, Act.put, List.setIfInBounds_toArray, List.set_cons_zero, List.set_cons_succ]
            refine wpAnyT_take (i := 24) (v := undef) [] rfl (by kernel_rfl) (fun _ _ _ h => h) (Or.inr ⟨by rfl, rfl⟩) hHeld ?_
            try simp only [List.getElem_toArray, List.getElem_cons_zero, List.getElem_cons_succ, Act.put, List.setIfInBounds_toArray, List.set_cons_zero, List.set_cons_succ]
            refine wpAnyT_last (by kernel_rfl) (by kernel_rfl) rfl (fun K hK => ?_)
            go_simp
            refine hK.out _ _ ?_
            clear hK K
            go_wp2_with (fail)
            go_meet
            case rel => exact ⟨true, rfl, (fun h => nomatch h), fun _ => HNE.out, hHeld⟩
        · rw [decide_eq_false hrok] at HRC
          have HNE := Lib.hid (fun h : FullR l g x y a b => hrok h.1)
          clear hrok
          refine wp_region_T (S := fun W => Below w4.heap.size w4 W) 25 (by kernel_rfl) (ext_drew _) (fun hHeld => ?_)
          refine wpAnyT_take (i := 0) (v := ?v120) [14, 13, 3, 1] rfl (by kernel_rfl) (fun _ _ _ h => h) (Or.inl ⟨by rfl, ?hy120⟩) hHeld ?rst120
          case hy120 => (intro wx hSw; obtain ⟨q1, q2, q3, q4, q5, q6, q7⟩ := HF7.out wx hSw; go_simp; try (with_reducible rfl))
          try simp only [List.getElem_toArray, List.getElem_cons_zero, Act.put, List.setIfInBounds_toArray, List.set_cons_zero, List.set_cons_succ]
          refine wpAnyT_one (i := 1) (by kernel_rfl) rfl (fun K hK => ?_)
          go_simp
          go_at_call 23
          refine (HRC.out _).mono ?_
          rintro e8 w8 ⟨rfl, hx8⟩
          have B8 := bext hHeld hx8 hHeld.size
          clear hx8
          refine hK.out _ _ (B8) (fun hHeld => ?_)
          clear hK K
          try simp only [List.getElem_toArray, List.getElem_cons_zero, List.getElem_cons_succ, Act.put, List.setIfInBounds_toArray, List.set_cons_zero, List.set_cons_succ]
          refine wpAnyT_take (i := 2) (v := ?v121) [14, 13, 3] rfl (by kernel_rfl) (fun _ _ _ h => h) (Or.inl ⟨by rfl, ?hy121⟩) hHeld ?rst121
          case hy121 => (intro wx hSw; obtain ⟨q1, q2, q3, q4, q5, q6, q7⟩ := HF7.out wx hSw; go_simp; try (with_reducible rfl))
          try simp only [List.getElem_toArray, List.getElem_cons_zero, List.getElem_cons_succ, Act.put, List.setIfInBounds_toArray, List.set_cons_zero, List.set_cons_succ]
          refine wpAnyT_take (i := 3) (v := ?v122) [14, 13] rfl (by kernel_rfl) (fun _ _ _ h => h) (Or.inl ⟨by rfl, ?hy122⟩) hHeld ?rst122
          case hy122 => (intro wx hSw; obtain ⟨q1, q2, q3, q4, q5, q6, q7⟩ := HF7.out wx hSw; go_simp; try (with_reducible rfl))
          try simp only [List.getElem_toArray, List.getElem_cons_zero, List.getElem_cons_succ, Act.put, List.setIfInBounds_toArray, List.set_cons_zero, List.set_cons_succ]
          refine wpAnyT_take (i := 4) (v := undef) [14, 11] rfl (by kernel_rfl) (fun _ _ _ h => h) (Or.inr ⟨by rfl, rfl⟩) hHeld ?_
          try simp only [List.getElem_toArray, List.getElem_cons_zero, List.getElem_cons_succ, Act.put, List.setIfInBounds_toArray, List.set_cons_zero, List.set_cons_succ]
          refine wpAnyT_take (i := 5) (v := undef) [14, 11, 8, 7, 6] rfl (by kernel_rfl) (fun _ _ _ h => h) (Or.inr ⟨by rfl, rfl⟩) hHeld ?_
          try simp only [List.getElem_toArray, List.getElem_cons_zero, List.getElem_cons_succ, Act.put, List.setIfInBounds_toArray, List.set_cons_zero, List.set_cons_succ]
          refine wpAnyT_take (i := 6) (v := undef) [14, 11, 8, 7] rfl (by kernel_rfl) (fun _ _ _ h => h) (Or.inr ⟨by rfl, rfl⟩) hHeld ?_
          try simp only [List.getElem_toArray, List.getElem_cons_zero, List.getElem_cons_succ, Act.put, List.setIfInBounds_toArray, List.set_cons_zero, List.set_cons_succ]
          refine wpAnyT_take (i := 7) (v := undef) [14, 11, 8] rfl (by kernel_rfl) (fun _ _ _ h => h) (Or.inr ⟨by rfl, rfl⟩) hHeld ?_
          try simp only [List.getElem_toArray, List.getElem_cons_zero, List.getElem_cons_succ, Act.put, List.setIfInBounds_toArray, List.set_cons_zero, List.set_cons_succ]
          refine wpAnyT_take (i := 8) (v := undef) [14, 11] rfl (by kernel_rfl) (fun _ _ _ h => h) (Or.inr ⟨by rfl, rfl⟩) hHeld ?_
          try simp only [List.getElem_toArray, List.getElem_cons_zero, List.getElem_cons_succ, Act.put, List.setIfInBounds_toArray, List.set_cons_zero, List.set_cons_succ]
          refine wpAnyT_take (i := 9) (v := undef) [14, 11, 10] rfl (by kernel_rfl) (fun _ _ _ h => h) (Or.inr ⟨by rfl, rfl⟩) hHeld ?_
          try simp only [List.getElem_toArray, List.getElem_cons_zero, List.getElem_cons_succ, Act.put, List.setIfInBounds_toArray, List.set_cons_zero, List.set_cons_succ]
          refine wpAnyT_take (i := 10) (v := undef) [14, 11] rfl (by kernel_rfl) (fun _ _ _ h => h) (Or.inr ⟨by rfl, rfl⟩) hHeld ?_
          try simp only [List.getElem_toArray, List.getElem_cons_zero, List.getElem_cons_succ, Act.put, List.setIfInBounds_toArray, List.set_cons_zero, List.set_cons_succ]
          refine wpAnyT_take (i := 11) (v := undef) [14] rfl (by kernel_rfl) (fun _ _ _ h => h) (Or.inr ⟨by rfl, rfl⟩) hHeld ?_
          try simp only [List.getElem_toArray, List.getElem_cons_zero, List.getElem_cons_succ, Act.put, List.setIfInBounds_toArray, List.set_cons_zero, List.set_cons_succ]
          refine wpAnyT_take (i := 12) (v := undef) [14, 13] rfl (by kernel_rfl) (fun _ _ _ h => h) (Or.inr ⟨by rfl, rfl⟩) hHeld ?_
          try simp only [List.getElem_toArray, List.getElem_cons_zero, List.getElem_cons_succ, Act.put, List.setIfInBounds_toArray, List.set_cons_zero, List.set_cons_succ]
          refine wpAnyT_take (i := 13) (v := ?v123) [14] rfl (by kernel_rfl) (fun _ _ _ h => h) (Or.inl ⟨by rfl, ?hy123⟩) hHeld ?rst123
          case hy123 => (intro wx hSw; obtain ⟨q1, q2, q3, q4, q5, q6, q7⟩ := HF7.out wx hSw; go_simp; try (with_reducible rfl))
          try simp only [List.getElem_toArray, List.getElem_cons_zero, List.getElem_cons_succ, Act.put, List.setIfInBounds_toArray, List.set_cons_zero, List.set_cons_succ]
          refine wpAnyT_take (i := 14) (v := ?v124) [] rfl (by kernel_rfl) (fun _ _ _ h => h) (Or.inl ⟨by rfl, ?hy124⟩) hHeld ?rst124
          case hy124 => (intro wx hSw; obtain ⟨q1, q2, q3, q4, q5, q6, q7⟩ := HF7.out wx hSw; go_simp; try (with_reducible rfl))
          try simp only [List.getElem_toArray, List.getElem_cons_zero, List.getElem_cons_succ, Act.put, List.setIfInBounds_toArray, List.set_cons_zero, List.set_cons_succ]
          refine wpAnyT_take (i := 15) (v := undef) [24, 18] rfl (by kernel_rfl) (fun _ _ _ h => h) (Or.inr ⟨by rfl, rfl⟩) hHeld ?_
          try simp only [List.getElem_toArray, List.getElem_cons_zero, List.getElem_cons_succ, Act.put, List.setIfInBounds_toArray, List.set_cons_zero, List.set_cons_succ]
          refine wpAnyT_take (i := 16) (v := undef) [24, 18] rfl (by kernel_rfl) (fun _ _ _ h => h) (Or.inr ⟨by rfl, rfl⟩) hHeld ?_
          try simp only [List.getElem_toArray, List.getElem_cons_zero, List.getElem_cons_succ, Act.put, List.setIfInBounds_toArray, List.set_cons_zero, List.set_cons_succ]
          refine wpAnyT_take (i := 17) (v := undef) [24, 18] rfl (by kernel_rfl) (fun _ _ _ h => h) (Or.inr ⟨by rfl, rfl⟩) hHeld ?_
          try simp only [List.getElem_toArray, List.getElem_cons_zero, List.getElem_cons_succ, Act.put, List.setIfInBounds_toArray, List.set_cons_zero, List.set_cons_succ]
          refine wpAnyT_take (i := 18) (v := undef) [24] rfl (by kernel_rfl) (fun _ _ _ h => h) (Or.inr ⟨by rfl, rfl⟩) hHeld ?_
          try simp only [List.getElem_toArray, List.getElem_cons_zero, List.getElem_cons_succ, Act.put, List.setIfInBounds_toArray, List.set_cons_zero, List.set_cons_succ]
          refine wpAnyT_take (i := 19) (v := undef) [24, 23, 20] rfl (by kernel_rfl) (fun _ _ _ h => h) (Or.inr ⟨by rfl, rfl⟩) hHeld ?_
          try simp only [List.getElem_toArray, List.getElem_cons_zero, List.getElem_cons_succ, Act.put, List.setIfInBounds_toArray, List.set_cons_zero, List.set_cons_succ]
          refine wpAnyT_take (i := 20) (v := undef) [24, 23] rfl (by kernel_rfl) (fun _ _ _ h => h) (Or.inr ⟨by rfl, rfl⟩) hHeld ?_
          try simp only [List.getElem_toArray, List.getElem_cons_zero, List.getElem_cons_succ, Act.put, List.setIfInBounds_toArray, List.set_cons_zero, List.set_cons_succ]
          refine wpAnyT_take (i := 21) (v := undef) [24, 23, 22] rfl (by kernel_rfl) (fun _ _ _ h => h) (Or.inr ⟨by rfl, rfl⟩) hHeld ?_
          try simp only [List.getElem_toArray, List.getElem_cons_zero, List.getElem_cons_succ, Act.put, List.setIfInBounds_toArray, List.set_cons_zero, List.set_cons_succ]
          refine wpAnyT_take (i := 22) (v := undef) [24, 23] rfl (by kernel_rfl) (fun _ _ _ h => h) (Or.inr ⟨by rfl, rfl⟩) hHeld ?_
          try simp only [List.getElem_toArray, List.getElem_cons_zero, List.getElem_cons_succ, Act.put, List.setIfInBounds_toArray, List.set_cons_zero, List.set_cons_succ]
          refine wpAnyT_take (i := 23) (v := undef) [24] rfl (by kernel_rfl) (fun _ _ _ h => h) (Or.inr ⟨by rfl, rfl⟩) hHeld ?_
          try simp only [List.getElem_toArray, List.getElem_cons_zero, List.getElem_cons_succ, Act.put, List.setIfInBounds_toArray, List.set_cons_zero, List.set_cons_succ]
          refine wpAnyT_take (i := 24) (v := undef) [] rfl (by kernel_rfl) (fun _ _ _ h => h) (Or.inr ⟨by rfl, rfl⟩) hHeld ?_
          try simp only [List.getElem_toArray, List.getElem_cons_zero, List.getElem_cons_succ, Act.put, List.setIfInBounds_toArray, List.set_cons_zero, List.set_cons_succ]
          refine wpAnyT_last (by kernel_rfl) (by kernel_rfl) rfl (fun K hK => ?_)
          go_simp
          refine hK.out _ _ ?_
          clear hK K
          go_wp2_with (fail)
          go_meet
          case rel => exact ⟨true, rfl, (fun h => nomatch h), fun _ => HNE.out, hHeld⟩
      case rest =>
        obtain ⟨c, rfl, hf, ht, hb⟩ := hcut
        have HB5 := Lib.hid (bext HB4.out hb HB4.out.size)
        have HX5 := Lib.hid hb
        clear hb
        rename_i hKc
        refine hKc _ _ ?_
        cases c
        · exact absurd ⟨_, HFU.out (hf rfl)⟩ HNX.out
        · clear hf ht hKc
          go_wp2_with (go_at_call 14; refine (awake_any _).mono ?_; rintro e w8 ⟨rfl, hx8⟩)
          (try simp only [Exit.inBlock, Exit.then])
          refine bodyPost_ret (v := .bool true) (by simp [results, Tryd.results6, go_sem]) rfl ?_
          exact ⟨rfl, bext HB5.out hx8 HB5.out.size⟩
  · rw [decide_eq_false hps] at HGD
    have HMX := Lib.hid (fun W hW => (HMX.out W hW).mono (R' := fun e w' => Below W.heap.size W w' ∧ e = .returned (.tuple #[.slice none 0 0, .int .i64 2])) (fun e w' hr => ⟨hr.1, hr.2.elim (fun h => h.2) (fun h => absurd h.1 hps)⟩))
    have HLG := Lib.hid (fun W hW => (HLG.out W hW).mono (R' := fun e w' => Below W.heap.size W w' ∧ e = .returned (.tuple #[.agg #[.int .i64 0, .int .i64 0, .int .i64 0, .int .i64 0], .int .i64 2])) (fun e w' hr => ⟨hr.1, hr.2.elim (fun h => h.2) (fun h => h.elim (fun h => absurd h.1 hps) (fun h => absurd h.1 hps))⟩))
    clear hps h hz
    go_enter Tryd.func6, Tryd.ntmps6
    go_upto_region 3 with (first
      | (go_at_call 15; refine (HMX.out _ HX0.out).mono ?_; rintro e w1 ⟨hx1, rfl⟩; have HB1 := Lib.hid (bext HX0.out hx1 HX0.out.size); clear hx1)
      | (go_at_call 18; refine (HLG.out _ HB1.out).mono ?_; rintro e w2 ⟨hx2, rfl⟩; have HB2 := Lib.hid (bext HB1.out hx2 HB1.out.size); clear hx2))
    have HB3 := Lib.hid (bext HB2.out (ext_alloc w2 (.cells #[.int .i64 0, .int .i64 0, .int .i64 0, .int .i64 0] 31)) HB2.out.size)
    go_wp2_with (first
      | (go_at_call 21; refine (HGD.out _ HB3.out).mono ?_; rintro e w3 ⟨rfl, hx3⟩; have HB4 := Lib.hid (bext HB3.out hx3 HB3.out.size); clear hx3)
      | (go_at_call 14; refine (awake_any _).mono ?_; rintro e w8 ⟨rfl, hx8⟩))
    (try simp only [Exit.inBlock, Exit.then])
    refine bodyPost_ret (v := .bool true) (by simp [results, Tryd.results6, go_sem]) rfl ?_
    exact ⟨rfl, bext HB4.out hx8 HB4.out.size⟩
  end Go.Proofs.YtmgofdgbenfjmaaDoor
