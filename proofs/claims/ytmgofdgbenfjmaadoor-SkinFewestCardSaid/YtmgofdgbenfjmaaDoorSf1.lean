/- Texts joined: Spt, Sft. Conditions: see each. -/
import Derived.Test.YtmgofdgbenfjmaaDoorSp
import Derived.Test.YtmgofdgbenfjmaaDoorRg1
import Derived.Test.YtmgofdgbenfjmaaDoorSk1
namespace Go.Proofs.YtmgofdgbenfjmaaDoor
open Go.RowKit

/-- what Split answers -/
def RetSs (w : World) (l : List ByteArray) (g : Int) (e : Ending) (w' : World) : Prop :=
  Below w.heap.size w w' ∧ ((¬ PsOk l g ∧ e = .returned (.tuple #[.slice none 0 0, .int .i64 2])) ∨
    (PsOk l g ∧ ∃ A cap ms, e = .returned (.tuple #[.slice A ms.length cap, .int .i64 0]) ∧ ms.length ≤ cap ∧ cap ≤ 9223372036854775807 ∧ ms.length ≤ 2304 ∧ RSl w' A ms ∧ ms.Pairwise rlt ∧ ms.length = (splB (us l g) (wid l) l.length 3000).length ∧ (∀ r, r ∈ ms ↔ r ∈ (splB (us l g) (wid l) l.length 3000).map bxR)))
set_option maxRecDepth 100000 in
set_option maxHeartbeats 8000000 in
theorem ssplit_any (A : Option Addr) (cap : Nat) (l : List ByteArray) (g : Int) (w : World) (hc : l.length ≤ cap) (hcm : cap ≤ 9223372036854775807) (h : TSl w A l) (hz : TSz l) :
    Calls Tryd.prog 32 #[.slice A l.length cap, .int .i64 g] w (RetSs w l g) := by
  have hmm := @run_makeMap Tryd.prog
  have hmf : ∀ (fn : Fn) (first cap : Array Value) (w : World), (Instr.makeFunc fn first cap).run Tryd.prog w = .ok (.func fn first cap) w := fun _ _ _ _ => rfl
  have HV := Lib.hid (fun W (hW : Below w.heap.size w W) => valid_any A cap l W hc hcm (h.ext hW) hz)
  have HL := Lib.hid (fun W => least_any g W)
  have hx1 := ext_alloc w (.cells #[.slice A l.length cap] 22)
  have hx2 := ext_alloc (w.alloc (.cells #[.slice A l.length cap] 22)) (.cells #[.int .i64 g] 3)
  have HX := Lib.hid (ext_trans hx1 hx2)
  have HB1 := Lib.hid ((Bk.new 22 w #[.slice A l.length cap]).ext hx2)
  have HB2 := Bk.new 3 (w.alloc (.cells #[.slice A l.length cap] 22)) #[.int .i64 g]
  rw [World.size_alloc] at HB2
  have HB2 := Lib.hid HB2
  have HT := Lib.hid h
  clear hx1 hx2 h hz
  go_enter Tryd.func32, Tryd.ntmps32
  go_upto_region 1 with (fail)
  obtain ⟨X, hX⟩ : ∃ X, X = (w.alloc (.cells #[.slice A l.length cap] 22)).alloc (.cells #[.int .i64 g] 3) := ⟨_, rfl⟩
  obtain ⟨p2, hp2⟩ : ∃ p2, p2 = w.heap.size := ⟨_, rfl⟩
  obtain ⟨p3, hp3⟩ : ∃ p3, p3 = w.heap.size + 1 := ⟨_, rfl⟩
  rw [← hX] at HX HB1 HB2 ⊢
  rw [← hp3] at HB2 ⊢
  rw [← hp2] at HB1 ⊢
  clear hX hp2 hp3
  obtain ⟨f1, f2, f3⟩ := HB1.out.facts
  by_cases hok : SkOk l
  · rw [decide_eq_true hok] at HV
    have HOK := Lib.hid hok
    clear hok
    by_cases hg : 1 ≤ g ∧ g ≤ 9
    · rw [decide_eq_true hg] at HL
      have HG := Lib.hid hg
      clear hg
      go_upto_region 3 with (first
        | (go_at_call 42; refine (HV.out _ HX.out).mono ?_; rintro e w1 ⟨rfl, hx1⟩; have HX1 := Lib.hid hx1; obtain ⟨k1, k2, k3⟩ := (HB2.out.ext hx1).facts; clear hx1)
        | (go_at_call 43; refine (HL.out _).mono ?_; rintro e w2 ⟨rfl, rfl⟩))
      have HXW := Lib.hid (ext_trans HX.out HX1.out)
      have HC1 := Lib.hid (HB1.out.ext HX1.out)
      have HC2 := Lib.hid (HB2.out.ext HX1.out)
      have HT1 := Lib.hid (HT.out.ext HXW.out)
      clear f1 f2 f3 k1 k2 k3 HX HB1 HB2 HT HV HL HX1
      have hl1 := HOK.out.1
      obtain ⟨r0, l0, hl⟩ : ∃ r0 l0, l = r0 :: l0 := by
        cases l with
        | nil => simp at hl1
        | cons r0 l0 => exact ⟨_, _, rfl⟩
      obtain ⟨bs, off, hA, hlt, hcl⟩ : ∃ bs off, A = some ⟨bs, off, none⟩ ∧ bs < w2.heap.size ∧ ∀ j (h : j < l.length), w2.cell? ⟨bs, off + j, none⟩ = some (.string l[j]) := by
        rcases HT1.out with h0 | h0
        · rw [h0] at hl; cases hl
        · exact h0
      subst hA
      have HCL := Lib.hid hcl
      have HLT := Lib.hid hlt
      have hl0 : (0 : Int) < (l.length : Int) := by omega
      have HR0 := Lib.hid (show w2.cell? ⟨bs, off, none⟩ = some (.string r0) from by have := hcl 0 hl1; subst hl; exact this)
      have HWD := Lib.hid (show wid l = r0.size from by rw [hl]; rfl)
      clear hl hcl hlt HT1
      have HL2 : 0 < l.length := hl1
      refine wp_region_T (S := fun wx => Below w2.heap.size w2 wx) 11 (by kernel_rfl) (ext_drew _) (fun hHeld => ?_)
      obtain ⟨Y, hY⟩ : ∃ Y, Y = w2.drew := ⟨_, rfl⟩
      rw [← hY] at hHeld ⊢
      clear hY
      refine wpAnyT_take (i := 0) (v := ?v1) [] rfl (by kernel_rfl) (fun _ _ _ h => h) (Or.inl ⟨by rfl, ?hy1⟩) hHeld ?rst1
      case hy1 => (intro wx hSw; have q1 := Bk.cell (HC1.out.ext hSw); have q2 := Bk.cell (HC2.out.ext hSw); have q3 := (hSw.cell (p := ⟨bs, off, none⟩) HLT.out).trans HR0.out; go_simp; try (with_reducible rfl))
      try simp only [List.getElem_toArray, List.getElem_cons_zero, Act.put, List.setIfInBounds_toArray, List.set_cons_zero, List.set_cons_succ]
      refine wpAnyT_take (i := 1) (v := ?v2) [] rfl (by kernel_rfl) (fun _ _ _ h => h) (Or.inl ⟨by rfl, ?hy2⟩) hHeld ?rst2
      case hy2 => (intro wx hSw; have q1 := Bk.cell (HC1.out.ext hSw); have q2 := Bk.cell (HC2.out.ext hSw); have q3 := (hSw.cell (p := ⟨bs, off, none⟩) HLT.out).trans HR0.out; go_simp; try (with_reducible rfl))
      try simp only [List.getElem_toArray, List.getElem_cons_zero, List.getElem_cons_succ, Act.put, List.setIfInBounds_toArray, List.set_cons_zero, List.set_cons_succ]
      refine wpAnyT_take (i := 2) (v := ?v3) [] rfl (by kernel_rfl) (fun _ _ _ h => h) (Or.inl ⟨by rfl, ?hy3⟩) hHeld ?rst3
      case hy3 => (intro wx hSw; have q1 := Bk.cell (HC1.out.ext hSw); have q2 := Bk.cell (HC2.out.ext hSw); have q3 := (hSw.cell (p := ⟨bs, off, none⟩) HLT.out).trans HR0.out; go_simp; try (with_reducible rfl))
      try simp only [List.getElem_toArray, List.getElem_cons_zero, List.getElem_cons_succ, Act.put, List.setIfInBounds_toArray, List.set_cons_zero, List.set_cons_succ]
      refine wpAnyT_take (i := 3) (v := ?v4) [] rfl (by kernel_rfl) (fun _ _ _ h => h) (Or.inl ⟨by rfl, ?hy4⟩) hHeld ?rst4
      case hy4 => (intro wx hSw; have q1 := Bk.cell (HC1.out.ext hSw); have q2 := Bk.cell (HC2.out.ext hSw); have q3 := (hSw.cell (p := ⟨bs, off, none⟩) HLT.out).trans HR0.out; go_simp; try (with_reducible rfl))
      try simp only [List.getElem_toArray, List.getElem_cons_zero, List.getElem_cons_succ, Act.put, List.setIfInBounds_toArray, List.set_cons_zero, List.set_cons_succ]
      refine wpAnyT_take (i := 4) (v := ?v5) [] rfl (by kernel_rfl) (fun _ _ _ h => h) (Or.inl ⟨by rfl, ?hy5⟩) hHeld ?rst5
      case hy5 => (intro wx hSw; have q1 := Bk.cell (HC1.out.ext hSw); have q2 := Bk.cell (HC2.out.ext hSw); have q3 := (hSw.cell (p := ⟨bs, off, none⟩) HLT.out).trans HR0.out; go_simp; try (with_reducible rfl))
      try simp only [List.getElem_toArray, List.getElem_cons_zero, List.getElem_cons_succ, Act.put, List.setIfInBounds_toArray, List.set_cons_zero, List.set_cons_succ]
      refine wpAnyT_take (i := 5) (v := ?v6) [] rfl (by kernel_rfl) (fun _ _ _ h => h) (Or.inl ⟨by rfl, ?hy6⟩) hHeld ?rst6
      case hy6 => (intro wx hSw; have q1 := Bk.cell (HC1.out.ext hSw); have q2 := Bk.cell (HC2.out.ext hSw); have q3 := (hSw.cell (p := ⟨bs, off, none⟩) HLT.out).trans HR0.out; go_simp; try (with_reducible rfl))
      try simp only [List.getElem_toArray, List.getElem_cons_zero, List.getElem_cons_succ, Act.put, List.setIfInBounds_toArray, List.set_cons_zero, List.set_cons_succ]
      refine wpAnyT_take (i := 6) (v := ?v7) [] rfl (by kernel_rfl) (fun _ _ _ h => h) (Or.inl ⟨by rfl, ?hy7⟩) hHeld ?rst7
      case hy7 => (intro wx hSw; have q1 := Bk.cell (HC1.out.ext hSw); have q2 := Bk.cell (HC2.out.ext hSw); have q3 := (hSw.cell (p := ⟨bs, off, none⟩) HLT.out).trans HR0.out; go_simp; try (with_reducible rfl))
      try simp only [List.getElem_toArray, List.getElem_cons_zero, List.getElem_cons_succ, Act.put, List.setIfInBounds_toArray, List.set_cons_zero, List.set_cons_succ]
      have HYS := Lib.hid hHeld
      have HKA := Lib.hid (show Below w2.heap.size w2 (Y.alloc (.map #[] 0)) from HYS.out.alloc HYS.out.size _)
      have HKB := Lib.hid (show Below w2.heap.size w2 ((Y.alloc (.map #[] 0)).alloc (.map #[] 0)) from HKA.out.alloc HKA.out.size _)
      have HM1 := Lib.hid ((Mf.new Y).ext (ext_alloc _ (.map #[] 0)))
      have HM2 := Mf.new (Y.alloc (.map #[] 0))
      rw [World.size_alloc] at HM2
      have HM2 := Lib.hid HM2
      refine wpAnyT_two (i := 7) (j := 8) (by kernel_rfl) rfl rfl (fun K hK => ?_) (fun K hK => ?_)
      · go_simp
        refine hK.out _ _ HKA.out (fun hHeld => ?_)
        clear hK K
        try simp only [List.getElem_toArray, List.getElem_cons_zero, List.getElem_cons_succ, Act.put, List.setIfInBounds_toArray, List.set_cons_zero, List.set_cons_succ]
        refine wpAnyT_one (i := 8) (by kernel_rfl) rfl (fun K hK => ?_)
        go_simp
        refine hK.out _ _ (HKB.out) (fun hHeld => ?_)
        clear hK K
        try simp only [List.getElem_toArray, List.getElem_cons_zero, List.getElem_cons_succ, Act.put, List.setIfInBounds_toArray, List.set_cons_zero, List.set_cons_succ]
        refine wpAnyT_take (i := 9) (v := ?v8) [] rfl (by kernel_rfl) (fun _ _ _ h => h) (Or.inl ⟨by rfl, ?hy8⟩) hHeld ?rst8
        case hy8 => (intro wx hSw; have q1 := Bk.cell (HC1.out.ext hSw); have q2 := Bk.cell (HC2.out.ext hSw); have q3 := (hSw.cell (p := ⟨bs, off, none⟩) HLT.out).trans HR0.out; go_simp; try (with_reducible rfl))
        try simp only [List.getElem_toArray, List.getElem_cons_zero, List.getElem_cons_succ, Act.put, List.setIfInBounds_toArray, List.set_cons_zero, List.set_cons_succ]
        obtain ⟨Z, hZ⟩ : ∃ Z, Z = (Y.alloc (.map #[] 0)).alloc (.map #[] 0) := ⟨_, rfl⟩
        obtain ⟨b1, hb1⟩ : ∃ b1, b1 = Y.heap.size := ⟨_, rfl⟩
        obtain ⟨b2, hb2⟩ : ∃ b2, b2 = Y.heap.size + 1 := ⟨_, rfl⟩
        have HBB := Lib.hid (show b1 ≠ b2 ∧ w2.heap.size ≤ b1 ∧ w2.heap.size ≤ b2 from by have h1 := HYS.out.size; omega)
        rw [← hZ] at HKB HM1 HM2 hHeld ⊢
        rw [← hb2] at HM2 ⊢; rw [← hb1] at HM1 ⊢
        clear hZ hb1 hb2
        have HMA := Lib.hid HM1.out
        have HMB := Lib.hid HM2.out
        clear HM1 HM2
        have HZX := Lib.hid (ext_alloc Z (.cells #[.int .i64 r0.size, .int .i64 l.length, .func (.func 70) #[] #[.pointer (some ⟨p2, 0, none⟩), .pointer (some ⟨p3, 0, none⟩)], .map (some b1), .map (some b2)] 113))
        have HZB := Lib.hid (Bk.new 113 Z #[.int .i64 r0.size, .int .i64 l.length, .func (.func 70) #[] #[.pointer (some ⟨p2, 0, none⟩), .pointer (some ⟨p3, 0, none⟩)], .map (some b1), .map (some b2)])
        have HKC := Lib.hid (show Below w2.heap.size w2 (Z.alloc (.cells #[.int .i64 r0.size, .int .i64 l.length, .func (.func 70) #[] #[.pointer (some ⟨p2, 0, none⟩), .pointer (some ⟨p3, 0, none⟩)], .map (some b1), .map (some b2)] 113)) from HKB.out.alloc HKB.out.size _)
        refine wpAnyT_one (i := 10) (by kernel_rfl) rfl (fun K hK => ?_)
        go_simp
        refine hK.out _ _ (HKC.out) (fun hHeld => ?_)
        clear hK K
        try simp only [List.getElem_toArray, List.getElem_cons_zero, List.getElem_cons_succ, Act.put, List.setIfInBounds_toArray, List.set_cons_zero, List.set_cons_succ]
        refine wpAnyT_last (by kernel_rfl) (by kernel_rfl) rfl (fun K hK => ?_)
        go_simp
        refine hK.out _ _ ?_
        clear hK K
        obtain ⟨Z2, hZ2⟩ : ∃ Z2, Z2 = Z.alloc (.cells #[.int .i64 r0.size, .int .i64 l.length, .func (.func 70) #[] #[.pointer (some ⟨p2, 0, none⟩), .pointer (some ⟨p3, 0, none⟩)], .map (some b1), .map (some b2)] 113) := ⟨_, rfl⟩
        obtain ⟨p6, hp6⟩ : ∃ p6, p6 = Z.heap.size := ⟨_, rfl⟩
        rw [← hZ2] at HZX HZB HKC hHeld ⊢
        rw [← hp6] at HZB ⊢
        have HB6 := Lib.hid (show b1 < p6 ∧ b2 < p6 from by have h1 := HMA.out.lt; have h2 := HMB.out.lt; omega)
        clear hZ2 hp6
        have HPQ := Lib.hid (show PlQ Z2 p6 l g b1 b2 from ⟨HOK.out, ⟨p2, p3, bs, off, cap, fun j hj => (HKC.out.cell (p := ⟨bs, off + j, none⟩) HLT.out).trans (HCL.out j hj), (HC1.out.ext HKC.out).cell 0, (HC2.out.ext HKC.out).cell 0, HZB.out.cell 2, by have h1 := HBB.out; have h2 := HLT.out; have h3 := HC1.out.lt; have h4 := HC2.out.lt; omega⟩, by rw [HWD.out]; exact HZB.out.cell 0, HZB.out.cell 1, HZB.out.cell 3, HZB.out.cell 4, by have h1 := HBB.out; have h2 := HB6.out; omega⟩)
        have HSP := Lib.hid (split_any p6 l g b1 b2 Z2 HPQ.out (HMA.out.ext HZX.out) (HMB.out.ext HZX.out) HG.out.1)
        go_wp2_with (go_at_call 71; refine (HSP.out).mono ?_; rintro e w3 ⟨A2, c2, ms, rfl, j1, j2, j3, j4, j5, j6, j7, j8⟩; have HJ := Lib.hid (And.intro j1 (And.intro j2 (And.intro j3 (And.intro j4 (And.intro j5 (And.intro j6 j7)))))); have HJ8 := Lib.hid j8; clear j1 j2 j3 j4 j5 j6 j7 j8)
        refine bodyPost_ret (v := .tuple #[.slice A2 ms.length c2, .int .i64 0]) (by simp [results, Tryd.results32, go_sem]) rfl ?_
        exact ⟨ext_trans HXW.out (HKC.out.trans (HJ8.out.below HBB.out.2.1 HBB.out.2.2 HKC.out.size)), .inr ⟨⟨HOK.out, HG.out.1, HG.out.2⟩, A2, c2, ms, rfl, HJ.out⟩⟩
      · go_simp
        refine hK.out _ _ HKA.out (fun hHeld => ?_)
        clear hK K
        try simp only [List.getElem_toArray, List.getElem_cons_zero, List.getElem_cons_succ, Act.put, List.setIfInBounds_toArray, List.set_cons_zero, List.set_cons_succ]
        refine wpAnyT_one (i := 7) (by kernel_rfl) rfl (fun K hK => ?_)
        go_simp
        refine hK.out _ _ (HKB.out) (fun hHeld => ?_)
        clear hK K
        try simp only [List.getElem_toArray, List.getElem_cons_zero, List.getElem_cons_succ, Act.put, List.setIfInBounds_toArray, List.set_cons_zero, List.set_cons_succ]
        refine wpAnyT_take (i := 9) (v := ?v9) [] rfl (by kernel_rfl) (fun _ _ _ h => h) (Or.inl ⟨by rfl, ?hy9⟩) hHeld ?rst9
        case hy9 => (intro wx hSw; have q1 := Bk.cell (HC1.out.ext hSw); have q2 := Bk.cell (HC2.out.ext hSw); have q3 := (hSw.cell (p := ⟨bs, off, none⟩) HLT.out).trans HR0.out; go_simp; try (with_reducible rfl))
        try simp only [List.getElem_toArray, List.getElem_cons_zero, List.getElem_cons_succ, Act.put, List.setIfInBounds_toArray, List.set_cons_zero, List.set_cons_succ]
        obtain ⟨Z, hZ⟩ : ∃ Z, Z = (Y.alloc (.map #[] 0)).alloc (.map #[] 0) := ⟨_, rfl⟩
        obtain ⟨b1, hb1⟩ : ∃ b1, b1 = Y.heap.size + 1 := ⟨_, rfl⟩
        obtain ⟨b2, hb2⟩ : ∃ b2, b2 = Y.heap.size := ⟨_, rfl⟩
        have HBB := Lib.hid (show b1 ≠ b2 ∧ w2.heap.size ≤ b1 ∧ w2.heap.size ≤ b2 from by have h1 := HYS.out.size; omega)
        rw [← hZ] at HKB HM1 HM2 hHeld ⊢
        rw [← hb1] at HM2 ⊢; rw [← hb2] at HM1 ⊢
        clear hZ hb1 hb2
        have HMA := Lib.hid HM2.out
        have HMB := Lib.hid HM1.out
        clear HM1 HM2
        have HZX := Lib.hid (ext_alloc Z (.cells #[.int .i64 r0.size, .int .i64 l.length, .func (.func 70) #[] #[.pointer (some ⟨p2, 0, none⟩), .pointer (some ⟨p3, 0, none⟩)], .map (some b1), .map (some b2)] 113))
        have HZB := Lib.hid (Bk.new 113 Z #[.int .i64 r0.size, .int .i64 l.length, .func (.func 70) #[] #[.pointer (some ⟨p2, 0, none⟩), .pointer (some ⟨p3, 0, none⟩)], .map (some b1), .map (some b2)])
        have HKC := Lib.hid (show Below w2.heap.size w2 (Z.alloc (.cells #[.int .i64 r0.size, .int .i64 l.length, .func (.func 70) #[] #[.pointer (some ⟨p2, 0, none⟩), .pointer (some ⟨p3, 0, none⟩)], .map (some b1), .map (some b2)] 113)) from HKB.out.alloc HKB.out.size _)
        refine wpAnyT_one (i := 10) (by kernel_rfl) rfl (fun K hK => ?_)
        go_simp
        refine hK.out _ _ (HKC.out) (fun hHeld => ?_)
        clear hK K
        try simp only [List.getElem_toArray, List.getElem_cons_zero, List.getElem_cons_succ, Act.put, List.setIfInBounds_toArray, List.set_cons_zero, List.set_cons_succ]
        refine wpAnyT_last (by kernel_rfl) (by kernel_rfl) rfl (fun K hK => ?_)
        go_simp
        refine hK.out _ _ ?_
        clear hK K
        obtain ⟨Z2, hZ2⟩ : ∃ Z2, Z2 = Z.alloc (.cells #[.int .i64 r0.size, .int .i64 l.length, .func (.func 70) #[] #[.pointer (some ⟨p2, 0, none⟩), .pointer (some ⟨p3, 0, none⟩)], .map (some b1), .map (some b2)] 113) := ⟨_, rfl⟩
        obtain ⟨p6, hp6⟩ : ∃ p6, p6 = Z.heap.size := ⟨_, rfl⟩
        rw [← hZ2] at HZX HZB HKC hHeld ⊢
        rw [← hp6] at HZB ⊢
        have HB6 := Lib.hid (show b1 < p6 ∧ b2 < p6 from by have h1 := HMA.out.lt; have h2 := HMB.out.lt; omega)
        clear hZ2 hp6
        have HPQ := Lib.hid (show PlQ Z2 p6 l g b1 b2 from ⟨HOK.out, ⟨p2, p3, bs, off, cap, fun j hj => (HKC.out.cell (p := ⟨bs, off + j, none⟩) HLT.out).trans (HCL.out j hj), (HC1.out.ext HKC.out).cell 0, (HC2.out.ext HKC.out).cell 0, HZB.out.cell 2, by have h1 := HBB.out; have h2 := HLT.out; have h3 := HC1.out.lt; have h4 := HC2.out.lt; omega⟩, by rw [HWD.out]; exact HZB.out.cell 0, HZB.out.cell 1, HZB.out.cell 3, HZB.out.cell 4, by have h1 := HBB.out; have h2 := HB6.out; omega⟩)
        have HSP := Lib.hid (split_any p6 l g b1 b2 Z2 HPQ.out (HMA.out.ext HZX.out) (HMB.out.ext HZX.out) HG.out.1)
        go_wp2_with (go_at_call 71; refine (HSP.out).mono ?_; rintro e w3 ⟨A2, c2, ms, rfl, j1, j2, j3, j4, j5, j6, j7, j8⟩; have HJ := Lib.hid (And.intro j1 (And.intro j2 (And.intro j3 (And.intro j4 (And.intro j5 (And.intro j6 j7)))))); have HJ8 := Lib.hid j8; clear j1 j2 j3 j4 j5 j6 j7 j8)
        refine bodyPost_ret (v := .tuple #[.slice A2 ms.length c2, .int .i64 0]) (by simp [results, Tryd.results32, go_sem]) rfl ?_
        exact ⟨ext_trans HXW.out (HKC.out.trans (HJ8.out.below HBB.out.2.1 HBB.out.2.2 HKC.out.size)), .inr ⟨⟨HOK.out, HG.out.1, HG.out.2⟩, A2, c2, ms, rfl, HJ.out⟩⟩
    · rw [decide_eq_false hg] at HL
      have HNO := Lib.hid (show ¬ PsOk l g from fun h => hg h.2)
      clear hg
      go_wp2_with (first
        | (go_at_call 42; refine (HV.out _ HX.out).mono ?_; rintro e w1 ⟨rfl, hx1⟩; have HX1 := Lib.hid hx1; obtain ⟨k1, k2, k3⟩ := (HB2.out.ext hx1).facts; clear hx1)
        | (go_at_call 43; refine (HL.out _).mono ?_; rintro e w2 ⟨rfl, rfl⟩))
      refine bodyPost_ret (v := .tuple #[.slice none 0 0, .int .i64 2]) (by simp [results, Tryd.results32, go_sem]) rfl ?_
      exact ⟨ext_trans HX.out HX1.out, .inl ⟨HNO.out, rfl⟩⟩
  · rw [decide_eq_false hok] at HV
    have HNO := Lib.hid (show ¬ PsOk l g from fun h => hok h.1)
    clear hok
    go_wp2_with (first
      | (go_at_call 42; refine (HV.out _ HX.out).mono ?_; rintro e w1 ⟨rfl, hx1⟩; have HX1 := Lib.hid hx1; clear hx1)
      | (go_at_call 43; refine (HL.out _).mono ?_; rintro e w2 ⟨rfl, rfl⟩))
    refine bodyPost_ret (v := .tuple #[.slice none 0 0, .int .i64 2]) (by simp [results, Tryd.results32, go_sem]) rfl ?_
    exact ⟨ext_trans HX.out HX1.out, .inl ⟨HNO.out, rfl⟩⟩

/-- what Fewest answers -/
def RetFw (w : World) (l : List ByteArray) (g : Int) (e : Ending) (w' : World) : Prop :=
  Below w.heap.size w w' ∧ ((¬ PsOk l g ∧ e = .returned (.tuple #[.int .i64 0, .int .i64 2])) ∨
    (PsOk l g ∧ e = .returned (.tuple #[.int .i64 (splB (us l g) (wid l) l.length 3000).length, .int .i64 0])))
set_option maxRecDepth 100000 in
set_option maxHeartbeats 4000000 in
theorem sfewest_any (A : Option Addr) (cap : Nat) (l : List ByteArray) (g : Int) (w : World) (hc : l.length ≤ cap) (hcm : cap ≤ 9223372036854775807) (h : TSl w A l) (hz : TSz l) :
    Calls Tryd.prog 30 #[.slice A l.length cap, .int .i64 g] w (RetFw w l g) := by
  have HS := Lib.hid (ssplit_any A cap l g w hc hcm h hz)
  clear h hz
  by_cases hps : PsOk l g
  · have HPS := Lib.hid hps
    have HS := Lib.hid (HS.out.mono (R' := fun e w' => Below w.heap.size w w' ∧ ∃ A cap n, e = .returned (.tuple #[.slice A n cap, .int .i64 0]) ∧ n ≤ cap ∧ cap ≤ 9223372036854775807 ∧ n = (splB (us l g) (wid l) l.length 3000).length) (fun e w' hr => ⟨hr.1, hr.2.elim (fun h => absurd hps h.1) (fun h => by obtain ⟨_, A, cap, ms, h1, h2, h3, h4, h5, h6, h7, h8⟩ := h; exact ⟨A, cap, ms.length, h1, h2, h3, h7⟩)⟩))
    clear hps
    go_enter Tryd.func30, Tryd.ntmps30
    go_wp2_with (go_at_call 32; refine (HS.out).mono ?_; rintro e w1 ⟨hx, A1, c1, n, rfl, k1, k2, hn⟩; have HN := Lib.hid hn; have HX := Lib.hid hx; clear hn hx)
    refine bodyPost_ret (v := .tuple #[.int .i64 n, .int .i64 0]) (by simp [results, Tryd.results30, go_sem]) rfl ?_
    exact ⟨HX.out, .inr ⟨HPS.out, by rw [HN.out]⟩⟩
  · have HPS := Lib.hid hps
    have HS := Lib.hid (HS.out.mono (R' := fun e w' => Below w.heap.size w w' ∧ e = .returned (.tuple #[.slice none 0 0, .int .i64 2])) (fun e w' hr => ⟨hr.1, hr.2.elim (fun h => h.2) (fun h => absurd h.1 hps)⟩))
    clear hps
    go_enter Tryd.func30, Tryd.ntmps30
    go_wp2_with (go_at_call 32; refine (HS.out).mono ?_; rintro e w1 ⟨hx, rfl⟩; have HX := Lib.hid hx; clear hx)
    refine bodyPost_ret (v := .tuple #[.int .i64 0, .int .i64 2]) (by simp [results, Tryd.results30, go_sem]) rfl ?_
    exact ⟨HX.out, .inl ⟨HPS.out, rfl⟩⟩
end Go.Proofs.YtmgofdgbenfjmaaDoor
