/- apart walked: the greatest set of chords no two of which meet. Conditions: two slices of chords in memory. -/
import Derived.Test.YtmgofdgbenfjmaaDoorSg1
import Derived.Test.YtmgofdgbenfjmaaDoorFn
import Derived.Test.YtmgofdgbenfjmaaDoorRh
import Derived.Laws.EntriesVeiled
import Derived.Test.YtmgofdgbenfjmaaDoorRg1
namespace Go.Proofs.YtmgofdgbenfjmaaDoor
open Go.RowKit

/-- what apart answers -/
def RetAp (W : World) (L : List Chd) (e : Ending) (w' : World) : Prop :=
  ∃ A c, e = .returned (.slice A L.length c) ∧ L.length ≤ c ∧ c ≤ 9223372036854775807 ∧ HSl W.heap.size w' A L ∧ Below W.heap.size W w'
/-- the boxes of the two slices and of the partners' row -/
def ApM (F S : List Chd) (A1 A2 : Option Addr) (c1 c2 : Nat) (W : World) (p2 p3 p5 mb : Nat) (wr : World) : Prop :=
  Bk 151 wr p2 #[.slice A1 F.length c1] ∧ Bk 151 wr p3 #[.slice A2 S.length c2] ∧ Bk 64 wr p5 #[.slice (some ⟨mb, 0, none⟩) S.length S.length] ∧ Below W.heap.size W wr
section
variable {F S : List Chd} {A1 A2 : Option Addr} {c1 c2 : Nat} {W wr w' : World} {p2 p3 p5 mb : Nat}
theorem ApM.ext (h : ApM F S A1 A2 c1 c2 W p2 p3 p5 mb wr) (hb : Below wr.heap.size wr w') : ApM F S A1 A2 c1 c2 W p2 p3 p5 mb w' := ⟨h.1.ext hb, h.2.1.ext hb, h.2.2.1.ext hb, ext_trans h.2.2.2 hb⟩
theorem ApM.set (h : ApM F S A1 A2 c1 c2 W p2 p3 p5 mb wr) {k j : Nat} (n2 : p2 ≠ k) (n3 : p3 ≠ k) (n5 : p5 ≠ k) (hk : W.heap.size ≤ k) (v : Value) : ApM F S A1 A2 c1 c2 W p2 p3 p5 mb (wr.setCell ⟨k, j, none⟩ v) := ⟨h.1.set_ne n2 _, h.2.1.set_ne n3 _, h.2.2.1.set_ne n5 _, h.2.2.2.setCell (p := ⟨k, j, none⟩) hk v⟩
theorem HSu.below {A : Option Addr} {l : List Chd} (h : HSu W.heap.size W A l) (hb : Below W.heap.size W wr) : HSu W.heap.size wr A l := h.cells fun b i _v hlt hc => (hb.cell (p := ⟨b, i, none⟩) hlt).trans hc
end
theorem FiK.setC {F S : List Chd} {B0 B1 p2 p3 p5 p8 mb k j : Nat} {w : World} (h : FiK F S B0 B1 p2 p3 p5 p8 mb w) (n2 : p2 ≠ k) (n3 : p3 ≠ k) (n5 : p5 ≠ k) (n8 : p8 ≠ k) (hk : B0 ≤ k) (v : Value) : FiK F S B0 B1 p2 p3 p5 p8 mb (w.setCell ⟨k, j, none⟩ v) := by
  have c : ∀ {b i : Nat} {x : Value}, w.cell? ⟨b, i, none⟩ = some x → b ≠ k → (w.setCell ⟨k, j, none⟩ v).cell? ⟨b, i, none⟩ = some x := fun {b i x} hc hb => (But2.set1 w k k j v).cell hc hb hb
  obtain ⟨⟨A, c', h1, h2⟩, ⟨A', c'', h3, h4⟩, h5, h6, m2, m3, m5, m8, nm⟩ := h
  have hu : ∀ b i x, b < B0 → w.cell? ⟨b, i, none⟩ = some x → (w.setCell ⟨k, j, none⟩ v).cell? ⟨b, i, none⟩ = some x := fun b i x hlt hc => c hc (by omega)
  exact ⟨⟨A, c', c h1 n2, h2.cells hu⟩, ⟨A', c'', c h3 n3, h4.cells hu⟩, c h5 n5, c h6 n8, m2, m3, m5, m8, nm⟩
theorem foldl_tk {α β : Type} (f : β → α → β) (l : List α) (z : β) {j : Nat} (h : j < l.length) : (l.take (j + 1)).foldl f z = f ((l.take j).foldl f z) l[j] := by
  rw [List.take_succ_eq_append_getElem h, List.foldl_append]; rfl
set_option maxRecDepth 100000 in
set_option maxHeartbeats 16000000 in
theorem apart_any (F S : List Chd) (A1 A2 : Option Addr) (c1 c2 : Nat) (W : World) (hF : HSl 0 W A1 F) (hS : HSl 0 W A2 S) (hFn : F.length ≤ 100000) (hSn : S.length ≤ 100000) :
    Calls Tryd.prog 106 #[.slice A1 F.length c1, .slice A2 S.length c2] W (RetAp W (takF F S ++ takS F S)) := by
  have hu : ∀ {A l}, HSl 0 W A l → HSu W.heap.size W A l := fun h => by
    rcases h with h | ⟨b, off, h1, _, h3, h4⟩
    · exact .inl h
    · exact .inr ⟨b, off, h1, h3, h4⟩
  have HF := Lib.hid (hu hF)
  have HS := Lib.hid (hu hS)
  clear hF hS hu
  have hmk := run_zeros S.length (by omega)
  have hmt := run_falses1 F.length (by omega)
  have hms := run_falses1 S.length (by omega)
  go_enter Tryd.func106, Tryd.ntmps106
  go_upto_region 2 with (fail)
  have HA2 := Lib.hid ((((Bk.new 151 W #[.slice A1 F.length c1]).alloc (.cells #[.slice A2 S.length c2] 151)).alloc (.cells (cellsOf S.length fun _ => 0) 3)).alloc (.cells #[.slice (some ⟨W.heap.size + 1 + 1, 0, none⟩) S.length S.length] 64))
  have HA3 := Bk.new 151 (W.alloc (.cells #[.slice A1 F.length c1] 151)) #[.slice A2 S.length c2]
  rw [World.size_alloc] at HA3
  have HA3 := Lib.hid ((HA3.alloc (.cells (cellsOf S.length fun _ => 0) 3)).alloc (.cells #[.slice (some ⟨W.heap.size + 1 + 1, 0, none⟩) S.length S.length] 64))
  have HAM := Ow.new 3 ((W.alloc (.cells #[.slice A1 F.length c1] 151)).alloc (.cells #[.slice A2 S.length c2] 151)) S.length fun _ => 0
  rw [World.size_alloc, World.size_alloc] at HAM
  have HAM := Lib.hid (HAM.ext (ext_alloc _ (.cells #[.slice (some ⟨W.heap.size + 1 + 1, 0, none⟩) S.length S.length] 64)))
  have HA5 := Bk.new 64 (((W.alloc (.cells #[.slice A1 F.length c1] 151)).alloc (.cells #[.slice A2 S.length c2] 151)).alloc (.cells (cellsOf S.length fun _ => 0) 3)) #[.slice (some ⟨W.heap.size + 1 + 1, 0, none⟩) S.length S.length]
  rw [World.size_alloc, World.size_alloc, World.size_alloc] at HA5
  have HA5 := Lib.hid HA5
  have HX := Lib.hid (ext_trans (ext_trans (ext_trans (ext_alloc W (.cells #[.slice A1 F.length c1] 151)) (ext_alloc _ (.cells #[.slice A2 S.length c2] 151))) (ext_alloc _ (.cells (cellsOf S.length fun _ => 0) 3))) (ext_alloc _ (.cells #[.slice (some ⟨W.heap.size + 1 + 1, 0, none⟩) S.length S.length] 64)))
  have HZ := Lib.hid (show ((((W.alloc (.cells #[.slice A1 F.length c1] 151)).alloc (.cells #[.slice A2 S.length c2] 151)).alloc (.cells (cellsOf S.length fun _ => 0) 3)).alloc (.cells #[.slice (some ⟨W.heap.size + 1 + 1, 0, none⟩) S.length S.length] 64)).heap.size = W.heap.size + 4 from by simp only [World.size_alloc])
  obtain ⟨X, hX⟩ : ∃ X, X = (((W.alloc (.cells #[.slice A1 F.length c1] 151)).alloc (.cells #[.slice A2 S.length c2] 151)).alloc (.cells (cellsOf S.length fun _ => 0) 3)).alloc (.cells #[.slice (some ⟨W.heap.size + 1 + 1, 0, none⟩) S.length S.length] 64) := ⟨_, rfl⟩
  rw [← hX] at HA2 HA3 HAM HA5 HX HZ ⊢
  clear hX
  obtain ⟨p2, hp2⟩ : ∃ p2, p2 = W.heap.size := ⟨_, rfl⟩
  obtain ⟨p3, hp3⟩ : ∃ p3, p3 = W.heap.size + 1 := ⟨_, rfl⟩
  obtain ⟨mb, hmb⟩ : ∃ mb, mb = W.heap.size + 1 + 1 := ⟨_, rfl⟩
  obtain ⟨p5, hp5⟩ : ∃ p5, p5 = W.heap.size + 1 + 1 + 1 := ⟨_, rfl⟩
  have HP := Lib.hid (show W.heap.size ≤ p2 ∧ p2 < p3 ∧ p3 < mb ∧ mb < p5 from by omega)
  have HA2' := Lib.hid (show Bk 151 X p2 #[.slice A1 F.length c1] from by rw [hp2]; exact HA2.out)
  have HA3' := Lib.hid (show Bk 151 X p3 #[.slice A2 S.length c2] from by rw [hp3]; exact HA3.out)
  have HAM' := Lib.hid (show Ow 3 mb S.length (fun _ => 0) X from by rw [hmb]; exact HAM.out)
  have HA5' := Lib.hid (show Bk 64 X p5 #[.slice (some ⟨mb, 0, none⟩) S.length S.length] from by rw [hp5, hmb]; exact HA5.out)
  have HPX := Lib.hid (show p5 < X.heap.size from HA5'.out.lt)
  rw [← hp5, ← hmb, ← hp3, ← hp2]
  clear hp2 hp3 hmb hp5 HA2 HA3 HAM HA5 HZ
  have HM0 := Lib.hid (show ApM F S A1 A2 c1 c2 W p2 p3 p5 mb X from ⟨HA2'.out, HA3'.out, HA5'.out, HX.out⟩)
  obtain ⟨f1, f2, f3⟩ := HA5'.out.facts
  clear HA2' HA3' HA5' HX
  go_wp2_with (fail)
  clear f1 f2 f3
  go_loopg [25] S.length (fun gg z wr => ∃ k : Nat, z = .int .i64 k ∧ k ≤ S.length ∧ gg = S.length - k ∧ Ow 3 mb S.length (fun j => if j < k then -1 else 0) wr ∧ ApM F S A1 A2 c1 c2 W p2 p3 p5 mb wr ∧ p5 < wr.heap.size)
  case atStart => exact ⟨0, rfl, by omega, by omega, HAM'.out.congr fun i _ => by simp, HM0.out, HPX.out⟩
  case round =>
    obtain ⟨k, rfl, hk, hgg, ho, hm, hpx⟩ := hrel
    have HG := Lib.hid hgg
    have HO := Lib.hid ho
    have HM := Lib.hid hm
    clear hgg HAM' HM0 HPX
    obtain ⟨f1, f2, f3⟩ := hm.2.2.1.facts
    clear hm
    by_cases hlt : k < S.length
    · have hc := ho.cell hlt
      have hf := ho.frozen k
      have ho2 := HO.out.set k (-1)
      have HO2 := Lib.hid (ho2.congr (e := fun j => if j < k + 1 then -1 else 0) fun i _ => by
        unfold upd
        dsimp only
        by_cases h1 : i = k
        · rw [if_pos h1, if_pos (by omega)]
        · rw [if_neg h1]
          by_cases h2 : i < k
          · rw [if_pos h2, if_pos (by omega)]
          · rw [if_neg h2, if_neg (by omega)])
      have HM2 := Lib.hid (HM.out.set (k := mb) (j := k) (by have := HP.out; omega) (by have := HP.out; omega) (by have := HP.out; omega) (by have := HP.out; omega) (.int .i64 (-1)))
      have HPX2 := Lib.hid (show p5 < (wr.setCell ⟨mb, k, none⟩ (.int .i64 (-1))).heap.size from HM2.out.2.2.1.lt)
      clear ho ho2
      go_wp2
      go_roundg (S.length - (k + 1))
      case measure => have := HG.out; omega
      case rel => exact ⟨k + 1, by go_num, by omega, rfl, HO2.out, HM2.out, HPX2.out⟩
    · obtain rfl : k = S.length := by omega
      have HO1 := Lib.hid (ho.congr (e := kuAll (adjC F S) S.length 0) fun i hi => if_pos hi)
      obtain ⟨g1, g2, g3⟩ := HM.out.1.facts
      clear ho HO f1 f2 f3 hlt hk HG
      go_upto_region 10 with (fail)
      have HT := Lib.hid ((OwB.new wr F.length fun _ => false).ext (ext_alloc _ (.cells #[.func (.func 130) #[] #[.pointer (some ⟨p3, 0, none⟩), .pointer (some ⟨p2, 0, none⟩), .pointer (some ⟨p5, 0, none⟩), .pointer (some ⟨wr.heap.size + 1, 0, none⟩)]] 176)))
      have H8 := Bk.new 176 (wr.alloc (.cells (cellsB F.length fun _ => false) 4)) #[.func (.func 130) #[] #[.pointer (some ⟨p3, 0, none⟩), .pointer (some ⟨p2, 0, none⟩), .pointer (some ⟨p5, 0, none⟩), .pointer (some ⟨wr.heap.size + 1, 0, none⟩)]]
      rw [World.size_alloc] at H8
      have H8 := Lib.hid H8
      have HXX := Lib.hid (ext_trans (ext_alloc wr (.cells (cellsB F.length fun _ => false) 4)) (ext_alloc _ (.cells #[.func (.func 130) #[] #[.pointer (some ⟨p3, 0, none⟩), .pointer (some ⟨p2, 0, none⟩), .pointer (some ⟨p5, 0, none⟩), .pointer (some ⟨wr.heap.size + 1, 0, none⟩)]] 176)))
      have HM3 := Lib.hid (HM.out.ext HXX.out)
      have HO3 := Lib.hid (HO1.out.ext HXX.out)
      obtain ⟨V, hV⟩ : ∃ V, V = (wr.alloc (.cells (cellsB F.length fun _ => false) 4)).alloc (.cells #[.func (.func 130) #[] #[.pointer (some ⟨p3, 0, none⟩), .pointer (some ⟨p2, 0, none⟩), .pointer (some ⟨p5, 0, none⟩), .pointer (some ⟨wr.heap.size + 1, 0, none⟩)]] 176) := ⟨_, rfl⟩
      rw [← hV] at HT H8 HM3 HO3 ⊢
      obtain ⟨tb, htb⟩ : ∃ tb, tb = wr.heap.size := ⟨_, rfl⟩
      obtain ⟨p8, hp8⟩ : ∃ p8, p8 = wr.heap.size + 1 := ⟨_, rfl⟩
      rw [← hp8] at H8 ⊢
      rw [← htb] at HT ⊢
      have HPT := Lib.hid (show p5 < tb ∧ tb < p8 ∧ p8 < V.heap.size from ⟨by omega, by omega, H8.out.lt⟩)
      clear hV htb hp8 g1 g2 g3 HXX HM HO1 hpx
      obtain ⟨B1, hB1⟩ : ∃ B1, B1 = V.heap.size := ⟨_, rfl⟩
      have HB1 := Lib.hid (show B1 ≤ V.heap.size from Nat.le_of_eq hB1)
      have HK0 := Lib.hid (show FiK F S W.heap.size B1 p2 p3 p5 p8 mb V from by
        have h1 := HP.out
        have h2 := HPT.out
        obtain ⟨m1, m2, m3, m4⟩ := HM3.out
        exact ⟨⟨A1, c1, m1.cell 0, HF.out.below m4⟩, ⟨A2, c2, m2.cell 0, HS.out.below m4⟩, m3.cell 0, H8.out.cell 0, by omega, by omega, by omega, by omega, by omega⟩)
      have HBW := Lib.hid HM3.out.2.2.2
      clear hB1 HM3 H8
      obtain ⟨⟨AF, cF, hc2, hF2⟩, _⟩ := HK0.out
      clear hF2
      go_wp2_with (fail)
      clear hc2
      go_loopg [38] F.length (fun gg z wr => ∃ k : Nat, z = .int .i64 k ∧ k ≤ F.length ∧ gg = F.length - k ∧ FiK F S W.heap.size B1 p2 p3 p5 p8 mb wr ∧ Ow 3 mb S.length (kuAll (adjC F S) S.length k) wr ∧ (∃ d, OwB tb F.length d wr) ∧ Below W.heap.size W wr ∧ B1 ≤ wr.heap.size)
      case atStart => exact ⟨0, rfl, by omega, by omega, HK0.out, HO3.out, ⟨_, HT.out⟩, HBW.out, HB1.out⟩
      case round =>
        obtain ⟨k, rfl, hk, hgg, hfk, ho, ⟨d, ht⟩, hbw, hb1⟩ := hrel
        have HG := Lib.hid hgg
        by_cases hlt : k < F.length
        · have HKY := Lib.hid (hfk.ext (ext_drew wr))
          obtain ⟨_, ⟨AS, cS, hc3, hS2⟩, _, hc8, _⟩ := hfk
          have HC3 := Lib.hid hc3
          have HC8 := Lib.hid hc8
          have HOY := Lib.hid (ho.ext (ext_drew wr))
          have HTY := Lib.hid (ht.ext (ext_drew wr))
          have HWY := Lib.hid (ext_trans hbw (ext_drew wr))
          have HTB := Lib.hid ht.lt
          have HX := Lib.hid (ext_trans (ext_drew wr) (ext_alloc wr.drew (.cells (cellsB S.length fun _ => false) 4)))
          have HC := Lib.hid (find_any F S hFn hSn W.heap.size B1 p2 p3 p5 p8 mb wr.heap.size hb1 (S.length + 1) k (fun _ => false, kuAll (adjC F S) S.length k) (wr.drew.alloc (.cells (cellsB S.length fun _ => false) 4)) (by show unm (fun _ => false) S.length < S.length + 1; rw [unm_all]; omega) (HKY.out.ext (ext_alloc _ _)) (HOY.out.ext (ext_alloc _ _)) (OwB.new wr.drew _ _) hlt (kuAll_rg k (by omega)))
          have HTX := Lib.hid (HTY.out.ext (ext_alloc wr.drew (.cells (cellsB S.length fun _ => false) 4)))
          have HWX := Lib.hid (ext_trans HWY.out (ext_alloc wr.drew (.cells (cellsB S.length fun _ => false) 4)))
          have HNE := Lib.hid (show (tb ≠ mb ∧ tb ≠ wr.heap.size ∧ W.heap.size ≤ mb ∧ W.heap.size ≤ wr.heap.size) ∧ (p3 ≠ mb ∧ p3 ≠ wr.heap.size ∧ p8 ≠ mb ∧ p8 ≠ wr.heap.size) ∧ B1 ≤ wr.heap.size from by
            have h1 := HP.out
            have h2 := HPT.out
            have h3 := hbw.size
            have h4 := HTB.out
            have h5 := HB1.out
            have h6 := World.block_lt_of_cell? wr ⟨p8, 0, none⟩ hc8
            have h6 : p8 < wr.heap.size := h6
            omega)
          have hS0 := (show wr.drew.cell? ⟨p3, 0, none⟩ = some (.slice AS S.length cS) ∧ wr.drew.cell? ⟨p8, 0, none⟩ = some (.func (.func 130) #[] #[.pointer (some ⟨p3, 0, none⟩), .pointer (some ⟨p2, 0, none⟩), .pointer (some ⟨p5, 0, none⟩), .pointer (some ⟨p8, 0, none⟩)]) from ⟨hc3, hc8⟩)
          have HSS := Lib.hid hS0
          clear hS2 hgg ho ht hbw hb1 HK0 HO3 HT HBW HB1 HKY HOY HTY HWY hc3 hc8 hS0
          go_upto_region 13 with (fail)
          refine wp_region_T (S := fun wx => wx.cell? ⟨p3, 0, none⟩ = some (.slice AS S.length cS) ∧ wx.cell? ⟨p8, 0, none⟩ = some (.func (.func 130) #[] #[.pointer (some ⟨p3, 0, none⟩), .pointer (some ⟨p2, 0, none⟩), .pointer (some ⟨p5, 0, none⟩), .pointer (some ⟨p8, 0, none⟩)])) 9 (by kernel_rfl) (HSS.out) (fun hHeld => ?_)
          refine wpAnyT_take (i := 0) (v := ?v1) [] rfl (by kernel_rfl) (fun _ _ _ h => h) (Or.inl ⟨by rfl, ?hy1⟩) hHeld ?rst1
          case hy1 => (intro wx hSw; obtain ⟨y3, y8⟩ := hSw; go_simp; try (with_reducible rfl))
          try simp only [List.getElem_toArray, List.getElem_cons_zero, Act.put, List.setIfInBounds_toArray, List.set_cons_zero, List.set_cons_succ]
          refine wpAnyT_take (i := 1) (v := ?v2) [] rfl (by kernel_rfl) (fun _ _ _ h => h) (Or.inl ⟨by rfl, ?hy2⟩) hHeld ?rst2
          case hy2 => (intro wx hSw; obtain ⟨y3, y8⟩ := hSw; go_simp; try (with_reducible rfl))
          try simp only [List.getElem_toArray, List.getElem_cons_zero, List.getElem_cons_succ, Act.put, List.setIfInBounds_toArray, List.set_cons_zero, List.set_cons_succ]
          refine wpAnyT_take (i := 2) (v := ?v3) [] rfl (by kernel_rfl) (fun _ _ _ h => h) (Or.inl ⟨by rfl, ?hy3⟩) hHeld ?rst3
          case hy3 => (intro wx hSw; obtain ⟨y3, y8⟩ := hSw; go_simp; try (with_reducible rfl))
          try simp only [List.getElem_toArray, List.getElem_cons_zero, List.getElem_cons_succ, Act.put, List.setIfInBounds_toArray, List.set_cons_zero, List.set_cons_succ]
          refine wpAnyT_take (i := 3) (v := ?v4) [] rfl (by kernel_rfl) (fun _ _ _ h => h) (Or.inl ⟨by rfl, ?hy4⟩) hHeld ?rst4
          case hy4 => (intro wx hSw; obtain ⟨y3, y8⟩ := hSw; go_simp; try (with_reducible rfl))
          try simp only [List.getElem_toArray, List.getElem_cons_zero, List.getElem_cons_succ, Act.put, List.setIfInBounds_toArray, List.set_cons_zero, List.set_cons_succ]
          refine wpAnyT_take (i := 4) (v := ?v5) [] rfl (by kernel_rfl) (fun _ _ _ h => h) (Or.inl ⟨by rfl, ?hy5⟩) hHeld ?rst5
          case hy5 => (intro wx hSw; obtain ⟨y3, y8⟩ := hSw; go_simp; try (with_reducible rfl))
          try simp only [List.getElem_toArray, List.getElem_cons_zero, List.getElem_cons_succ, Act.put, List.setIfInBounds_toArray, List.set_cons_zero, List.set_cons_succ]
          refine wpAnyT_take (i := 5) (v := ?v6) [] rfl (by kernel_rfl) (fun _ _ _ h => h) (Or.inl ⟨by rfl, ?hy6⟩) hHeld ?rst6
          case hy6 => (intro wx hSw; obtain ⟨y3, y8⟩ := hSw; go_simp; try (with_reducible rfl))
          try simp only [List.getElem_toArray, List.getElem_cons_zero, List.getElem_cons_succ, Act.put, List.setIfInBounds_toArray, List.set_cons_zero, List.set_cons_succ]
          refine wpAnyT_one (i := 6) (by kernel_rfl) rfl (fun K hK => ?_)
          have HSX := Lib.hid (show (wr.drew.alloc (.cells (cellsB S.length fun _ => false) 4)).cell? ⟨p3, 0, none⟩ = some (.slice AS S.length cS) ∧ (wr.drew.alloc (.cells (cellsB S.length fun _ => false) 4)).cell? ⟨p8, 0, none⟩ = some (.func (.func 130) #[] #[.pointer (some ⟨p3, 0, none⟩), .pointer (some ⟨p2, 0, none⟩), .pointer (some ⟨p5, 0, none⟩), .pointer (some ⟨p8, 0, none⟩)]) from ⟨((ext_alloc wr.drew _).cell (p := ⟨p3, 0, none⟩) (World.block_lt_of_cell? wr.drew ⟨p3, 0, none⟩ HSS.out.1)).trans HSS.out.1, ((ext_alloc wr.drew _).cell (p := ⟨p8, 0, none⟩) (World.block_lt_of_cell? wr.drew ⟨p8, 0, none⟩ HSS.out.2)).trans HSS.out.2⟩)
          go_simp
          refine hK.out _ _ (HSX.out) (fun hHeld => ?_)
          clear hK K
          try simp only [List.getElem_toArray, List.getElem_cons_zero, List.getElem_cons_succ, Act.put, List.setIfInBounds_toArray, List.set_cons_zero, List.set_cons_succ]
          refine wpAnyT_one (i := 7) (by kernel_rfl) rfl (fun K hK => ?_)
          go_simp
          go_at_call 130
          refine (HC.out).mono ?_
          rintro e w5 ⟨rfl, hk5, hm5, hs5, hb5⟩
          have HK5 := Lib.hid hk5
          have HM5 := Lib.hid hm5
          have HB5 := Lib.hid hb5
          have hT5 := (show OwB tb F.length d w5 from hb5.bk HTX.out HNE.out.1.1 HNE.out.1.2.1)
          have HT5 := Lib.hid hT5
          have HS5 := Lib.hid (show w5.cell? ⟨p3, 0, none⟩ = some (.slice AS S.length cS) ∧ w5.cell? ⟨p8, 0, none⟩ = some (.func (.func 130) #[] #[.pointer (some ⟨p3, 0, none⟩), .pointer (some ⟨p2, 0, none⟩), .pointer (some ⟨p5, 0, none⟩), .pointer (some ⟨p8, 0, none⟩)]) from ⟨hb5.cell (HSX.out.1) HNE.out.2.1.1 HNE.out.2.1.2.1, hb5.cell (HSX.out.2) HNE.out.2.1.2.2.1 HNE.out.2.1.2.2.2⟩)
          have t2 := hT5.frozen k
          have htc := hT5.cell hlt
          clear hk5 hm5 hs5 hb5 hT5
          refine hK.out _ _ (HS5.out) (fun hHeld => ?_)
          clear hK K
          try simp only [List.getElem_toArray, List.getElem_cons_zero, List.getElem_cons_succ, Act.put, List.setIfInBounds_toArray, List.set_cons_zero, List.set_cons_succ]
          refine wpAnyT_take (i := 8) (v := ?v7) [] rfl (by kernel_rfl) (fun _ _ _ h => h) (Or.inl ⟨by rfl, ?hy7⟩) hHeld ?rst7
          case hy7 => (intro wx hSw; obtain ⟨y3, y8⟩ := hSw; go_simp; try (with_reducible rfl))
          try simp only [List.getElem_toArray, List.getElem_cons_zero, List.getElem_cons_succ, Act.put, List.setIfInBounds_toArray, List.set_cons_zero, List.set_cons_succ]
          refine wpAnyT_last (by kernel_rfl) (by kernel_rfl) rfl (fun K hK => ?_)
          go_simp
          refine hK.out _ _ ?_
          clear hK K
          have HQ := Lib.hid (show (p2 ≠ tb ∧ p3 ≠ tb ∧ p5 ≠ tb ∧ p8 ≠ tb) ∧ W.heap.size ≤ tb from by
            have h1 := HP.out
            have h2 := HPT.out
            omega)
          have HK6 := Lib.hid (HK5.out.setC (k := tb) (j := k) HQ.out.1.1 HQ.out.1.2.1 HQ.out.1.2.2.1 HQ.out.1.2.2.2 HQ.out.2 (.bool (ku (adjC F S) S.length (S.length + 1) k (fun _ => false, kuAll (adjC F S) S.length k)).1))
          have HM6 := Lib.hid (show Ow 3 mb S.length (kuAll (adjC F S) S.length (k + 1)) (w5.setCell ⟨tb, k, none⟩ (.bool (ku (adjC F S) S.length (S.length + 1) k (fun _ => false, kuAll (adjC F S) S.length k)).1)) from HM5.out.set_ne (Ne.symm HNE.out.1.1) _)
          have HT6 := Lib.hid (HT5.out.set k (ku (adjC F S) S.length (S.length + 1) k (fun _ => false, kuAll (adjC F S) S.length k)).1)
          have HW5 := Lib.hid (HWX.out.trans (HB5.out.below HNE.out.1.2.2.1 HNE.out.1.2.2.2 HWX.out.size))
          have HW6 := Lib.hid (HW5.out.setCell (p := ⟨tb, k, none⟩) HQ.out.2 (.bool (ku (adjC F S) S.length (S.length + 1) k (fun _ => false, kuAll (adjC F S) S.length k)).1))
          have HS6 := Lib.hid (show B1 ≤ (w5.setCell ⟨tb, k, none⟩ (.bool (ku (adjC F S) S.length (S.length + 1) k (fun _ => false, kuAll (adjC F S) S.length k)).1)).heap.size from by
            have h1 := HX.out.size
            have h2 := HB5.out.size
            have h3 := HNE.out.2.2
            have h4 := (But2.set1 w5 tb tb k (.bool (ku (adjC F S) S.length (S.length + 1) k (fun _ => false, kuAll (adjC F S) S.length k)).1)).size
            exact Nat.le_trans h3 (Nat.le_trans h1 (Nat.le_trans h2 h4)))
          go_wp2
          go_roundg (F.length - (k + 1))
          case measure => have := HG.out; omega
          case rel => exact ⟨k + 1, by go_num, by omega, rfl, HK6.out, HM6.out, ⟨_, HT6.out⟩, HW6.out, HS6.out⟩
        · obtain rfl : k = F.length := by omega
          have HKF := Lib.hid hfk
          have HMF := Lib.hid (show Ow 3 mb S.length (kuM (adjC F S) F.length S.length) wr from ho)
          have HWF := Lib.hid hbw
          clear hk hgg hfk ho ht hbw hb1 HK0 HO3 HT HBW HB1 HG hlt HPT
          obtain ⟨⟨AG, cG, hc2, hF2⟩, ⟨AS, cS, hc3, hS2⟩, _⟩ := HKF.out
          clear hF2 hS2
          have hl2 : p2 < wr.heap.size := World.block_lt_of_cell? wr ⟨p2, 0, none⟩ hc2
          have hl3 : p3 < wr.heap.size := World.block_lt_of_cell? wr ⟨p3, 0, none⟩ hc3
          have hl2a : p2 < wr.heap.size + 1 := by omega
          have hl3a : p3 < wr.heap.size + 1 := by omega
          have hl2b : p2 < wr.heap.size + 1 + 1 := by omega
          have hl3b : p3 < wr.heap.size + 1 + 1 := by omega
          have hl2c : p2 < wr.heap.size + 1 + 1 + 1 := by omega
          have hl3c : p3 < wr.heap.size + 1 + 1 + 1 := by omega
          go_upto_region 15 with (fail)
          go_cut [10, 11] from 51 (fun v10 v11 wx => ∃ p10 p11 ib sb : Nat, v10 = .pointer (some ⟨p10, 0, none⟩) ∧ v11 = .pointer (some ⟨p11, 0, none⟩) ∧ Bk 58 wx p10 #[.slice (some ⟨ib, 0, none⟩) F.length F.length] ∧ Bk 58 wx p11 #[.slice (some ⟨sb, 0, none⟩) S.length S.length] ∧ Bk 4 wx ib (cellsB F.length fun _ => false) ∧ Bk 4 wx sb (cellsB S.length fun _ => false) ∧
            (wr.heap.size ≤ p10 ∧ wr.heap.size ≤ p11 ∧ wr.heap.size ≤ ib ∧ wr.heap.size ≤ sb ∧ p10 ≠ p11 ∧ p10 ≠ ib ∧ p10 ≠ sb ∧ p11 ≠ ib ∧ p11 ≠ sb ∧ ib ≠ sb) ∧ Below wr.heap.size wr wx)
          case first =>
            go_region
            all_goals (
              go_wp2
              go_meet
              case rel =>
                (repeat apply Exists.intro)
                refine ⟨rfl, rfl, ?_, ?_, ?_, ?_, ?_, ?_⟩
                · first | exact four1 _ _ _ _ _ _ _ _ _ | exact four2 _ _ _ _ _ _ _ _ _ | exact four3 _ _ _ _ _ _ _ _ _ | exact four4 _ _ _ _ _ _ _ _ _
                · first | exact four1 _ _ _ _ _ _ _ _ _ | exact four2 _ _ _ _ _ _ _ _ _ | exact four3 _ _ _ _ _ _ _ _ _ | exact four4 _ _ _ _ _ _ _ _ _
                · first | exact four1 _ _ _ _ _ _ _ _ _ | exact four2 _ _ _ _ _ _ _ _ _ | exact four3 _ _ _ _ _ _ _ _ _ | exact four4 _ _ _ _ _ _ _ _ _
                · first | exact four1 _ _ _ _ _ _ _ _ _ | exact four2 _ _ _ _ _ _ _ _ _ | exact four3 _ _ _ _ _ _ _ _ _ | exact four4 _ _ _ _ _ _ _ _ _
                · omega
                · exact four5 _ _ _ _ _ _ _ _ _)
          case rest =>
            obtain ⟨p10, p11, ib, sb, rfl, rfl, hb10, hb11, hib, hsb, hne, hbx⟩ := hcut
            have HB10 := Lib.hid hb10
            have HB11 := Lib.hid hb11
            have HIB := Lib.hid hib
            have HSB := Lib.hid hsb
            have HNE := Lib.hid hne
            have HKX := Lib.hid (HKF.out.ext hbx)
            have HMX := Lib.hid (HMF.out.ext hbx)
            have HWX := Lib.hid (ext_trans HWF.out hbx)
            have HP8 := Lib.hid (show p8 < wr.heap.size ∧ p5 < wr.heap.size ∧ mb < wr.heap.size ∧ p2 < wr.heap.size ∧ p3 < wr.heap.size ∧ W.heap.size ≤ wr.heap.size from by
              have h5 := World.block_lt_of_cell? wr ⟨p8, 0, none⟩ HKF.out.cf
              have h6 : p8 < wr.heap.size := h5
              have h7 := World.block_lt_of_cell? wr ⟨p5, 0, none⟩ HKF.out.cM
              have h8 : p5 < wr.heap.size := h7
              exact ⟨h6, h8, HMF.out.lt, hl2, hl3, HWF.out.size⟩)
            clear hb10 hb11 hib hsb hne hbx hc2 hc3 hl2 hl3 hl2a hl3a hl2b hl3b hl2c hl3c HKF HMF HWF
            obtain ⟨X5, hX5⟩ : ∃ X5, X5 = wc := ⟨_, rfl⟩
            rw [← hX5] at HB10 HB11 HIB HSB HKX HMX HWX ⊢
            clear hX5
            rename ∀ (a : Act) (w : World), Code.wp _ _ _ a w → _ => hKc2
            refine hKc2 _ _ ?_
            clear hKc2
            go_upto_region 18 with (fail)
            have H12 := Lib.hid (Bk.new 136 X5 #[.func (.func 132) #[] #[.pointer (some ⟨p10, 0, none⟩), .pointer (some ⟨p3, 0, none⟩), .pointer (some ⟨p11, 0, none⟩), .pointer (some ⟨p2, 0, none⟩), .pointer (some ⟨p5, 0, none⟩), .pointer (some ⟨X5.heap.size, 0, none⟩)]])
            have HX6 := Lib.hid (ext_alloc X5 (.cells #[.func (.func 132) #[] #[.pointer (some ⟨p10, 0, none⟩), .pointer (some ⟨p3, 0, none⟩), .pointer (some ⟨p11, 0, none⟩), .pointer (some ⟨p2, 0, none⟩), .pointer (some ⟨p5, 0, none⟩), .pointer (some ⟨X5.heap.size, 0, none⟩)]] 136))
            obtain ⟨X6, hX6⟩ : ∃ X6, X6 = X5.alloc (.cells #[.func (.func 132) #[] #[.pointer (some ⟨p10, 0, none⟩), .pointer (some ⟨p3, 0, none⟩), .pointer (some ⟨p11, 0, none⟩), .pointer (some ⟨p2, 0, none⟩), .pointer (some ⟨p5, 0, none⟩), .pointer (some ⟨X5.heap.size, 0, none⟩)]] 136) := ⟨_, rfl⟩
            rw [← hX6] at H12 HX6 ⊢
            obtain ⟨p12, hp12⟩ : ∃ p12, p12 = X5.heap.size := ⟨_, rfl⟩
            have HP12 := Lib.hid (show ib < p12 ∧ sb < p12 from by rw [hp12]; exact ⟨HIB.out.lt, HSB.out.lt⟩)
            rw [← hp12] at H12 ⊢
            clear hX6 hp12
            have HRK := Lib.hid (show ReK F S (kuM (adjC F S) F.length S.length) W.heap.size p2 p3 p5 p10 p11 p12 mb ib sb X6 from by
              have h1 := HP8.out
              have h2 := HNE.out
              have h3 := HP12.out
              have hk := HKX.out.ext HX6.out
              exact ⟨hk.cF, hk.cS, hk.cM, (HB10.out.ext HX6.out).cell 0, (HB11.out.ext HX6.out).cell 0, H12.out.cell 0, HMX.out.ext HX6.out, by omega, by omega, by omega, by omega, by omega, by omega, by omega, by omega⟩)
            have HI6 := Lib.hid (show OwB ib F.length (fun _ => false) X6 from HIB.out.ext HX6.out)
            have HV6 := Lib.hid (show OwB sb S.length (fun _ => false) X6 from HSB.out.ext HX6.out)
            have HW6 := Lib.hid (ext_trans HWX.out HX6.out)
            have HRG := Lib.hid (show ∀ j, kuM (adjC F S) F.length S.length j < (F.length : Int) from kuAll_rg F.length (Nat.le_refl _))
            have HSN := Lib.hid (single_any mb S.length F.length (kuM (adjC F S) F.length S.length) X6 hSn hFn HRK.out.cR)
            have HAL := Lib.hid (show kuZ (adjC F S) F.length S.length = (sngK (kuM (adjC F S) F.length S.length) S.length F.length).foldl (fun s i => rc (adjC F S) S.length (kuM (adjC F S) F.length S.length) (S.length + 1) i s) (fun _ => false, fun _ => false) from rfl)
            clear HB10 HB11 HIB HSB HNE HKX HMX HWX HP8 H12 HX6
            obtain ⟨m, hm⟩ : ∃ m, m = kuM (adjC F S) F.length S.length := ⟨_, rfl⟩
            rw [← hm] at HRK HRG HSN HAL
            clear hm
            have hRK := HRK.out
            obtain ⟨⟨AG, cG, hc2, hF2⟩, _, hc5, _⟩ := hRK
            clear hF2
            go_upto_region 19 with (go_at_call 133; refine (HSN.out).mono ?_; rintro e w7 ⟨A7, c7, rfl, k7, k8, hi7, hx7⟩)
            have HK7 := Lib.hid (HRK.out.ext hx7)
            have HI7 := Lib.hid (HI6.out.ext hx7)
            have HV7 := Lib.hid (HV6.out.ext hx7)
            have HW7 := Lib.hid (ext_trans HW6.out hx7)
            have HIS := Lib.hid hi7
            have HX7 := Lib.hid (show ib < X6.heap.size ∧ sb < X6.heap.size ∧ W.heap.size ≤ ib ∧ W.heap.size ≤ sb from ⟨HI6.out.lt, HV6.out.lt, HRK.out.nb.1, HRK.out.nb.2.1⟩)
            have hLlen := sng_len m S.length F.length
            have hLK : (sngI m S.length F.length).length = (sngK m S.length F.length).length := by unfold sngI; rw [List.length_map]
            have HLK := Lib.hid hLK
            clear hi7 hx7 hc2 hc5 hLK HRK HI6 HV6 HW6 HSN
            go_loopg [63] (sngI m S.length F.length).length (fun gg z wr => ∃ (k : Nat) (s : RcS), z = .int .i64 k ∧ k ≤ (sngI m S.length F.length).length ∧ gg = (sngI m S.length F.length).length - k ∧ ReK F S m W.heap.size p2 p3 p5 p10 p11 p12 mb ib sb wr ∧ OwB ib F.length s.1 wr ∧ OwB sb S.length s.2 wr ∧ But2 ib sb w7 wr ∧ Below W.heap.size W wr ∧ s = ((sngK m S.length F.length).take k).foldl (fun s i => rc (adjC F S) S.length m (S.length + 1) i s) (fun _ => false, fun _ => false))
            case atStart => exact ⟨0, (fun _ => false, fun _ => false), rfl, by omega, by omega, HK7.out, HI7.out, HV7.out, But2.refl _ _ _, HW7.out, rfl⟩
            case round =>
              obtain ⟨k, s, rfl, hk, hgg, hrk, hi, hv, hb, hbw, hs⟩ := hrel
              have HG := Lib.hid hgg
              have HRK := Lib.hid hrk
              have HI := Lib.hid hi
              have HV := Lib.hid hv
              have HB := Lib.hid hb
              have HBW := Lib.hid hbw
              have HS := Lib.hid hs
              clear hgg hb hbw hi hv hs HK7 HI7 HV7 HW7
              by_cases hlt : k < (sngI m S.length F.length).length
              · rcases HIS.out with h0 | ⟨g7, off, rfl, hg7, hgs, hcl⟩
                · rw [h0] at hlt; simp at hlt
                · have hlt2 : k < (sngK m S.length F.length).length := by rw [← HLK.out]; exact hlt
                  have hx := HB.out.cell (hcl k hlt) (by have := HX7.out; omega) (by have := HX7.out; omega)
                  obtain ⟨i, hi⟩ : ∃ i, i = (sngK m S.length F.length)[k] := ⟨_, rfl⟩
                  have hxi : (sngI m S.length F.length)[k] = (i : Int) := by rw [hi]; simp [sngI]
                  rw [hxi] at hx
                  have hil : i < F.length := by
                    have h1 : (sngK m S.length F.length)[k] ∈ sngK m S.length F.length := List.getElem_mem hlt2
                    rw [← hi] at h1
                    exact List.mem_range.1 (List.mem_filter.1 h1).1
                  have HS2 := Lib.hid (show rc (adjC F S) S.length m (S.length + 1) i s = ((sngK m S.length F.length).take (k + 1)).foldl (fun s i => rc (adjC F S) S.length m (S.length + 1) i s) (fun _ => false, fun _ => false) from by
                    rw [foldl_tk _ _ _ hlt2, ← HS.out, ← hi])
                  have HCR := Lib.hid (reach_any F S hFn hSn m HRG.out W.heap.size p2 p3 p5 p10 p11 p12 mb ib sb (S.length + 1) i s wr (by have := unm_n s.2 S.length; omega) HRK.out HI.out HV.out hil)
                  obtain ⟨_, _, _, _, _, hc12, _⟩ := hrk
                  clear hcl hxi hi HRK HI HV
                  go_wp2_with (go_at_call 132; refine (HCR.out).mono ?_; rintro e w8 ⟨rfl, hk8, hi8, hv8, hb8⟩; have HK8 := Lib.hid hk8; have HI8 := Lib.hid hi8; have HV8 := Lib.hid hv8; have HB8 := Lib.hid hb8; clear hk8 hi8 hv8 hb8)
                  have HBW8 := Lib.hid (HBW.out.trans (HB8.out.below HX7.out.2.2.1 HX7.out.2.2.2 HBW.out.size))
                  go_roundg ((sngI m S.length F.length).length - (k + 1))
                  case measure => have := HG.out; omega
                  case rel => exact ⟨k + 1, _, by go_num, by omega, rfl, HK8.out, HI8.out, HV8.out, HB.out.trans HB8.out, HBW8.out, HS2.out⟩
              · have HSZ := Lib.hid (show s = kuZ (adjC F S) F.length S.length from by
                  rw [HAL.out, HS.out, List.take_of_length_le (by have := HLK.out; omega)])
                clear HS HAL hLlen HG HB HIS HLK hrk HX7
                obtain ⟨⟨AG, cG, hc2, hF2⟩, _⟩ := HRK.out
                have HF2 := Lib.hid hF2
                clear hF2
                go_upto_region 25 with (fail)
                clear hc2 hlt hk
                have HBR := Lib.hid (Below.refl wr.heap.size wr)
                obtain ⟨R, hR⟩ : ∃ R, R = wr := ⟨_, rfl⟩
                rw [← hR] at HRK HI HV HBW HF2 HBR ⊢
                clear hR
                have HRZ := Lib.hid HBW.out.size
                go_loopg [73, 15] F.length (fun gg z v wr => ∃ k : Nat, z = .int .i64 k ∧ k ≤ F.length ∧ gg = F.length - k ∧ Vh R.heap.size wr v (pk s.1 (F.take k) 0) ∧ Below R.heap.size R wr)
                case atStart => exact ⟨0, rfl, by omega, by omega, Vh.nil _ _, HBR.out⟩
                case round =>
                  obtain ⟨k, rfl, hk, hgg, hv, hb⟩ := hrel
                  have HG := Lib.hid hgg
                  have HB := Lib.hid hb
                  have HVV := Lib.hid hv
                  have hln : (pk s.1 (F.take k) 0).length ≤ 100000 := Nat.le_trans (pk_len _ _ _) (by rw [List.length_take]; omega)
                  clear hgg hb HBR
                  by_cases hlt : k < F.length
                  · have HPK := Lib.hid (pk_take s.1 F hlt)
                    rcases HF2.out with h0 | ⟨bF, offF, rfl, hbF, hcl⟩
                    · rw [h0] at hlt; simp at hlt
                    · obtain ⟨c1', c2', c3', c4'⟩ := hcl k hlt
                      have hbR : bF < R.heap.size := Nat.lt_of_lt_of_le hbF HRZ.out
                      have c1' := (HB.out.cell (p := ⟨bF, offF + k * 4, none⟩) hbR).trans c1'
                      have c2' := (HB.out.cell (p := ⟨bF, offF + k * 4 + 1, none⟩) hbR).trans c2'
                      have c3' := (HB.out.cell (p := ⟨bF, offF + k * 4 + 2, none⟩) hbR).trans c3'
                      have c4' := (HB.out.cell (p := ⟨bF, offF + k * 4 + 3, none⟩) hbR).trans c4'
                      obtain ⟨cc, hcc⟩ : ∃ cc, cc = F[k] := ⟨_, rfl⟩
                      rw [← hcc] at c1' c2' c3' c4' HPK
                      obtain ⟨⟨d1, d2⟩, d3, d4⟩ := cc
                      dsimp only at c1' c2' c3' c4'
                      have HX := Lib.hid (HB.out.alloc HB.out.size (.cells #[.int .i64 d1, .int .i64 d2, .int .i64 d3, .int .i64 d4] 156))
                      have HVX := Lib.hid (hv.ext (ext_alloc wr (.cells #[.int .i64 d1, .int .i64 d2, .int .i64 d3, .int .i64 d4] 156)))
                      have HBB := Lib.hid (Bk.new 156 wr #[.int .i64 d1, .int .i64 d2, .int .i64 d3, .int .i64 d4])
                      clear hcl hcc hv
                      go_upto_region 27 with (fail)
                      obtain ⟨X, hX⟩ : ∃ X, X = wr.alloc (.cells #[.int .i64 d1, .int .i64 d2, .int .i64 d3, .int .i64 d4] 156) := ⟨_, rfl⟩
                      rw [← hX] at HX HVX HBB ⊢
                      clear hX c1' c2' c3' c4' hbR
                      obtain ⟨q1, q2, q3⟩ := HBB.out.facts
                      have hci := ((HRK.out.ext HX.out).cI)
                      have hcb := (HI.out.ext HX.out).cell hlt
                      have hbase : R.heap.size ≤ X.heap.size := HX.out.size
                      cases hs1 : s.1 k with
                      | true =>
                        rw [hs1] at hcb
                        have HE := Lib.hid (show pk s.1 (F.take (k + 1)) 0 = pk s.1 (F.take k) 0 ++ [((d1, d2), (d3, d4))] from by rw [HPK.out, if_pos hs1])
                        clear hs1
                        go_wp2_with (at_builtin; refine wpList_pushH _ rfl _ _ rfl R.heap.size HVX.out (by rfl) d1 d2 d3 d4 (by rfl) rfl (by omega) hbase ?_; intro v5 w9 hv5 hb5 hk5 hk6; have HV9 := Lib.hid hv5; have HB9 := Lib.hid (HX.out.trans hb5); clear hv5 hb5 hk5 hk6)
                        go_roundg (F.length - (k + 1))
                        case measure => have := HG.out; omega
                        case rel => exact ⟨k + 1, by go_num, by omega, rfl, by rw [HE.out]; exact HV9.out, HB9.out⟩
                      | false =>
                        rw [hs1] at hcb
                        have HE := Lib.hid (show pk s.1 (F.take (k + 1)) 0 = pk s.1 (F.take k) 0 from by rw [HPK.out, if_neg (by simp [hs1]), List.append_nil])
                        clear hs1
                        go_wp2
                        go_roundg (F.length - (k + 1))
                        case measure => have := HG.out; omega
                        case rel => exact ⟨k + 1, by go_num, by omega, rfl, by rw [HE.out]; exact HVX.out, HX.out⟩
                  · obtain rfl : k = F.length := by omega
                    have hv4 := HVV.out
                    rw [List.take_length] at hv4
                    have HT4 := Lib.hid (show Vh R.heap.size wr u15 (takF F S ++ pk (fun j => !s.2 j) (S.take 0) 0) from by
                      have e : takF F S = pk s.1 F 0 := by unfold takF; rw [← HSZ.out]
                      rw [e, List.take_zero]
                      simpa [pk] using hv4)
                    have HBR2 := Lib.hid HB.out
                    obtain ⟨AZ, cZ, hc3R, hS2⟩ := HRK.out.cS
                    have hc3 := (HB.out.cell (p := ⟨p3, 0, none⟩) (World.block_lt_of_cell? R ⟨p3, 0, none⟩ hc3R)).trans hc3R
                    clear hc3R
                    have HS2 := Lib.hid hS2
                    clear hv4 hv HVV hS2
                    go_upto_region 31 with (fail)
                    clear hc3 HB HG hln hlt hk
                    go_loopg [89, 15] S.length (fun gg z v wr => ∃ k : Nat, z = .int .i64 k ∧ k ≤ S.length ∧ gg = S.length - k ∧ Vh R.heap.size wr v (takF F S ++ pk (fun j => !s.2 j) (S.take k) 0) ∧ Below R.heap.size R wr)
                    case atStart => exact ⟨0, rfl, by omega, by omega, HT4.out, HBR2.out⟩
                    case round =>
                      obtain ⟨k, rfl, hk, hgg, hv, hb⟩ := hrel
                      have HG := Lib.hid hgg
                      have HB := Lib.hid hb
                      have HVV := Lib.hid hv
                      have hln : (takF F S ++ pk (fun j => !s.2 j) (S.take k) 0).length ≤ 200000 := by rw [List.length_append]; have h1 := (sub_pk (kuZ (adjC F S) F.length S.length).1 F 0).length_le; have h2 := pk_len (fun j => !s.2 j) (S.take k) 0; rw [List.length_take] at h2; have h3 : (takF F S).length ≤ F.length := h1; omega
                      clear hgg hb HBR2
                      by_cases hlt : k < S.length
                      · have HPK := Lib.hid (pk_take (fun j => !s.2 j) S hlt)
                        rcases HS2.out with h0 | ⟨bF, offF, rfl, hbF, hcl⟩
                        · rw [h0] at hlt; simp at hlt
                        · obtain ⟨c1', c2', c3', c4'⟩ := hcl k hlt
                          have hbR : bF < R.heap.size := Nat.lt_of_lt_of_le hbF HRZ.out
                          have c1' := (HB.out.cell (p := ⟨bF, offF + k * 4, none⟩) hbR).trans c1'
                          have c2' := (HB.out.cell (p := ⟨bF, offF + k * 4 + 1, none⟩) hbR).trans c2'
                          have c3' := (HB.out.cell (p := ⟨bF, offF + k * 4 + 2, none⟩) hbR).trans c3'
                          have c4' := (HB.out.cell (p := ⟨bF, offF + k * 4 + 3, none⟩) hbR).trans c4'
                          obtain ⟨cc, hcc⟩ : ∃ cc, cc = S[k] := ⟨_, rfl⟩
                          rw [← hcc] at c1' c2' c3' c4' HPK
                          obtain ⟨⟨d1, d2⟩, d3, d4⟩ := cc
                          dsimp only at c1' c2' c3' c4'
                          have HX := Lib.hid (HB.out.alloc HB.out.size (.cells #[.int .i64 d1, .int .i64 d2, .int .i64 d3, .int .i64 d4] 156))
                          have HVX := Lib.hid (hv.ext (ext_alloc wr (.cells #[.int .i64 d1, .int .i64 d2, .int .i64 d3, .int .i64 d4] 156)))
                          have HBB := Lib.hid (Bk.new 156 wr #[.int .i64 d1, .int .i64 d2, .int .i64 d3, .int .i64 d4])
                          clear hcl hcc hv
                          go_upto_region 33 with (fail)
                          obtain ⟨X, hX⟩ : ∃ X, X = wr.alloc (.cells #[.int .i64 d1, .int .i64 d2, .int .i64 d3, .int .i64 d4] 156) := ⟨_, rfl⟩
                          rw [← hX] at HX HVX HBB ⊢
                          clear hX c1' c2' c3' c4' hbR
                          obtain ⟨q1, q2, q3⟩ := HBB.out.facts
                          have hci := ((HRK.out.ext HX.out).cV)
                          have hcb := (HV.out.ext HX.out).cell hlt
                          have hbase : R.heap.size ≤ X.heap.size := HX.out.size
                          cases hs1 : s.2 k with
                          | false =>
                            rw [hs1] at hcb
                            have HE := Lib.hid (show takF F S ++ pk (fun j => !s.2 j) (S.take (k + 1)) 0 = takF F S ++ pk (fun j => !s.2 j) (S.take k) 0 ++ [((d1, d2), (d3, d4))] from by rw [HPK.out, if_pos (by simp [hs1]), List.append_assoc])
                            clear hs1
                            go_wp2_with (at_builtin; refine wpList_pushH _ rfl _ _ rfl R.heap.size HVX.out (by rfl) d1 d2 d3 d4 (by rfl) rfl (by omega) hbase ?_; intro v5 w9 hv5 hb5 hk5 hk6; have HV9 := Lib.hid hv5; have HB9 := Lib.hid (HX.out.trans hb5); clear hv5 hb5 hk5 hk6)
                            go_roundg (S.length - (k + 1))
                            case measure => have := HG.out; omega
                            case rel => exact ⟨k + 1, by go_num, by omega, rfl, by rw [HE.out]; exact HV9.out, HB9.out⟩
                          | true =>
                            rw [hs1] at hcb
                            have HE := Lib.hid (show takF F S ++ pk (fun j => !s.2 j) (S.take (k + 1)) 0 = takF F S ++ pk (fun j => !s.2 j) (S.take k) 0 from by rw [HPK.out, if_neg (by simp [hs1]), List.append_nil])
                            clear hs1
                            go_wp2
                            go_roundg (S.length - (k + 1))
                            case measure => have := HG.out; omega
                            case rel => exact ⟨k + 1, by go_num, by omega, rfl, by rw [HE.out]; exact HVX.out, HX.out⟩
                      · obtain rfl : k = S.length := by omega
                        have hv5 := HVV.out
                        rw [List.take_length] at hv5
                        have HT5 := Lib.hid (show Vh R.heap.size wr u15 (takF F S ++ takS F S) from by
                          have e : takS F S = pk (fun j => !s.2 j) S 0 := by unfold takS; rw [← HSZ.out]
                          rw [e]; exact hv5)
                        obtain ⟨A9, c9, hv9, k9, k10, hh⟩ := HT5.out.hsl
                        subst hv9
                        have HH := Lib.hid hh
                        unfold maxLen at k10
                        clear hv5 hv HVV hh
                        go_wp2
                        go_ret
                        exact ⟨A9, c9, rfl, k9, k10, HH.out.mono HRZ.out, HBW.out.trans (HB.out.mono HRZ.out)⟩
end Go.Proofs.YtmgofdgbenfjmaaDoor
