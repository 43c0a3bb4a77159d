/- The reference's Share walked. Conditions: the weights read as a list of ints; d is the sorted order. -/
import Derived.Test.YthkoblnfeebafaaMp
namespace Go.Proofs.Ythkoblnfeebafaa
open Go.RowKit

def cellsB (n : Nat) (d : Nat → Bool) : Array Value := ((List.range n).map fun j => Value.bool (d j)).toArray
theorem cellsB_get {n : Nat} {d : Nat → Bool} {i : Nat} (h : i < n) : (cellsB n d)[i]? = some (.bool (d i)) := by
  simp [cellsB, h]
def updB (d : Nat → Bool) (i : Nat) (v : Bool) : Nat → Bool := fun k => if k = i then v else d k
theorem cellsB_set {n : Nat} {d : Nat → Bool} {i : Nat} {v : Bool} : (cellsB n d).setIfInBounds i (.bool v) = cellsB n (updB d i v) := by
  unfold cellsB
  rw [List.setIfInBounds_toArray]
  congr 1
  apply List.ext_getElem
  · simp
  · intro k h1 h2
    rw [List.getElem_set]
    simp only [List.getElem_map, List.getElem_range]
    unfold updB
    by_cases hk : i = k
    · subst hk; simp
    · rw [if_neg hk, if_neg (fun h => hk h.symm)]
/-- block b holds n bools, and nothing else -/
def OwB (b n : Nat) (d : Nat → Bool) (w : World) : Prop := w.heap[b]? = some (.cells (cellsB n d) 4 (0, 0))
theorem OwB.lt {b n : Nat} {d : Nat → Bool} {w : World} (h : OwB b n d w) : b < w.heap.size := lt_of_block h
theorem OwB.cell {b n : Nat} {d : Nat → Bool} {w : World} (h : OwB b n d w) {i : Nat} (hi : i < n) : w.cell? ⟨b, i, none⟩ = some (.bool (d i)) := by
  rw [cell_of_row w b i _ _ (0, 0) h]; exact cellsB_get hi
theorem OwB.frozen {b n : Nat} {d : Nat → Bool} {w : World} (h : OwB b n d w) (i : Nat) : w.frozen? ⟨b, i, none⟩ = false := frozen_of_row w b i _ _ h
theorem OwB.set {b n : Nat} {d : Nat → Bool} {w : World} (h : OwB b n d w) (i : Nat) (v : Bool) : OwB b n (updB d i v) (w.setCell ⟨b, i, none⟩ (.bool v)) := by
  have h1 := heap_setCell_same w b i _ _ (.bool v) h
  rw [cellsB_set] at h1
  exact h1
theorem OwB.ext {b n : Nat} {d : Nat → Bool} {w w' : World} (h : OwB b n d w) (hb : Below w.heap.size w w') : OwB b n d w' := (hb.block b h.lt).trans h
theorem OwB.set_ne {b n : Nat} {d : Nat → Bool} {w : World} (h : OwB b n d w) {k j : Nat} (hk : b ≠ k) (y : Value) : OwB b n d (w.setCell ⟨k, j, none⟩ y) := (Below.heap_setCell _ _ _ _ hk).trans h
theorem OwB.new (w : World) (n : Nat) (d : Nat → Bool) : OwB w.heap.size n d (w.alloc (.cells (cellsB n d) 4)) := by simpa [OwB] using heap_alloc_new w _
theorem false_cells (n : Nat) : madeCells #[Value.bool false] n = cellsB n fun _ => false := by
  apply Array.ext'
  rw [toList_madeCells_one]
  simp [cellsB]
  apply List.ext_getElem <;> simp
theorem run_falses (n : Nat) (h : n ≤ 1000000) (W : World) : (Instr.makeSlice 102 (.int .i64 (n : Int)) (.int .i64 (n : Int))).run Try.prog W = .ok (.slice (some ⟨W.heap.size, 0, none⟩) n n) (W.alloc (.cells (cellsB n fun _ => false) 4)) := by
  obtain ⟨i, hi, hz, hsz, hby⟩ := info_parts (show (Try.prog.info? 4).map (fun i => (i.zero, i.size, i.bytes)) = some (some (.bool false), 1, 1) from by kernel_rfl)
  have hr := run_make (P := Try.prog) W 102 4 i (.bool false) Try.underlying102 hi hz .i64 .i64 n n (by omega) (by omega) (by rw [hby]; omega) (by omega)
  rw [hr, hsz, Nat.mul_one, Int.toNat_natCast]
  rw [show (Value.bool false).cells = #[Value.bool false] from rfl, false_cells]

/-- the reference's two rows -/
def RSo (w : World) (m b o : Nat) (dO : Nat → Int) (dG : Nat → Bool) (wx : World) : Prop :=
  Below w.heap.size w wx ∧ w.heap.size ≤ b ∧ w.heap.size ≤ o ∧ b ≠ o ∧ Ow b m dO wx ∧ OwB o m dG wx
theorem RSo.ext {w : World} {m b o : Nat} {dO : Nat → Int} {dG : Nat → Bool} {wx wy : World} (h : RSo w m b o dO dG wx) (hb : Below wx.heap.size wx wy) : RSo w m b o dO dG wy := by
  obtain ⟨h1, h2, h3, h4, h5, h6⟩ := h
  exact ⟨bext h1 hb h1.size, h2, h3, h4, h5.ext hb, h6.ext hb⟩
theorem RSo.set {w : World} {m b o : Nat} {dO : Nat → Int} {dG : Nat → Bool} {wx : World} (h : RSo w m b o dO dG wx) (i : Nat) (x : Int) : RSo w m b o (upd dO i x) dG (wx.setCell ⟨b, i, none⟩ (.int .i64 x)) := by
  obtain ⟨h1, h2, h3, h4, h5, h6⟩ := h
  exact ⟨h1.setCell h2 _, h2, h3, h4, h5.set i x, h6.set_ne (Ne.symm h4) _⟩
theorem RSo.setG {w : World} {m b o : Nat} {dO : Nat → Int} {dG : Nat → Bool} {wx : World} (h : RSo w m b o dO dG wx) (i : Nat) (x : Bool) : RSo w m b o dO (updB dG i x) (wx.setCell ⟨o, i, none⟩ (.bool x)) := by
  obtain ⟨h1, h2, h3, h4, h5, h6⟩ := h
  exact ⟨h1.setCell h3 _, h2, h3, h4, h5.set_ne h4 _, h6.set i x⟩
theorem RSo.start (w : World) (m : Nat) : RSo w m w.heap.size (w.heap.size + 1) (fun _ => 0) (fun _ => false) ((w.alloc (.cells (cellsOf m fun _ => 0) 3)).alloc (.cells (cellsB m fun _ => false) 4)) := by
  have h2 := OwB.new (w.alloc (.cells (cellsOf m fun _ => 0) 3)) m (fun _ => false)
  have e : (w.alloc (.cells (cellsOf m fun _ => 0) 3)).heap.size = w.heap.size + 1 := by simp
  rw [e] at h2
  exact ⟨((Below.refl w.heap.size w).alloc (Nat.le_refl _) _).alloc (by simp) _, Nat.le_refl _, by omega, by omega, (Ow.new w m _).ext ((Below.refl _ _).alloc (Nat.le_refl _) _), h2⟩

theorem updB_gv (d : Nat → Int) (t z : Nat) (hz : d t = z) : updB (gv d t) z true = gv d (t + 1) := by
  funext i
  unfold updB
  show _ = if i = (d t).toNat then true else gv d t i
  rw [hz, Int.toNat_natCast]
theorem OO_succ (q d : Nat → Int) (t z : Nat) (hz : d t = z) : upd (OO q d t) z (OO q d t z + 1) = OO q d (t + 1) := by
  show _ = upd _ (d t).toNat _
  rw [hz, Int.toNat_natCast]
/-- the scan -/
def Scan (nn : Int) (v : List Int) (d : Nat → Int) (t k : Nat) (best : Int) : Prop := Best (keyW nn v) (fun i => gv d t i = true) k best
/-- what the reference's Share answers -/
def RetRS (w : World) (nn : Int) (v : List Int) (d : Nat → Int) (e : Ending) (w' : World) : Prop :=
  Below w.heap.size w w' ∧ ((∃ er : Int, e = .returned (.tuple #[.slice none 0 0, .int .i64 er]) ∧ ShE nn v er) ∨
    (ShG nn v ∧ ∃ (b : Nat), e = .returned (.tuple #[.slice (some ⟨b, 0, none⟩) v.length v.length, .int .i64 0]) ∧ ISl w' (some ⟨b, 0, none⟩) (shs nn v d)))

set_option maxRecDepth 100000 in
set_option maxHeartbeats 4000000 in
theorem rshare_any (nn : Int) (A : Option Addr) (cap : Nat) (v : List Int) (d : Nat → Int) (w : World) (hnw : IsI nn) (hiv : ∀ x ∈ v, IsI x) (hc : v.length ≤ cap) (hcm : cap ≤ 9223372036854775807) (h : ISl w A v) (hd : ShG nn v → Ord nn v d) :
    Calls Try.prog 72 #[.int .i64 nn, .slice A v.length cap] w fun e w' => RetRS w nn v d e w' := by
  have H := Lib.hid h
  have HI := Lib.hid hiv
  have HDO := Lib.hid hd
  clear h hiv hd
  by_cases h64 : 64 < v.length
  · go_enter Try.func72, Try.ntmps72
    go_wp2
    go_ret2
    exact ⟨Below.refl _ _, .inl ⟨3, rfl, .inl ⟨h64, rfl⟩⟩⟩
  rcases (by omega : nn < 0 ∨ (0 ≤ nn ∧ nn ≤ 1000000000) ∨ 1000000000 < nn) with n1 | ⟨n1, n2⟩ | n1
  · have HE := Lib.hid (show ShE nn v 2 from .inr (.inl ⟨by omega, fun h => by have := h.1.1; omega, rfl⟩))
    go_enter Try.func72, Try.ntmps72
    go_wp2
    go_ret2
    exact ⟨Below.refl _ _, .inl ⟨2, rfl, HE.out⟩⟩
  · have HN := Lib.hid (show WOk nn from ⟨n1, n2⟩)
    have HZ := Lib.hid (fun W => run_zeros v.length (by omega) W)
    have HF := Lib.hid (fun W => run_falses v.length (by omega) W)
    go_enter Try.func72, Try.ntmps72
    go_wp2
    go_loopg [6, 28] v.length (fun g z6 i wr => ∃ (k : Nat) (s : Int), i = .int .i64 k ∧ z6 = .int .i64 s ∧ k ≤ v.length ∧ g = v.length - k ∧ s = sumTo (wt v) k ∧ (∀ j, j < k → WOk (wt v j)) ∧ 0 ≤ s ∧ s ≤ k * 1000000000 ∧ Below w.heap.size w wr)
    case atStart => exact ⟨0, 0, rfl, rfl, Nat.zero_le _, rfl, rfl, fun j hj => by omega, by omega, by omega, Below.refl _ _⟩
    case round =>
      obtain ⟨k, s, rfl, rfl, hk, hg, hs, hall, s0, s1, hb⟩ := hrel
      have HG := Lib.hid hg
      have HS := Lib.hid hs
      have HA := Lib.hid hall
      clear hg hs hall
      by_cases hlt : k < v.length
      · have hf := H.out.ext hb
        rcases hf with hf | ⟨b, off, rfl, hblt, hc'⟩
        · rw [hf] at hlt; simp at hlt
        · have ca := hc' k hlt
          obtain ⟨x, hx⟩ : ∃ x, x = v[k] := ⟨_, rfl⟩
          rw [← hx] at ca
          have HX := Lib.hid (show x = wt v k from hx.trans (wt_get hlt).symm)
          have k64 : k ≤ 64 := by omega
          clear hc' hx
          rcases (by omega : x < 0 ∨ (0 ≤ x ∧ x ≤ 1000000000) ∨ 1000000000 < x) with n1 | ⟨n1, n2⟩ | n1
          · have HE := Lib.hid (show ShE nn v 2 from .inr (.inl ⟨by omega, fun h => by have := (h.2 k hlt).1; rw [← HX.out] at this; omega, rfl⟩))
            go_wp2
            go_ret2
            exact ⟨hb, .inl ⟨2, rfl, HE.out⟩⟩
          · have HA2 := Lib.hid (show ∀ j, j < k + 1 → WOk (wt v j) from fun j hj => by
              by_cases hjk : j = k
              · rw [hjk, ← HX.out]; exact ⟨by omega, by omega⟩
              · exact HA.out j (by omega))
            have HS2 := Lib.hid (show s + x = sumTo (wt v) (k + 1) from by rw [HS.out, HX.out]; rfl)
            go_wp2
            go_roundg (v.length - (k + 1))
            case measure => have := HG.out; omega
            case rel => exact ⟨k + 1, _, by go_num, rfl, by omega, rfl, HS2.out, HA2.out, by omega, by omega, hb⟩
          · have HE := Lib.hid (show ShE nn v 2 from .inr (.inl ⟨by omega, fun h => by have := (h.2 k hlt).2; rw [← HX.out] at this; omega, rfl⟩))
            go_wp2
            go_ret2
            exact ⟨hb, .inl ⟨2, rfl, HE.out⟩⟩
      · obtain rfl : k = v.length := by omega
        have HAll := Lib.hid (show WAll v from HA.out)
        have HSW := Lib.hid (show s = sumW v from HS.out)
        clear HS HA
        by_cases h0 : s = 0
        · have HE := Lib.hid (show ShE nn v 4 from .inr (.inr ⟨by omega, HN.out, HAll.out, by rw [← HSW.out]; exact h0, rfl⟩))
          subst h0
          go_wp2
          go_ret2
          exact ⟨hb, .inl ⟨4, rfl, HE.out⟩⟩
        · have h00 : (s == 0) = false := by simpa using h0
          have h1 : 1 ≤ s := by omega
          have h1' : 1 ≤ sumW v := by rw [← HSW.out]; exact h1
          have HGO := Lib.hid (show ShG nn v from ⟨by omega, HN.out, HAll.out, h1'⟩)
          have HORD := Lib.hid (HDO.out HGO.out)
          have HST := Lib.hid (RSo.start wr v.length)
          have hz := HZ.out
          have hf := HF.out
          have HB := Lib.hid hb
          have H1 := Lib.hid h1'
          clear h0 h1'
          obtain ⟨wo, rfl⟩ : ∃ wo : World, wo = wr := ⟨_, rfl⟩
          go_wp2
          go_loopg [53, 11] v.length (fun g i z11 wx => ∃ (k : Nat) (L : Int), i = .int .i64 k ∧ z11 = .int .i64 L ∧ k ≤ v.length ∧ g = v.length - k ∧ L = nn - sumTo (quo nn v) k ∧ RSo wo v.length wo.heap.size (wo.heap.size + 1) (pre (quo nn v) k) (fun _ => false) wx)
          case atStart => exact ⟨0, nn, rfl, rfl, Nat.zero_le _, rfl, by simp [sumTo], by rw [pre_zero]; exact HST.out⟩
          case round =>
            obtain ⟨k, L, rfl, rfl, hk, hg, hL, hso⟩ := hrel
            have HG := Lib.hid hg
            have HL := Lib.hid hL
            have HS := Lib.hid hso
            obtain ⟨hb2, b1, o1, hbo, how, hor⟩ := hso
            have hbw := bext hb hb2 hb.size
            clear hg HST
            by_cases hlt : k < v.length
            · have hf := H.out.ext hbw
              rcases hf with hf | ⟨ba, off, rfl, hblt, hc'⟩
              · rw [hf] at hlt; simp at hlt
              · have ca := hc' k hlt
                have m1 := prod_bd HN.out HAll.out hlt
                have m2 := quo_bd HN.out HAll.out H1.out hlt
                have m3 := sumq_bd HN.out HAll.out H1.out (Nat.le_of_lt hlt)
                rw [← wt_get hlt] at ca
                have hqe : quo nn v k = nn * wt v k / s := by rw [HSW.out]; rfl
                rw [hqe] at m2
                have k64 : k ≤ 64 := by omega
                have hLb : -64000000000 ≤ L ∧ L ≤ 1000000000 := by omega
                have co := how.cell hlt
                have cof := how.frozen k
                have hset := HS.out.set k (nn * wt v k / s)
                rw [← hqe, pre_succ, hqe] at hset
                have hset2 := hset.2.2.2.2.1.cell hlt
                rw [show pre (quo nn v) (k + 1) k = nn * wt v k / s from by unfold pre; rw [if_pos (by omega)]; exact hqe] at hset2
                have HSET := Lib.hid hset
                have HLN := Lib.hid (show L - nn * wt v k / s = nn - sumTo (quo nn v) (k + 1) from by
                  rw [HL.out, ← hqe]; show _ = nn - (sumTo (quo nn v) k + quo nn v k); omega)
                clear hset hqe hL m3 hc' how hor
                generalize wt v k = x at *
                go_wp2
                go_roundg (v.length - (k + 1))
                case measure => have := HG.out; omega
                case rel => exact ⟨k + 1, _, by go_num, rfl, by omega, rfl, HLN.out, HSET.out⟩
            · obtain rfl : k = v.length := by omega
              obtain ⟨T, hT⟩ : ∃ T, T = lft nn v := ⟨_, rfl⟩
              have hl := lft_ok (nn := nn) (v := v) H1.out
              rw [← hT] at hl
              obtain rfl : L = (T : Int) := by omega
              obtain ⟨-, t1⟩ := hl
              have HT := Lib.hid hT
              have HS2 := Lib.hid (show RSo wo v.length wo.heap.size (wo.heap.size + 1) (quo nn v) (fun _ => false) wr from by
                obtain ⟨a1, a2, a3, a4, a5, a6⟩ := HS.out
                exact ⟨a1, a2, a3, a4, a5.congr (fun i hi => by unfold pre; rw [if_pos hi]), a6⟩)
              clear hT hL HL HS how hor HG hb2 hbw hz hf
              go_wp2
              go_loopg [74] T (fun g i wx => ∃ t : Nat, i = .int .i64 t ∧ t ≤ T ∧ g = T - t ∧ RSo wo v.length wo.heap.size (wo.heap.size + 1) (OO (quo nn v) d t) (gv d t) wx)
              case atStart => exact ⟨0, rfl, Nat.zero_le _, rfl, HS2.out⟩
              case round =>
                obtain ⟨t, rfl, ht, hg, hso⟩ := hrel
                have HG := Lib.hid hg
                have HS := Lib.hid hso
                clear hg hso HS2
                by_cases hlt : t < T
                · have HR := Lib.hid HORD.out.range
                  go_wp2
                  go_loopg [78, 14] v.length (fun g i z14 wx => ∃ (k : Nat) (best : Int), i = .int .i64 k ∧ z14 = .int .i64 best ∧ k ≤ v.length ∧ g = v.length - k ∧ Scan nn v d t k best ∧ RSo wo v.length wo.heap.size (wo.heap.size + 1) (OO (quo nn v) d t) (gv d t) wx)
                  case atStart => exact ⟨0, -1, rfl, rfl, Nat.zero_le _, rfl, Best.start _ _, HS.out⟩
                  case round =>
                    obtain ⟨k, best, rfl, rfl, hk, hg, hsc, hso⟩ := hrel
                    have HG2 := Lib.hid hg
                    have HSC := Lib.hid hsc
                    have HS3 := Lib.hid hso
                    obtain ⟨hb2, b1, o1, hbo, how, hor⟩ := hso
                    have hbw := bext hb hb2 hb.size
                    clear hg hsc
                    by_cases hlk : k < v.length
                    · have hf := H.out.ext hbw
                      rcases hf with hf | ⟨ba, off, rfl, hblt, hc'⟩
                      · rw [hf] at hlk; simp at hlk
                      · have ca := hc' k hlk
                        rw [← wt_get hlk] at ca
                        have cg := hor.cell hlk
                        have k64 : k ≤ 64 := by omega
                        have i0 : (0 : Int) ≤ (k : Int) := by omega
                        have i1 : (k : Int) < (v.length : Int) := by omega
                        have m1 := prod_bd HN.out HAll.out hlk
                        have hkk : keyW nn v (k : Int) = nn * wt v k % s := by rw [HSW.out]; unfold keyW; rw [Int.toNat_natCast]; rfl
                        have hs0 : ¬ s = 0 := by omega
                        have r1 := Int.emod_nonneg (nn * wt v k) (show s ≠ 0 by omega)
                        have r2 := Int.emod_lt_of_pos (nn * wt v k) (show 0 < s by omega)
                        have t2 : (nn * wt v k).tmod s = nn * wt v k % s := Int.tmod_eq_emod_of_nonneg m1.1
                        have y1 : IntKind.i64.wrap (nn * wt v k) = nn * wt v k := IntWalk.i64_in _ ⟨by omega, by omega⟩
                        have HB2 := Lib.hid hb2
                        clear how hor hbw
                        cases hgv : gv d t k
                        · rw [hgv] at cg
                          have HGV := Lib.hid (show ¬ (gv d t k = true) from by rw [hgv]; simp)
                          clear hgv
                          rcases HSC.out with ⟨hb1, _⟩ | ⟨bb, hb1, hb3, _⟩
                          · subst hb1
                            have HN2 := Lib.hid (HSC.out.take HGV.out (.inl (by decide)))
                            clear HSC hkk t2 y1
                            go_wp2
                            go_quiet (fail)
                            go_wp2
                            go_roundg (v.length - (k + 1))
                            case measure => have := HG2.out; omega
                            case rel => exact ⟨k + 1, _, by go_num, rfl, by omega, rfl, HN2.out, HS3.out.ext (ext_drewN _ _)⟩
                          · subst hb1
                            have hbl : bb < v.length := by omega
                            have cb := hc' bb hbl
                            rw [← wt_get hbl] at cb
                            have m2 := prod_bd HN.out HAll.out hbl
                            have hkb : keyW nn v (bb : Int) = nn * wt v bb % s := by rw [HSW.out]; unfold keyW; rw [Int.toNat_natCast]; rfl
                            have r3 := Int.emod_nonneg (nn * wt v bb) (show s ≠ 0 by omega)
                            have r4 := Int.emod_lt_of_pos (nn * wt v bb) (show 0 < s by omega)
                            have t3 : (nn * wt v bb).tmod s = nn * wt v bb % s := Int.tmod_eq_emod_of_nonneg m2.1
                            have y2 : IntKind.i64.wrap (nn * wt v bb) = nn * wt v bb := IntWalk.i64_in _ ⟨by omega, by omega⟩
                            have HT1 := Lib.hid (fun (h : nn * wt v bb % s < nn * wt v k % s) => HSC.out.take HGV.out (.inr (by rw [hkk, hkb]; exact h)))
                            have HT2 := Lib.hid (fun (h : ¬ nn * wt v bb % s < nn * wt v k % s) => HSC.out.keep (by rw [hkk, hkb]; omega))
                            have i2 : (0 : Int) ≤ (bb : Int) := by omega
                            have i3 : (bb : Int) < (v.length : Int) := by omega
                            have i4 : ¬ (bb : Int) < 0 := by omega
                            have i5 : decide ((bb : Int) < 0) = false := decide_eq_false i4
                            clear hc' HSC hkk hkb hb3
                            generalize wt v k = x at *
                            generalize wt v bb = x2 at *
                            by_cases hcm : nn * x2 % s < nn * x % s
                            · have hcd : decide (nn * x2 % s < nn * x % s) = true := decide_eq_true hcm
                              have HN2 := Lib.hid (HT1.out hcm)
                              clear HT1 HT2
                              go_wp2
                              go_quiet (fail)
                              go_wp2
                              go_roundg (v.length - (k + 1))
                              case measure => have := HG2.out; omega
                              case rel => exact ⟨k + 1, _, by go_num, rfl, by omega, rfl, HN2.out, HS3.out.ext (ext_drewN _ _)⟩
                            · have hcd : decide (nn * x2 % s < nn * x % s) = false := decide_eq_false hcm
                              have HN2 := Lib.hid (HT2.out hcm)
                              clear HT1 HT2
                              go_wp2
                              go_quiet (fail)
                              go_wp2
                              go_roundg (v.length - (k + 1))
                              case measure => have := HG2.out; omega
                              case rel => exact ⟨k + 1, _, by go_num, rfl, by omega, rfl, HN2.out, HS3.out.ext (ext_drewN _ _)⟩
                        · rw [hgv] at cg
                          have HN2 := Lib.hid (HSC.out.skip hgv)
                          clear HSC hgv hkk t2 y1
                          go_wp2
                          go_quiet (fail)
                          go_wp2
                          go_roundg (v.length - (k + 1))
                          case measure => have := HG2.out; omega
                          case rel => exact ⟨k + 1, best, by go_num, rfl, by omega, rfl, HN2.out, HS3.out.ext (ext_drewN _ _)⟩
                    · obtain rfl : k = v.length := by omega
                      obtain ⟨d0, h0, hw, hsd⟩ := HORD.out
                      obtain ⟨e1, e2, e3⟩ := HSC.out.next (t := t) (by omega) h0 hw hsd (fun i hi => gv_iff HR.out t (by omega) i)
                      obtain ⟨z, hz⟩ := Int.eq_ofNat_of_zero_le e2
                      rw [hz] at e1 e3
                      subst e1
                      have HZ2 := Lib.hid hz
                      have hzl : z < v.length := by omega
                      have co := how.cell hzl
                      have cof := how.frozen z
                      have cg := hor.cell hzl
                      have cgf := hor.frozen z
                      have m1 := quo_bd HN.out HAll.out H1.out hzl
                      have m2 := OO_bd (quo nn v) d t z
                      have hset1 := HS3.out.setG z true
                      have hset := hset1.set z (OO (quo nn v) d t z + 1)
                      rw [OO_succ _ _ _ _ hz, updB_gv _ _ _ hz] at hset
                      have co2 := hset1.2.2.2.2.1.cell hzl
                      have HSET := Lib.hid hset
                      have t64 : t ≤ 64 := by omega
                      have i0 : (0 : Int) ≤ (z : Int) := by omega
                      have i1 : (z : Int) < (v.length : Int) := by omega
                      clear hz h0 hw hsd HSC e2 hset hset1 how hor hb2 hbw
                      generalize OO (quo nn v) d t z = y at *
                      generalize quo nn v z = y0 at *
                      generalize gv d t z = y2 at *
                      go_wp2
                      go_roundg (T - (t + 1))
                      case measure => have := HG.out; omega
                      case rel => exact ⟨t + 1, by go_num, by omega, rfl, HSET.out⟩
                · obtain rfl : t = T := by omega
                  obtain ⟨hb2, b1, o1, hbo, how, hor⟩ := HS.out
                  go_wp2
                  go_ret2
                  refine ⟨bext hb hb2 hb.size, .inr ⟨HGO.out, _, rfl, how.isl (shs_len _ _ _) (fun j hj => ?_)⟩⟩
                  rw [shs_get hj, HT.out]
  · have HE := Lib.hid (show ShE nn v 2 from .inr (.inl ⟨by omega, fun h => by have := h.1.2; omega, rfl⟩))
    go_enter Try.func72, Try.ntmps72
    go_wp2
    go_ret2
    exact ⟨Below.refl _ _, .inl ⟨2, rfl, HE.out⟩⟩
end Go.Proofs.Ythkoblnfeebafaa
