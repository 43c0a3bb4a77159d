/- The reference's Parts walked. Conditions: each string's length is an int. -/
import Derived.Test.YtmgofdgbenfjmaaDoorRpP
import Derived.Test.YtmgofdgbenfjmaaDoorHo
import Derived.Test.YtmgofdgbenfjmaaDoorGok
import Derived.Test.YtmgofdgbenfjmaaDoorRgT
import Derived.Test.YtmgofdgbenfjmaaDoorTs
import Derived.Deep.AppendLies
namespace Go.Proofs.YtmgofdgbenfjmaaDoor
open Go.RowKit

/-- a row of the reference's parts -/
def Vq (base : Nat) (w : World) (v : Value) (l : List Prt) : Prop := w.ownsRow base 34 7 v l.length (l.flatMap pvs)
theorem Vq.nil (base : Nat) (w : World) : Vq base w (.slice none 0 0) [] := own_nil w base 34 7
theorem Vq.psl {base : Nat} {w : World} {v : Value} {l : List Prt} (h : Vq base w v l) : ∃ A cap, v = .slice A l.length cap ∧ l.length ≤ cap ∧ cap ≤ maxLen ∧ PSl w A l := by
  obtain ⟨A, cap, hv, h1, h2, h3⟩ := own_cells h
  refine ⟨A, cap, hv, h1, h2, ?_⟩
  rcases h3 with h3 | ⟨g, rfl, hb, hg, hc⟩
  · exact .inl (List.eq_nil_of_length_eq_zero h3)
  · refine .inr ⟨g, 0, rfl, hg, fun j hj i hi => ?_⟩
    have hf : ∀ a : Prt, (pvs a).length = 7 := fun _ => rfl
    rw [Nat.zero_add]
    exact hc (j * 7 + i) _ (by rw [flat_get hf l j i hj hi]; exact List.getElem?_eq_getElem hi)
theorem info_rpart : (Tryd.prog.info? 34).map (fun i => (i.zero, i.size, i.bytes)) = some (some (.agg #[.int .i64 0, .int .i64 0, .int .i64 0, .int .i64 0, .int .i64 0, .int .i64 0, .int .i64 0]), 7, 56) := by kernel_rfl
theorem own_ne2 {w : World} {base base' n n' sz sz' : Nat} {e e' : TypeId} {v v' : Value} {xs xs' : List Value} (h : w.ownsRow base e sz v n xs) (h' : w.ownsRow base' e' sz' v' n' xs') (hT : e ≠ e') : ∀ k, v'.ownBlock = some k → some k ≠ v.ownBlock := by
  intro k hk
  obtain ⟨_, h'⟩ := h'
  rcases h' with ⟨rfl, _⟩ | ⟨g, cap, cur, rfl, hg, hh, hr⟩
  · cases hk
  · have : g = k := by simpa [Value.ownBlock] using hk
    subst this
    exact own_ne h (show Bk e' w g cur from hh) hT
/-- what the reference's Parts knows of a world: the classes, the parts, the cells -/
def RpS (w : World) (v N : Nat) (cl : Nat → Int) (B : Nat) (o : Value) (ps : List Prt) (wr : World) : Prop :=
  Ow 3 v N cl wr ∧ Vq B wr o ps ∧ Below w.heap.size w wr ∧ w.heap.size ≤ B ∧ B ≤ wr.heap.size
section
variable {w : World} {v N : Nat} {cl : Nat → Int} {B : Nat} {o : Value} {ps : List Prt} {wr w' : World}
theorem RpS.ext (h : RpS w v N cl B o ps wr) (hb : Below wr.heap.size wr w') : RpS w v N cl B o ps w' :=
  ⟨h.1.ext hb, own_ext h.2.1 hb, bext h.2.2.1 hb h.2.2.1.size, h.2.2.2.1, Nat.le_trans h.2.2.2.2 hb.size⟩
/-- a row of cells has grown -/
theorem RpS.cells (h : RpS w v N cl B o ps wr) {c : Value} {l : List Cel} (hc : Vd B wr c l) (hb : Below B wr w') (hk : ∀ k, k < wr.heap.size → some k ≠ c.ownBlock → w'.heap[k]? = wr.heap[k]?) : RpS w v N cl B o ps w' :=
  ⟨(hk _ h.1.lt (own_ne hc h.1 (by decide))).trans h.1, own_keep h.2.1 fun k e => hk k (own_lt h.2.1 k e).2 (own_ne2 hc h.2.1 (by decide) k e), h.2.2.1.trans (hb.mono h.2.2.2.1), h.2.2.2.1, Nat.le_trans h.2.2.2.2 hb.size⟩
/-- a part more -/
theorem RpS.push (h : RpS w v N cl B o ps wr) (pr : Prt) {cs : Array Value} {v' : Value} (hg : (wr.alloc (.cells cs 34)).grownBy w' o.ownBlock) (hown : w'.ownsRow B 34 7 v' (ps.length + 1) (ps.flatMap pvs ++ pvs pr)) : RpS w v N cl B v' (ps ++ [pr]) w' := by
  have h2 := h.ext (ext_alloc wr (.cells cs 34))
  have hb := h2.2.2.1.grown hg (by simp; have := h.2.2.1.size; omega) (fun k hk => Nat.le_trans h.2.2.2.1 (own_lt h.2.1 k hk).1)
  refine ⟨(hg.block v h2.1.lt (own_ne h2.2.1 h2.1 (by decide))).trans h2.1, ?_, hb, h.2.2.2.1, ?_⟩
  · have e : ps.flatMap pvs ++ pvs pr = (ps ++ [pr]).flatMap pvs := by rw [List.flatMap_append]; simp
    have e2 : (ps ++ [pr]).length = ps.length + 1 := by simp
    unfold Vq
    rw [← e, e2]
    exact hown
  · have := ((Below.refl B (wr.alloc (.cells cs 34))).grown hg (by simp; have := h.2.2.2.2; omega) (fun k hk => (own_lt h.2.1 k hk).1)).size
    simp at this
    have := h.2.2.2.2
    omega
end
/-- what the reference's Parts answers -/
def RetRp (w : World) (l : List ByteArray) (g : Int) (e : Ending) (w' : World) : Prop :=
  Below w.heap.size w w' ∧ ((¬ PsOk l g ∧ e = .returned (.tuple #[.slice none 0 0, .int .i64 2])) ∨
    (PsOk l g ∧ ∃ A cap, e = .returned (.tuple #[.slice A (partsL (usb l g) (wid l) l.length 3000).length cap, .int .i64 0]) ∧ (partsL (usb l g) (wid l) l.length 3000).length ≤ cap ∧ cap ≤ 9223372036854775807 ∧ PSl w' A (partsL (usb l g) (wid l) l.length 3000)))
/-- the four neighbours in their block -/
theorem four_at (x y : Int) : ∀ d, d < 4 → ∃ ex ey, (rsides (x, y))[d]? = some (ex, ey) ∧ #[Value.int .i64 (x - 1), .int .i64 y, .int .i64 (x + 1), .int .i64 y, .int .i64 x, .int .i64 (y - 1), .int .i64 x, .int .i64 (y + 1)][d * 2]? = some (.int .i64 ex) ∧
    #[Value.int .i64 (x - 1), .int .i64 y, .int .i64 (x + 1), .int .i64 y, .int .i64 x, .int .i64 (y - 1), .int .i64 x, .int .i64 (y + 1)][d * 2 + 1]? = some (.int .i64 ey) := by
  intro d hd
  rcases (by omega : d = 0 ∨ d = 1 ∨ d = 2 ∨ d = 3) with rfl | rfl | rfl | rfl
  · exact ⟨_, _, rfl, rfl, rfl⟩
  · exact ⟨_, _, rfl, rfl, rfl⟩
  · exact ⟨_, _, rfl, rfl, rfl⟩
  · exact ⟨_, _, rfl, rfl, rfl⟩
set_option maxRecDepth 100000 in
set_option maxHeartbeats 8000000 in
theorem rparts_any (A : Option Addr) (cap : Nat) (l : List ByteArray) (g : Int) (w : World) (hc : l.length ≤ cap) (hcm : cap ≤ 9223372036854775807) (h : TSl w A l) (hz : TSz l) :
    Calls Tryd.prog 13 #[.slice A l.length cap, .int .i64 g] w (RetRp w l g) := by
  have HGD := Lib.hid (good_any A cap l g w hc hcm h hz)
  by_cases hps : PsOk l g
  · rw [decide_eq_true hps] at HGD
    have HPS := Lib.hid hps
    have hok := hps.1
    have HCLS := Lib.hid (fun W (hW : Below w.heap.size w W) => rclasses_any A cap l g W hok hps.2.1 (h.ext hW))
    have HGR := Lib.hid (fun x y W (hW : Below w.heap.size w W) => rgrade_any A cap l x y W hok (h.ext hW))
    rcases h with h0 | ⟨b, off, rfl, hblt, hcl⟩
    · have h1 := hok.1; rw [h0] at h1; simp at h1
    have HC := Lib.hid (show ∀ W, Below w.heap.size w W → b < W.heap.size ∧ ∃ r0 : ByteArray, W.cell? ⟨b, off, none⟩ = some (.string r0) ∧ r0.size = wid l from fun W hW => ⟨Nat.lt_of_lt_of_le hblt hW.size, first_row hok (fun j hj => (hW.cell (p := ⟨b, off + j, none⟩) hblt).trans (hcl j hj))⟩)
    have hl1 := hok.1
    have hl48 := hok.2.1
    have hw48 := hok.2.2.2.1
    have hw1 := hok.2.2.1
    obtain ⟨us, hus⟩ : ∃ us, us = usb l g := ⟨_, rfl⟩
    have HUS := Lib.hid (show ∀ x y, (us (x, y) = true ↔ g ≤ gr l x y) from fun x y => by rw [hus]; unfold usb; simp)
    have HU := Lib.hid hus
    obtain ⟨n, hn⟩ : ∃ n, n = wid l := ⟨_, rfl⟩
    have HN := Lib.hid hn
    rw [← hn] at HC hw48 hw1
    obtain ⟨N, hN⟩ : ∃ N, N = n * l.length := ⟨_, rfl⟩
    have HNN := Lib.hid hN
    have hNb : N ≤ 48 * 48 := by rw [hN]; exact Nat.mul_le_mul hw48 hl48
    have HCLS := Lib.hid (show ∀ W, Below w.heap.size w W → Calls Tryd.prog 49 #[.slice (some ⟨b, off, none⟩) l.length cap, .int .i64 g] W fun e w' => ∃ (v : Nat) (cl : Nat → Int), e = .returned (.slice (some ⟨v, 0, none⟩) N N) ∧ W.heap.size ≤ v ∧ Ow 3 v N cl w' ∧ Below W.heap.size W w' ∧ partsL us n l.length 3000 = partsK n N cl N ∧ (∀ c, edgeL (cellsK n cl c N) = edgU us (cellsK n cl c N)) from fun W hW => by
      refine (HCLS.out W hW).mono ?_
      rintro e w' ⟨v, up, rfl, hle, hrt, hv, ho, hb⟩
      rw [← hus, ← hn] at hrt ho
      have hg : grid l = ⟨0, 0, (n : Int) - 1, (l.length : Int) - 1⟩ := by unfold grid; rw [hn]
      rw [hg] at hrt
      rw [← hN] at ho
      refine ⟨v, clsK us n up, by rw [← hn, ← hN], hv, ho, hb, ?_, fun c => ?_⟩
      · rw [hN]; exact parts_cls hrt (by omega)
      · rw [hN]; exact edge_cls hrt c)
    clear hus hn hN hok hps hcl hblt hz
    go_enter Tryd.func13, Tryd.ntmps13
    go_upto_region 3 with (go_at_call 21; refine (HGD.out).mono ?_; rintro e w1 ⟨rfl, hx1⟩)
    obtain ⟨hb1, r0, c0, hr0⟩ := HC.out w1 hx1
    go_upto_region 4 with (fail)
    go_upto_region 6 with (go_at_call 49; refine (HCLS.out w1 hx1).mono ?_; rintro e w2 ⟨v, cl, rfl, hv1, ho, hx2, hpk, hek⟩)
    have HPK := Lib.hid hpk
    have HEK := Lib.hid hek
    have HS0 := Lib.hid (show RpS w v N cl w2.heap.size (.slice none 0 0) (partsK n N cl 0) w2 from ⟨ho, Vq.nil _ _, bext hx1 hx2 hx1.size, by have := hx1.size; have := hx2.size; omega, Nat.le_refl _⟩)
    obtain ⟨B, hB⟩ : ∃ B, B = w2.heap.size := ⟨_, rfl⟩
    rw [← hB] at HS0
    clear hpk hek ho hx2 hv1 hB c0 hb1 hr0 hx1
    go_wp2_with (fail)
    go_loopg [34, 8] N (fun gg z o wr => ∃ i : Nat, z = .int .i64 i ∧ i ≤ N ∧ gg = N - i ∧ RpS w v N cl B o (partsK n N cl i) wr)
    case atStart => exact ⟨0, rfl, by omega, by omega, HS0.out⟩
    case round =>
      obtain ⟨i, rfl, hi, hg, hs⟩ := hrel
      have HG := Lib.hid hg
      have HS := Lib.hid hs
      clear hg hs HS0
      by_cases hlt : i < N
      · have c1 := HS.out.1.cell hlt
        have c3 := HS.out.1.lt
        by_cases hci : cl i = (i : Int)
        · have HCI := Lib.hid hci
          rw [hci] at c1
          clear hci
          have HS0 := Lib.hid (show Vd B wr (.slice none 0 0) (cellsK n cl i 0) from Vd.nil _ _)
          go_wp2_with (fail)
          obtain ⟨wo, hwo⟩ : ∃ wo, wo = wr := ⟨_, rfl⟩
          subst hwo
          go_loopg [44, 11, 12] N (fun gg z c y wr => ∃ (k : Nat) (e : Int), z = .int .i64 k ∧ k ≤ N ∧ gg = N - k ∧ RpS w v N cl B u8 (partsK n N cl i) wr ∧ Vd B wr c (cellsK n cl i k) ∧ y = .int .i64 e ∧ e = (edgU us (cellsK n cl i k) : Int))
          case atStart => exact ⟨0, 0, rfl, by omega, by omega, HS.out, HS0.out, rfl, rfl⟩
          case round =>
            obtain ⟨k, e, rfl, hk, hg2, hs2, hv, rfl, he⟩ := hrel
            have HG2 := Lib.hid hg2
            have HS2 := Lib.hid hs2
            have HV := Lib.hid hv
            have HE := Lib.hid he
            have HLT := Lib.hid hlt
            have heb : 0 ≤ e ∧ e ≤ 20000 := by have := edgU_le us (cellsK n cl i k); have := cellsK_len n cl i k; omega
            have hcb : (cellsK n cl i k).length ≤ 2304 := by have := cellsK_len n cl i k; omega
            clear hg2 hs2 hv he HS HS0 c1 c3
            by_cases hltk : k < N
            · have c1 := HS2.out.1.cell hltk
              have c3 := HS2.out.1.lt
              obtain ⟨ck, hck⟩ : ∃ ck, ck = cl k := ⟨_, rfl⟩
              rw [← hck] at c1
              by_cases hci : ck = (i : Int)
              · have HY := Lib.hid (show cellsK n cl i (k + 1) = cellsK n cl i k ++ [celK n k] from cellsK_yes (by rw [← hck]; exact hci))
                rw [hci] at c1
                clear hci hck
                obtain ⟨px, hpx⟩ : ∃ px, px = k % n := ⟨_, rfl⟩
                obtain ⟨py, hpy⟩ : ∃ py, py = k / n := ⟨_, rfl⟩
                have hpn : px < n := by rw [hpx]; exact Nat.mod_lt _ (by omega)
                have hpk : py < l.length := by rw [hpy]; exact Nat.div_lt_of_lt_mul (by rw [← HNN.out]; exact hltk)
                have htm : (k : Int).tmod (n : Int) = (px : Int) := by rw [Int.tmod_eq_emod_of_nonneg (by omega), hpx]; push_cast; rfl
                have htd : (k : Int).tdiv (n : Int) = (py : Int) := by rw [Int.tdiv_eq_ediv_of_nonneg (by omega), hpy]; push_cast; rfl
                have hn0 : ¬ (n : Int) = 0 := by omega
                have HY := Lib.hid (show cellsK n cl i (k + 1) = cellsK n cl i k ++ [((px : Int), (py : Int))] from by rw [HY.out]; unfold celK; rw [← hpx, ← hpy])
                clear hpx hpy
                go_upto_region 16 with (fail)
                go_quiet (fail)
                have HS3 := Lib.hid (HS2.out.ext (ext_drewN wr nq))
                have HV3 := Lib.hid (own_ext HV.out (ext_drewN wr nq))
                obtain ⟨X, hX⟩ : ∃ X, X = wr.drewN nq := ⟨_, rfl⟩
                rw [← hX] at HS3 HV3 ⊢
                have hBX : B ≤ X.heap.size := HS3.out.2.2.2.2
                have hvl : (cellsK n cl i k).length ≤ 1000000 := by omega
                clear hX HS2 HV htm htd hn0 c1 c3
                go_upto_region 18 with (at_builtin; refine wpList_pushD _ rfl _ _ rfl B HV3.out (by rfl) (by rfl) rfl hvl hBX ?_; intro v5 w5 hv5 hb5 hk5 _; have HV5 := Lib.hid hv5; have HS5 := Lib.hid (HS3.out.cells HV3.out hb5 hk5); clear hv5 hb5 hk5)
                clear HS3 HV3 hBX
                have HXQ := Lib.hid (ext_alloc w5 (.cells #[.int .i64 ((px : Int) - 1), .int .i64 (py : Int), .int .i64 ((px : Int) + 1), .int .i64 (py : Int), .int .i64 (px : Int), .int .i64 ((py : Int) - 1), .int .i64 (px : Int), .int .i64 ((py : Int) + 1)] 80))
                have HQ := Lib.hid (Bk.new 80 w5 #[.int .i64 ((px : Int) - 1), .int .i64 (py : Int), .int .i64 ((px : Int) + 1), .int .i64 (py : Int), .int .i64 (px : Int), .int .i64 ((py : Int) - 1), .int .i64 (px : Int), .int .i64 ((py : Int) + 1)])
                have HS6 := Lib.hid (HS5.out.ext HXQ.out)
                have HV6 := Lib.hid (own_ext HV5.out HXQ.out)
                have H4 := Lib.hid (four_at (px : Int) (py : Int))
                go_wp2_with (fail)
                obtain ⟨q, hq⟩ : ∃ q, q = w5.heap.size := ⟨_, rfl⟩
                obtain ⟨V, hV⟩ : ∃ V, V = w5.alloc (.cells #[.int .i64 ((px : Int) - 1), .int .i64 (py : Int), .int .i64 ((px : Int) + 1), .int .i64 (py : Int), .int .i64 (px : Int), .int .i64 ((py : Int) - 1), .int .i64 (px : Int), .int .i64 ((py : Int) + 1)] 80) := ⟨_, rfl⟩
                rw [← hq, ← hV]
                rw [← hq, ← hV] at HQ
                rw [← hV] at HS6 HV6
                clear hq hV HXQ HS5 HV5
                obtain ⟨cs, hcs⟩ : ∃ cs, cs = #[Value.int .i64 ((px : Int) - 1), .int .i64 (py : Int), .int .i64 ((px : Int) + 1), .int .i64 (py : Int), .int .i64 (px : Int), .int .i64 ((py : Int) - 1), .int .i64 (px : Int), .int .i64 ((py : Int) + 1)] := ⟨_, rfl⟩
                rw [← hcs] at HQ H4
                clear hcs
                go_loopg [82, 12] 4 (fun gg z y wr => ∃ (d : Nat) (e' : Int), z = .int .i64 d ∧ d ≤ 4 ∧ gg = 4 - d ∧ RpS w v N cl B u8 (partsK n N cl i) wr ∧ Vd B wr v5 (cellsK n cl i k ++ [((px : Int), (py : Int))]) ∧ y = .int .i64 e' ∧ e' = e + (outD us ((px : Int), (py : Int)) d : Int) ∧ Bk 80 wr q cs)
                case atStart => exact ⟨0, e, rfl, by omega, by omega, HS6.out, HV6.out, rfl, by unfold outD; simp, HQ.out⟩
                case round =>
                  obtain ⟨d, e', rfl, hd, hg3, hs3, hv3, rfl, he3, hq3⟩ := hrel
                  have HG3 := Lib.hid hg3
                  have HS7 := Lib.hid hs3
                  have HV7 := Lib.hid hv3
                  have HE7 := Lib.hid he3
                  have HQ7 := Lib.hid hq3
                  have heb3 : 0 ≤ e' ∧ e' ≤ 30000 := by have := outD_le us ((px : Int), (py : Int)) d; omega
                  clear hg3 hs3 hv3 he3 hq3 HS6 HV6 HQ
                  by_cases hltd : d < 4
                  · obtain ⟨ex, ey, hes, he1, he2⟩ := H4.out d hltd
                    have HOS := Lib.hid (outD_step (us := us) hes)
                    have c1 := (HQ7.out.cell (d * 2)).trans he1
                    have c2 := (HQ7.out.cell (d * 2 + 1)).trans he2
                    have c3 := HQ7.out.lt
                    have HXD := Lib.hid (ext_alloc wr (.cells #[.int .i64 ex, .int .i64 ey] 80))
                    have HD := Lib.hid (Bk.new 80 wr #[.int .i64 ex, .int .i64 ey])
                    have HS8 := Lib.hid (HS7.out.ext HXD.out)
                    have HV8 := Lib.hid (own_ext HV7.out HXD.out)
                    have HQ8 := Lib.hid (HQ7.out.ext HXD.out)
                    have hdi : (d : Int) < 4 := by omega
                    clear hes he1 he2
                    go_upto_region 21 with (fail)
                    obtain ⟨dq, hdq⟩ : ∃ dq, dq = wr.heap.size := ⟨_, rfl⟩
                    obtain ⟨Y, hY⟩ : ∃ Y, Y = wr.alloc (.cells #[.int .i64 ex, .int .i64 ey] 80) := ⟨_, rfl⟩
                    rw [← hdq, ← hY]
                    rw [← hdq, ← hY] at HD
                    rw [← hY] at HS8 HV8 HQ8
                    clear hdq hY HXD HS7 HV7 HQ7 c1 c2 c3
                    obtain ⟨d1, d2, d3⟩ := HD.out.facts
                    have e1 := d1 0
                    have e2 := d1 1
                    simp only [List.getElem?_toArray, List.getElem?_cons_zero, List.getElem?_cons_succ, Nat.zero_add, Nat.reduceAdd] at e1 e2
                    clear d1
                    have HG1 := Lib.hid (HGR.out ex ey Y HS8.out.2.2.1)
                    have HU1 := Lib.hid (HUS.out ex ey)
                    obtain ⟨z1, hz1⟩ : ∃ z1, z1 = gr l ex ey := ⟨_, rfl⟩
                    rw [← hz1] at HG1 HU1
                    clear hz1
                    by_cases hgz : g ≤ z1
                    · have HO1 := Lib.hid (show outD us ((px : Int), (py : Int)) (d + 1) = outD us ((px : Int), (py : Int)) d from by rw [HOS.out, HU1.out.2 hgz, if_pos rfl]; rfl)
                      have hgz2 : ¬ z1 < g := by omega
                      clear hgz HOS
                      go_wp2_with (go_at_call 34; refine (HG1.out).mono ?_; rintro r9 w9 ⟨rfl, rfl⟩)
                      go_roundg (4 - (d + 1))
                      case measure => have := HG3.out; omega
                      case rel => exact ⟨d + 1, e', by go_num, by omega, rfl, HS8.out, HV8.out, rfl, by rw [HO1.out]; exact HE7.out, HQ8.out⟩
                    · have HO1 := Lib.hid (show outD us ((px : Int), (py : Int)) (d + 1) = outD us ((px : Int), (py : Int)) d + 1 from by rw [HOS.out, if_neg (fun h => hgz (HU1.out.1 h))])
                      have hgz2 : z1 < g := by omega
                      clear hgz HOS
                      go_wp2_with (go_at_call 34; refine (HG1.out).mono ?_; rintro r9 w9 ⟨rfl, rfl⟩)
                      go_roundg (4 - (d + 1))
                      case measure => have := HG3.out; omega
                      case rel => exact ⟨d + 1, e' + 1, by go_num, by omega, rfl, HS8.out, HV8.out, rfl, by rw [HO1.out]; have := HE7.out; omega, HQ8.out⟩
                  · obtain rfl : d = 4 := by omega
                    have HED := Lib.hid (show e' = (edgU us (cellsK n cl i (k + 1)) : Int) from by rw [HY.out, edgU_snoc]; have := HE7.out; have := HE.out; omega)
                    go_wp2
                    go_roundg (N - (k + 1))
                    case measure => have := HG2.out; omega
                    case rel => exact ⟨k + 1, e', by go_num, by omega, rfl, HS7.out, by rw [HY.out]; exact HV7.out, rfl, HED.out⟩
              · have HY := Lib.hid (show cellsK n cl i (k + 1) = cellsK n cl i k from cellsK_no (by rw [← hck]; exact hci))
                have hne : (ck != (i : Int)) = true := by simpa using hci
                clear hci hck
                go_wp2
                go_roundg (N - (k + 1))
                case measure => have := HG2.out; omega
                case rel => exact ⟨k + 1, e, by go_num, by omega, rfl, HS2.out, by rw [HY.out]; exact HV.out, rfl, by rw [HY.out]; exact HE.out⟩
            · have hkN : k = N := by omega
              subst hkN
              have HIN := Lib.hid (show ∀ d ∈ cellsK n cl i k, InG d from fun d hd => by
                have := cellsK_grid (by omega) HNN.out hd
                unfold InG; omega)
              have hne : cellsK n cl i k ≠ [] := fun e => by
                have hm : celK n i ∈ cellsK n cl i k := List.mem_map.2 ⟨i, List.mem_filter.2 ⟨List.mem_range.2 HLT.out, by simpa using HCI.out⟩, rfl⟩
                rw [e] at hm; simp at hm
              obtain ⟨hbx1, hbx2, hbx3⟩ := cells_box (by omega) HNN.out HLT.out HCI.out
              have HMC := Lib.hid (fun (x y : Nat) (hx : x < n) (hi : n * y + x < k) => mem_cellsK (cl := cl) (c := i) hx hi)
              have HPY := Lib.hid (show partsK n k cl (i + 1) = partsK n k cl i ++ [partL (cellsK n cl i k) 3000] from partsK_yes HCI.out)
              have HED := Lib.hid (show (edgeL (cellsK n cl i k) : Int) = e from by rw [HEK.out, HE.out])
              have hpl := partsK_len n k cl i
              obtain ⟨C, cc, hvc, k1, k2, k3⟩ := HV.out.csl
              subst hvc
              obtain ⟨L, hL⟩ : ∃ L, L = cellsK n cl i k := ⟨_, rfl⟩
              rw [← hL] at HIN hne hbx1 hbx2 hbx3 HMC HPY HED k1 k3 hcb ⊢
              obtain ⟨ps, hpss⟩ : ∃ ps, ps = partsK n k cl i := ⟨_, rfl⟩
              rw [← hpss] at hpl HS2 HPY
              have HBX := Lib.hid ((rbox_any C cc L wr HIN.out (by omega) (k3.le (Nat.zero_le _))).mono (R' := fun e w' => Below wr.heap.size wr w' ∧ e = .returned (.tuple #[.agg #[.int .i64 (boxL L).x0, .int .i64 (boxL L).y0, .int .i64 ((boxL L).x1 - (boxL L).x0 + 1), .int .i64 ((boxL L).y1 - (boxL L).y0 + 1)], .bool true])) (fun e w' h => ⟨h.1, h.2.elim (fun h => absurd h.1 hne) (fun h => h.2)⟩))
              obtain ⟨bx, hbx⟩ : ∃ bx, bx = boxL L := ⟨_, rfl⟩
              rw [← hbx] at HBX hbx1 hbx2 hbx3
              have HBE := Lib.hid hbx
              have HMB := Lib.hid (show ∀ x y : Nat, bx.inB ((x : Int), (y : Int)) = true → (((x : Int), (y : Int)) ∈ L ↔ cl (n * y + x) = (i : Int)) from fun x y hin => by
                unfold Bx.inB at hin
                simp only [Bool.and_eq_true, decide_eq_true_eq] at hin
                have hy : y + 1 ≤ l.length := by omega
                have hm := Nat.mul_le_mul_left n hy
                rw [Nat.mul_succ] at hm
                refine HMC.out x y (by omega) ?_
                rw [HNN.out]; omega)
              have HB12 := Lib.hid (And.intro hbx1 (And.intro hbx2 hbx3))
              have HHO := Lib.hid (fun W (hO : Ow 3 v k cl W) => rholes_any v n l.length k cl i L bx W hw48 hl48 HNN.out hO HB12.out.1 HB12.out.2.1 HB12.out.2.2 HMB.out)
              have HPR := Lib.hid (show partL L 3000 = ⟨L.length, edgeL L, holesL L bx 3000, bx⟩ from by unfold partL; rw [HBE.out])
              obtain ⟨ho, hho⟩ : ∃ ho, ho = holesL L bx 3000 := ⟨_, rfl⟩
              rw [← hho] at HHO HPR
              clear hho hbx hL hpss hne hbx1 hbx2 hbx3 HMC HMB HB12 HBE
              obtain ⟨x0, y0, x1, y1⟩ := bx
              dsimp only at HBX HHO
              clear k3 HV HE
              go_upto_region 26 with (go_at_call 50; refine (HBX.out).mono ?_; rintro e5 w5 ⟨hx5, rfl⟩; have HX5 := Lib.hid hx5; clear hx5)
              have HS6 := Lib.hid ((HS2.out.ext HX5.out).ext (ext_alloc w5 (.cells #[.int .i64 x0, .int .i64 y0, .int .i64 (x1 - x0 + 1), .int .i64 (y1 - y0 + 1)] 31)))
              have HR6 := Lib.hid (Bk.new 31 w5 #[.int .i64 x0, .int .i64 y0, .int .i64 (x1 - x0 + 1), .int .i64 (y1 - y0 + 1)])
              obtain ⟨rq, hrq⟩ : ∃ rq, rq = w5.heap.size := ⟨_, rfl⟩
              obtain ⟨V, hV⟩ : ∃ V, V = w5.alloc (.cells #[.int .i64 x0, .int .i64 y0, .int .i64 (x1 - x0 + 1), .int .i64 (y1 - y0 + 1)] 31) := ⟨_, rfl⟩
              rw [← hrq, ← hV]
              rw [← hrq, ← hV] at HR6
              rw [← hV] at HS6
              obtain ⟨i0, hi0, hz0, hz1, hz2⟩ := info_parts info_rpart
              have HSF := Lib.hid (fun W (hW : Bk 31 W rq #[.int .i64 x0, .int .i64 y0, .int .i64 (x1 - x0 + 1), .int .i64 (y1 - y0 + 1)]) => show W.cell? ⟨rq, 0, none⟩ = some (.int .i64 x0) ∧ W.cell? ⟨rq, 1, none⟩ = some (.int .i64 y0) ∧ W.cell? ⟨rq, 2, none⟩ = some (.int .i64 (x1 - x0 + 1)) ∧ W.cell? ⟨rq, 3, none⟩ = some (.int .i64 (y1 - y0 + 1)) from ⟨hW.cell 0, hW.cell 1, hW.cell 2, hW.cell 3⟩)
              have HLT2 := Lib.hid HLT.out
              clear hrq hV HX5 HS2 HBX
              refine wp_region_T (S := fun W => Bk 31 W rq #[.int .i64 x0, .int .i64 y0, .int .i64 (x1 - x0 + 1), .int .i64 (y1 - y0 + 1)]) 13 (by kernel_rfl) (HR6.out.ext (ext_drew V)) (fun hHeld => ?_)
              refine wpAnyT_take (i := 0) (v := ?v1) [] rfl (by kernel_rfl) (fun _ _ _ h => h) (Or.inl ⟨by rfl, ?hy1⟩) hHeld ?rst1
              case hy1 => (intro wx hSw; have hQ26 := HSF.out wx hSw; obtain ⟨q1, q2, q3, q4⟩ := hQ26; go_simp; try (with_reducible rfl))
              try simp only [List.getElem_toArray, List.getElem_cons_zero, Act.put, List.setIfInBounds_toArray, List.set_cons_zero, List.set_cons_succ]
              refine wpAnyT_take (i := 1) (v := ?v2) [] rfl (by kernel_rfl) (fun _ _ _ h => h) (Or.inl ⟨by rfl, ?hy2⟩) hHeld ?rst2
              case hy2 => (intro wx hSw; have hQ26 := HSF.out wx hSw; obtain ⟨q1, q2, q3, q4⟩ := hQ26; go_simp; try (with_reducible rfl))
              try simp only [List.getElem_toArray, List.getElem_cons_zero, List.getElem_cons_succ, Act.put, List.setIfInBounds_toArray, List.set_cons_zero, List.set_cons_succ]
              refine wpAnyT_take (i := 2) (v := ?v3) [] rfl (by kernel_rfl) (fun _ _ _ h => h) (Or.inl ⟨by rfl, ?hy3⟩) hHeld ?rst3
              case hy3 => (intro wx hSw; have hQ26 := HSF.out wx hSw; obtain ⟨q1, q2, q3, q4⟩ := hQ26; go_simp; try (with_reducible rfl))
              try simp only [List.getElem_toArray, List.getElem_cons_zero, List.getElem_cons_succ, Act.put, List.setIfInBounds_toArray, List.set_cons_zero, List.set_cons_succ]
              refine wpAnyT_take (i := 3) (v := ?v4) [] rfl (by kernel_rfl) (fun _ _ _ h => h) (Or.inl ⟨by rfl, ?hy4⟩) hHeld ?rst4
              case hy4 => (intro wx hSw; have hQ26 := HSF.out wx hSw; obtain ⟨q1, q2, q3, q4⟩ := hQ26; go_simp; try (with_reducible rfl))
              try simp only [List.getElem_toArray, List.getElem_cons_zero, List.getElem_cons_succ, Act.put, List.setIfInBounds_toArray, List.set_cons_zero, List.set_cons_succ]
              refine wpAnyT_take (i := 4) (v := ?v5) [] rfl (by kernel_rfl) (fun _ _ _ h => h) (Or.inl ⟨by rfl, ?hy5⟩) hHeld ?rst5
              case hy5 => (intro wx hSw; have hQ26 := HSF.out wx hSw; obtain ⟨q1, q2, q3, q4⟩ := hQ26; go_simp; try (with_reducible rfl))
              try simp only [List.getElem_toArray, List.getElem_cons_zero, List.getElem_cons_succ, Act.put, List.setIfInBounds_toArray, List.set_cons_zero, List.set_cons_succ]
              refine wpAnyT_take (i := 5) (v := ?v6) [] rfl (by kernel_rfl) (fun _ _ _ h => h) (Or.inl ⟨by rfl, ?hy6⟩) hHeld ?rst6
              case hy6 => (intro wx hSw; have hQ26 := HSF.out wx hSw; obtain ⟨q1, q2, q3, q4⟩ := hQ26; go_simp; try (with_reducible rfl))
              try simp only [List.getElem_toArray, List.getElem_cons_zero, List.getElem_cons_succ, Act.put, List.setIfInBounds_toArray, List.set_cons_zero, List.set_cons_succ]
              refine wpAnyT_take (i := 6) (v := ?v7) [] rfl (by kernel_rfl) (fun _ _ _ h => h) (Or.inl ⟨by rfl, ?hy7⟩) hHeld ?rst7
              case hy7 => (intro wx hSw; have hQ26 := HSF.out wx hSw; obtain ⟨q1, q2, q3, q4⟩ := hQ26; go_simp; try (with_reducible rfl))
              try simp only [List.getElem_toArray, List.getElem_cons_zero, List.getElem_cons_succ, Act.put, List.setIfInBounds_toArray, List.set_cons_zero, List.set_cons_succ]
              refine wpAnyT_take (i := 7) (v := ?v8) [] rfl (by kernel_rfl) (fun _ _ _ h => h) (Or.inl ⟨by rfl, ?hy8⟩) hHeld ?rst8
              case hy8 => (intro wx hSw; have hQ26 := HSF.out wx hSw; obtain ⟨q1, q2, q3, q4⟩ := hQ26; go_simp; try (with_reducible rfl))
              try simp only [List.getElem_toArray, List.getElem_cons_zero, List.getElem_cons_succ, Act.put, List.setIfInBounds_toArray, List.set_cons_zero, List.set_cons_succ]
              refine wpAnyT_take (i := 9) (v := ?v9) [] rfl (by kernel_rfl) (fun _ _ _ h => h) (Or.inl ⟨by rfl, ?hy9⟩) hHeld ?rst9
              case hy9 => (intro wx hSw; have hQ26 := HSF.out wx hSw; obtain ⟨q1, q2, q3, q4⟩ := hQ26; go_simp; try (with_reducible rfl))
              try simp only [List.getElem_toArray, List.getElem_cons_zero, List.getElem_cons_succ, Act.put, List.setIfInBounds_toArray, List.set_cons_zero, List.set_cons_succ]
              refine wpAnyT_one (i := 8) (by kernel_rfl) rfl (fun K hK => ?_)
              go_simp
              go_at_call 51
              refine (HHO.out _ (HS6.out.1.ext (ext_drew V))).mono ?_
              rintro e9 w9 ⟨rfl, hx9⟩
              have HS9 := Lib.hid (HS6.out.ext (ext_trans (ext_drew V) hx9))
              have HR9 := Lib.hid (HR6.out.ext (ext_trans (ext_drew V) hx9))
              clear hx9
              refine hK.out _ _ (HR9.out) (fun hHeld => ?_)
              clear hK K
              try simp only [List.getElem_toArray, List.getElem_cons_zero, List.getElem_cons_succ, Act.put, List.setIfInBounds_toArray, List.set_cons_zero, List.set_cons_succ]
              refine wpAnyT_take (i := 10) (v := ?v10) [] rfl (by kernel_rfl) (fun _ _ _ h => h) (Or.inl ⟨by rfl, ?hy10⟩) hHeld ?rst10
              case hy10 => (intro wx hSw; have hQ26 := HSF.out wx hSw; obtain ⟨q1, q2, q3, q4⟩ := hQ26; go_simp; try (with_reducible rfl))
              try simp only [List.getElem_toArray, List.getElem_cons_zero, List.getElem_cons_succ, Act.put, List.setIfInBounds_toArray, List.set_cons_zero, List.set_cons_succ]
              refine wpAnyT_one (i := 11) (by kernel_rfl) rfl (fun K hK => ?_)
              go_simp
              refine hK.out _ _ (HR9.out.alloc _) (fun hHeld => ?_)
              clear hK K
              try simp only [List.getElem_toArray, List.getElem_cons_zero, List.getElem_cons_succ, Act.put, List.setIfInBounds_toArray, List.set_cons_zero, List.set_cons_succ]
              refine wpAnyT_one (i := 12) (by kernel_rfl) rfl (fun K hK => ?_)
              refine step_append_lies _ (by rfl) _ _ _ (by rfl) B 34 i0 _ 7 56 Tryd.underlying27 hi0 hz0 hz1 hz2 rfl (by omega) _ _ _ (by rfl) (own_ext HS9.out.2.1 (ext_alloc w9 _)) ⟨w9.heap.size, 0, none⟩ 1 1 [.int .i64 (L.length : Int), .int .i64 e, .int .i64 (ho : Int), .int .i64 x0, .int .i64 y0, .int .i64 (x1 - x0 + 1), .int .i64 (y1 - y0 + 1)] (by rfl) (by rfl) (World.news_of_block (cs := #[.int .i64 (L.length : Int), .int .i64 e, .int .i64 (ho : Int), .int .i64 x0, .int .i64 y0, .int .i64 (x1 - x0 + 1), .int .i64 (y1 - y0 + 1)]) (t := 34) (fr := (0, 0)) (heap_alloc_new _ _)) (by simp [Value.oneCell']) (by omega) (by unfold maxLen; omega) (by omega) (by have := HS9.out.2.2.2.2; simp; omega) _ rfl ?_
              intro gg26 cap26 w26 hown26 hgrow26 hat26 hlt26
              have HS26 := Lib.hid (HS9.out.push ⟨L.length, edgeL L, ho, ⟨x0, y0, x1, y1⟩⟩ hgrow26 (by rw [← HED.out] at hown26; exact hown26))
              have HR26 := Lib.hid (show Bk 31 w26 rq #[.int .i64 x0, .int .i64 y0, .int .i64 (x1 - x0 + 1), .int .i64 (y1 - y0 + 1)] from (hgrow26.block rq (HR9.out.alloc _).lt (own_ne HS9.out.2.1 HR9.out (by decide))).trans (HR9.out.alloc _))
              clear hown26 hgrow26 hat26 hlt26
              refine hK.out _ _ (HR26.out) (fun hHeld => ?_)
              clear hK K
              try simp only [List.getElem_toArray, List.getElem_cons_zero, List.getElem_cons_succ, Act.put, List.setIfInBounds_toArray, List.set_cons_zero, List.set_cons_succ]
              refine wpAnyT_last (by kernel_rfl) (by kernel_rfl) rfl (fun K hK => ?_)
              go_simp
              refine hK.out _ _ ?_
              clear hK K
              go_wp2
              go_roundg (k - (i + 1))
              case measure => have := HG.out; have := HLT2.out; omega
              case rel => exact ⟨i + 1, by go_num, by have := HLT2.out; omega, rfl, by rw [HPY.out, HPR.out]; exact HS26.out⟩
        · have HY := Lib.hid (show partsK n N cl (i + 1) = partsK n N cl i from partsK_no hci)
          obtain ⟨ci, hci2⟩ : ∃ ci, ci = cl i := ⟨_, rfl⟩
          rw [← hci2] at c1 hci
          have hne : (ci != (i : Int)) = true := by simpa using hci
          clear hci hci2
          go_wp2
          go_roundg (N - (i + 1))
          case measure => have := HG.out; omega
          case rel => exact ⟨i + 1, by go_num, by omega, rfl, by rw [HY.out]; exact HS.out⟩
      · obtain rfl : i = N := by omega
        have HP := Lib.hid (show partsK n i cl i = partsL (usb l g) (wid l) l.length 3000 from by rw [← HPK.out, HU.out, HN.out])
        obtain ⟨A2, cap2, rfl, k1, k2, k3⟩ := HS.out.2.1.psl
        have HP3 := Lib.hid k3
        have k2' : cap2 ≤ 9223372036854775807 := by unfold maxLen at k2; omega
        clear k2 k3
        go_wp2
        refine bodyPost_ret (v := .tuple #[.slice A2 (partsK n i cl i).length cap2, .int .i64 0]) (by simp [results, Tryd.results13, go_sem]) rfl ?_
        refine ⟨HS.out.2.2.1, .inr ⟨HPS.out, A2, cap2, by rw [← HP.out], by rw [← HP.out]; exact k1, k2', by rw [← HP.out]; exact HP3.out⟩⟩
  · rw [decide_eq_false hps] at HGD
    have HPS := Lib.hid hps
    clear hps h hz
    go_enter Tryd.func13, Tryd.ntmps13
    go_wp2_with (go_at_call 21; refine (HGD.out).mono ?_; rintro e w1 ⟨rfl, hx1⟩)
    refine bodyPost_ret (v := .tuple #[.slice none 0 0, .int .i64 2]) (by simp [results, Tryd.results13, go_sem]) rfl ?_
    exact ⟨hx1, .inl ⟨HPS.out, rfl⟩⟩
end Go.Proofs.YtmgofdgbenfjmaaDoor
