/- round walked in general, all seams in the class of the first joint. Conditions: a valid graph; the odd joints hang together. -/
import Derived.Test.YtbhjhajnhpohlaaRd
import Derived.Test.YtbhjhajnhpohlaaDw
import Derived.Test.YtbhjhajnhpohlaaPaP
import Derived.Test.YtbhjhajnhpohlaaRv
namespace Go.Proofs.Ytbhjhajnhpohlaa
open Go.RowKit

def psum (d : Nat → Nat → Int) (ps : List (Nat × Nat)) : Int := (ps.map fun p => d p.1 p.2).sum
def ppar (lo : List Int) (ps : List (Nat × Nat)) (v : Int) : Nat := (ps.map fun p => at1 (jt lo p.1) v + at1 (jt lo p.2) v).sum
theorem psum_snoc (d : Nat → Nat → Int) (ps : List (Nat × Nat)) (p : Nat × Nat) : psum d (ps ++ [p]) = psum d ps + d p.1 p.2 := by
  unfold psum; rw [List.map_append, List.sum_append_int]; simp
theorem ppar_snoc (lo : List Int) (ps : List (Nat × Nat)) (p : Nat × Nat) (v : Int) : ppar lo (ps ++ [p]) v = ppar lo ps v + at1 (jt lo p.1) v + at1 (jt lo p.2) v := by
  unfold ppar; rw [List.map_append, List.sum_append_nat]; simp; omega
theorem Ext.idx {d : Nat → Nat → Int} {v : Int} {k s : Nat} {ps : List (Nat × Nat)} (h : Ext d v k s ps) : ∀ p ∈ ps, p.1 < k ∧ p.2 < k := by
  induction h with
  | nil => intro p hp; cases hp
  | cons hs hi hj hij hjk bi bj he t ih =>
    intro p hp
    rcases List.mem_cons.1 hp with rfl | hp
    · exact ⟨by omega, hjk⟩
    · exact ih p hp
theorem cntB_le (s : Nat) : ∀ n, cntB s n ≤ n
  | 0 => by simp [cntB]
  | n + 1 => by have := cntB_le s n; unfold cntB; split <;> omega
theorem Ext.len {d : Nat → Nat → Int} {v : Int} {k s : Nat} {ps : List (Nat × Nat)} (h : Ext d v k s ps) : 2 * ps.length ≤ cntB s k := by
  induction h with
  | nil => simp
  | cons hs hi hj hij hjk bi bj he t ih =>
    have h1 := cntB_off bi k
    have h2 := cntB_off (wo_facts bi hij bj).1 k
    rw [if_pos (by omega)] at h1
    rw [if_pos hjk] at h2
    rw [List.length_cons]
    omega
/-- round's memory while the doubled walks are laid -/
def RgS (w : World) (N : Int) (A : Option Addr) (m cap gw : Nat) (L F : Mx) (vp : Value) (qs : List (Nat × Nat)) (v : Value) (X : List Ln) (wr : World) : Prop :=
  Below w.heap.size w wr ∧ Bk 30 wr w.heap.size #[.int .i64 N, .slice A m cap] ∧ Ow 103 gw 512 (pk L F) wr ∧ Vpr (w.heap.size + 1) wr vp qs ∧ Vl (w.heap.size + 1) wr v X
section
variable {w : World} {N : Int} {A : Option Addr} {m cap gw : Nat} {L F : Mx} {vp v v' : Value} {qs : List (Nat × Nat)} {X X' : List Ln} {wr w' : World}
theorem RgS.ext (h : RgS w N A m cap gw L F vp qs v X wr) (hb : Below wr.heap.size wr w') : RgS w N A m cap gw L F vp qs v X w' := ⟨bext h.1 hb h.1.size, h.2.1.ext hb, h.2.2.1.ext hb, own_ext h.2.2.2.1 hb, own_ext h.2.2.2.2 hb⟩
theorem RgS.push (h : RgS w N A m cap gw L F vp qs v X wr) (hv : Vl (w.heap.size + 1) w' v' X') (hb : Below (w.heap.size + 1) wr w') (hk : ∀ k, k < wr.heap.size → some k ≠ v.ownBlock → w'.heap[k]? = wr.heap[k]?) : RgS w N A m cap gw L F vp qs v' X' w' :=
  ⟨h.1.trans (hb.mono (by omega)), h.2.1.below hb (by omega), (hk gw h.2.2.1.lt (own_ne h.2.2.2.2 (show Bk _ wr gw _ from h.2.2.1) (by decide))).trans h.2.2.1, own_keep h.2.2.2.1 fun k e => hk k (own_lt h.2.2.2.1 k e).2 (own_ne2 h.2.2.2.2 h.2.2.2.1 (by decide) k e), hv⟩
theorem RgS.atF (h : RgS w N A m cap gw L F vp qs v X wr) {a b : Nat} (ha : a < 16) (hb : b < 16) : wr.cell? ⟨gw, 256 + a * 16 + b, none⟩ = some (.int .i64 (F a b)) := by
  rw [h.2.2.1.cell (by omega), pk_F L F ha hb]
theorem RgS.pair (h : RgS w N A m cap gw L F vp qs v X wr) {i : Nat} (hi : i < qs.length) : ∃ g c, vp = .slice (some ⟨g, 0, none⟩) qs.length c ∧ qs.length ≤ c ∧ c ≤ maxLen ∧ g < wr.heap.size ∧ wr.cell? ⟨g, i * 2, none⟩ = some (.int .i64 (qs[i].1 : Int)) ∧ wr.cell? ⟨g, i * 2 + 1, none⟩ = some (.int .i64 (qs[i].2 : Int)) := by
  obtain ⟨A', c, hv, h1, h2, h3⟩ := own_cells h.2.2.2.1
  rcases h3 with h3 | ⟨g, rfl, _, hg, hc⟩
  · omega
  · have hf : ∀ p : Nat × Nat, (([Value.int .i64 (p.1 : Int), Value.int .i64 (p.2 : Int)] : List Value)).length = 2 := fun _ => rfl
    refine ⟨g, c, hv, h1, h2, hg, ?_, ?_⟩
    · exact hc (i * 2) _ (by unfold prC; rw [show i * 2 = i * 2 + 0 from rfl, flat_get hf qs i 0 hi (by omega)]; rfl)
    · exact hc (i * 2 + 1) _ (by unfold prC; rw [flat_get hf qs i 1 hi (by omega)]; rfl)
end

set_option maxRecDepth 100000 in
set_option maxHeartbeats 4000000 in
theorem round_any (n f : Nat) (A : Option Addr) (cap : Nat) (l : List Sm) (w : World) (hok : GOk n l) (hf : f < n) (hall : ∀ s ∈ l, cls allK l l.length s.a.toNat = cls allK l l.length f)
    (hlr : ∀ x ∈ oddN allS l 16, 0 ≤ x ∧ x < n) (hcon : ∀ i j, i < (oddN allS l 16).length → j < (oddN allS l 16).length → (tbl n l).L (jt (oddN allS l 16) i) (jt (oddN allS l 16) j) < far) (hev : (oddN allS l 16).length % 2 = 0)
    (hc : l.length ≤ cap) (hcm : cap ≤ 9223372036854775807) (h : SSl w A l) :
    Calls Try.prog 77 #[.agg #[.int .i64 (n : Int), .slice A l.length cap], .int .i64 (f : Int)] w fun e w' => ∃ X ps A' cap', Ext (fun i j => (tbl n l).L (jt (oddN allS l 16) i) (jt (oddN allS l 16) j)) 17592186044416 (oddN allS l 16).length (2 ^ (oddN allS l 16).length - 1) ps ∧
      Xt l X (psum (fun i j => (tbl n l).L (jt (oddN allS l 16) i) (jt (oddN allS l 16) j)) ps) (ppar (oddN allS l 16) ps) ∧ X.length ≤ 16 * ps.length ∧
      e = .returned (.tuple #[.slice A' (lnsN l l.length ++ X).length cap', .int .i64 0]) ∧ (lnsN l l.length ++ X).length ≤ cap' ∧ cap' ≤ maxLen ∧ LSl w' A' (lnsN l l.length ++ X) ∧ Below w.heap.size w w' := by
  have H := Lib.hid h
  have HOK := Lib.hid hok
  have HALL := Lib.hid hall
  have HCL := Lib.hid (fun W (h : SSl W A l) => classes_any n A cap l _ _ allK W hok hc hcm h (chk_round W l))
  have HSH := Lib.hid (fun W (h : SSl W A l) => shortest_any n A cap l W hok hc hcm h)
  have HOD := Lib.hid (fun W (h : SSl W A l) => odd_any n A cap l _ _ allS W hok hc hcm h (chs_round W l))
  obtain ⟨lo, hlo⟩ : ∃ lo, lo = oddN allS l 16 := ⟨_, rfl⟩
  rw [← hlo] at HOD hlr hcon hev ⊢
  have hlo16 : lo.length ≤ 16 := by rw [hlo]; exact oddN_len _ _ _
  have HDB := Lib.hid (fun gw Ao co W (hw : Ow 103 gw 512 (pk (tbl n l).L (tbl n l).F) W) (hc : lo.length ≤ co) (hcm : co ≤ 9223372036854775807) (h : ISl W Ao lo) => doubled_any gw (tbl n l).L (tbl n l).F Ao co lo W ((Bd.B hok.2.2.2 l.length).stC n n) hw hlo16 (fun x hx => ⟨(hlr x hx).1, by have := (hlr x hx).2; have := hok.2.1; omega⟩) (fun i j hi hj => tbl_bq hok.2.2.2 (by have := hok.2.1; omega) (hcon i j hi hj)) hev hc hcm h)
  have HLR := Lib.hid hlr
  have HCON := Lib.hid hcon
  have HB0 := Lib.hid (Bk.new 30 w #[.int .i64 (n : Int), .slice A l.length cap])
  have HE0 := Lib.hid (ext_alloc w (.cells #[.int .i64 (n : Int), .slice A l.length cap] 30))
  have l64 := hok.2.2.1
  have n2 : n ≤ 16 := by have := hok.2.1; omega
  clear h hok hall hlr hcon hev hlo
  go_enter Try.func77, Try.ntmps77
  go_wp2_with (go_at_call 74; refine (HCL.out _ (H.out.ext HE0.out)).mono ?_; rintro e w1 ⟨bc, rfl, hoc, hbc, hx1⟩; have S1 : RdS w n A l.length cap n bc (cls allK l l.length) (.slice none 0 0) [] w1 := ⟨ext_trans HE0.out hx1, HB0.out.ext hx1, by simpa using hbc, hoc, own_nil _ _ _ _⟩; have HS0 := Lib.hid S1; obtain ⟨f1, f2, f3⟩ := S1.2.1.facts; clear S1 hoc hbc hx1)
  go_loopg [22, 7] l.length (fun g i v wr => ∃ k : Nat, i = .int .i64 k ∧ k ≤ l.length ∧ g = l.length - k ∧ RdS w n A l.length cap n bc (cls allK l l.length) v (lnsN l k) wr)
  case atStart => exact ⟨0, rfl, by omega, by omega, HS0.out⟩
  case round =>
    obtain ⟨k, rfl, hk, hg, hs⟩ := hrel
    have HG := Lib.hid hg
    have HS := Lib.hid hs
    obtain ⟨f1, f2, f3⟩ := hs.2.1.facts
    have hb := hs.1
    clear hg hs HS0
    by_cases hlt : k < l.length
    · have hf' := H.out.ext hb
      rcases hf' with hf' | ⟨b, off, rfl, hblt, hcl⟩
      · rw [hf'] at hlt; simp at hlt
      · obtain ⟨c1, c2, c3, c4⟩ := hcl k hlt
        have hmem := List.getElem_mem hlt
        have hso := HOK.out.2.2.2 _ hmem
        have hal := HALL.out _ hmem
        obtain ⟨s, hs⟩ : ∃ s, s = l[k] := ⟨_, rfl⟩
        have hln := lnsN_succ hlt hs
        rw [← hs] at c1 c2 c3 c4 hso hal
        obtain ⟨a, b', m, t⟩ := s
        dsimp only at c1 c2 c3 c4 hal hln
        obtain ⟨o1, o2, o3, o4, -, -, -, -⟩ := hso
        dsimp only at o1 o2 o3 o4
        obtain ⟨ja, rfl⟩ := Int.eq_ofNat_of_zero_le o1
        rw [Int.toNat_natCast] at hal
        have HLN := Lib.hid hln
        have q1 := HS.out.2.2.2.1.cell (i := ja) (by omega)
        have q2 := HS.out.2.2.2.1.cell (i := f) hf
        rw [hal] at q1
        have q3 := HS.out.2.2.2.1.lt
        have HS2 := Lib.hid (HS.out.ext (ext_alloc wr (.cells #[.int .i64 (ja : Int), .int .i64 b', .int .i64 m, .int .i64 t] 106)))
        have hlen := lnsN_len l k
        clear hs hcl hmem hal hln
        generalize cls allK l l.length f = x at *
        have hxx : (x != x) = false := by simp
        go_wp2
        go_quiet (fail)
        rename_i nq
        have HS3 := Lib.hid (HS2.out.ext (ext_drewN _ nq))
        obtain ⟨e1, e2, e3⟩ := ((Bk.new 106 wr #[.int .i64 (ja : Int), .int .i64 b', .int .i64 m, .int .i64 t]).ext (ext_drewN _ nq)).facts
        go_wp2_with (at_builtin; refine wpList_pushL _ rfl _ _ rfl (w.heap.size + 1) HS3.out.2.2.2.2 (by rfl) (by rfl) (by simp) ?hn5 ?hb5 ?_; (case hn5 => omega); (case hb5 => have := HS3.out.2.1.lt; omega); intro v5 w5 hv5 hb5 hk5; have S5 := HS3.out.push hv5 hb5 hk5; obtain ⟨A5, c5, rfl, -, -, -⟩ := hv5.lsl)
        go_roundg (l.length - (k + 1))
        case measure => have := HG.out; omega
        case rel => exact ⟨k + 1, by go_num, by omega, rfl, by rw [HLN.out]; have h := S5; simp only [List.length_append, List.length_cons, List.length_nil, Nat.zero_add] at h; exact h⟩
    · obtain rfl : k = l.length := by omega
      have HVL := Lib.hid HS.out.2.2.2.2
      have HB1 := Lib.hid hb
      have HG1 := Lib.hid HS.out.2.1
      clear HS HG
      go_wp2_with (first
        | (go_at_call 56; refine (HSH.out _ (H.out.ext HB1.out)).mono ?_; rintro e w2 ⟨rfl, hs2⟩; have B2 := bext HB1.out hs2.1 HB1.out.size; have LS2 := own_ext HVL.out hs2.1; have G2 := HG1.out.ext hs2.1; have O2 := hs2.2.2; obtain ⟨f1, f2, f3⟩ := G2.facts)
        | (go_at_call 58; refine (HOD.out _ (H.out.ext B2)).mono ?_; rintro e w3 ⟨v3, rfl, hv3, hx3⟩; have B3 := bext B2 hx3 B2.size; have LS3 := own_ext LS2 hx3; have G3 := G2.ext hx3; have O3 := O2.ext hx3; obtain ⟨A3, c3, rfl, hc3, hcm3, hi3⟩ := hv3.isl)
        | (go_at_call 91; refine (HDB.out _ _ _ _ O3 hc3 hcm3 hi3).mono ?_; rintro e w4 ⟨v4, ps, rfl, hv4, he4, hx4⟩; obtain ⟨A4, c4, rfl, -, -, -⟩ := own_cells hv4; rw [jts_len] at hv4 ⊢; have R4 := Lib.hid (show RgS w n A l.length cap _ (tbl n l).L (tbl n l).F _ (jts lo ps) _ (lnsN l l.length) w4 from ⟨bext B3 hx4 B3.size, G3.ext hx4, O3.ext hx4, own_base hv4 (by have := G3.lt; omega), own_ext LS3 hx4⟩); have HE4 := Lib.hid he4; clear he4 hv4 hx4 O3 G3 LS3 B3 hx3 hi3 hv3 hs2 LS2 G2 B2 O2 f1 f2 f3))
      obtain ⟨gw, hgw⟩ : ∃ gw, gw = wr.heap.size + 1 := ⟨_, rfl⟩
      rw [← hgw] at R4 ⊢
      clear hgw hb
      obtain ⟨d, hd⟩ : ∃ d : Nat → Nat → Int, d = fun i j => (tbl n l).L (jt lo i) (jt lo j) := ⟨_, rfl⟩
      rw [← hd] at HE4
      have HD := Lib.hid hd
      have hps : ps.length ≤ 8 := by have h1 := HE4.out.len; have h2 := cntB_le (2 ^ lo.length - 1) lo.length; omega
      have HIX := Lib.hid HE4.out.idx
      clear hd
      go_loopg [54, 7] ps.length (fun g z v wr => ∃ (i : Nat) (X : List Ln), z = .int .i64 i ∧ i ≤ ps.length ∧ g = ps.length - i ∧ RgS w n A l.length cap gw (tbl n l).L (tbl n l).F (.slice A4 ps.length c4) (jts lo ps) v (lnsN l l.length ++ X) wr ∧ Xt l X (psum d (ps.take i)) (ppar lo (ps.take i)) ∧ X.length ≤ 16 * i)
      case atStart => exact ⟨0, [], rfl, by omega, by omega, by rw [List.append_nil]; exact R4.out, Xt.nil l, by simp⟩
      case round =>
        obtain ⟨i, X, rfl, hi, hg, hs, hx, hxl⟩ := hrel
        have HG := Lib.hid hg
        have HS := Lib.hid hs
        have HX := Lib.hid hx
        have HXL := Lib.hid hxl
        clear hg hs hx hxl R4
        by_cases hlt : i < ps.length
        · have hij : i < (jts lo ps).length := by rw [jts_len]; exact hlt
          obtain ⟨gp, cp, hvp, -, hcp, hgp, c1, c2⟩ := HS.out.pair hij
          rw [jts_len] at hvp
          injection hvp with hvp1 _ hvp3
          subst hvp1
          obtain rfl : cp = c4 := by first | exact hvp3.symm | exact hvp3
          obtain ⟨p, hp⟩ : ∃ p, p = ps[i] := ⟨_, rfl⟩
          have hpi := HIX.out p (by rw [hp]; exact List.getElem_mem hlt)
          have hjp : (jts lo ps)[i] = (jt lo p.1, jt lo p.2) := by rw [hp]; simp [jts]
          rw [hjp] at c1 c2
          have hx1 : jt lo p.1 < n := by
            have hh := HLR.out _ (List.getElem_mem hpi.1)
            unfold jt
            rw [List.getD_eq_getElem?_getD, List.getElem?_eq_getElem hpi.1]
            show (lo[p.1]).toNat < n
            omega
          have hy1 : jt lo p.2 < n := by
            have hh := HLR.out _ (List.getElem_mem hpi.2)
            unfold jt
            rw [List.getD_eq_getElem?_getD, List.getElem?_eq_getElem hpi.2]
            show (lo[p.2]).toNat < n
            omega
          have HFA := Lib.hid (HCON.out p.1 p.2 hpi.1 hpi.2)
          have HTK := Lib.hid (show ps.take (i + 1) = ps.take i ++ [p] from by rw [hp]; exact List.take_succ_eq_append_getElem hlt)
          obtain ⟨x, hx⟩ : ∃ x, x = jt lo p.1 := ⟨_, rfl⟩
          obtain ⟨y, hy⟩ : ∃ y, y = jt lo p.2 := ⟨_, rfl⟩
          have HXX := Lib.hid hx
          have HYY := Lib.hid hy
          have HDP := Lib.hid (show d p.1 p.2 = (tbl n l).L x y from by rw [HD.out, hx, hy])
          rw [← hx] at c1 hx1 HFA
          rw [← hy] at c2 hy1 HFA
          dsimp only at c1 c2
          have HPB := Lib.hid (Bk.new 155 wr #[.int .i64 (x : Int), .int .i64 (y : Int)])
          have HPX := Lib.hid (ext_alloc wr (.cells #[.int .i64 (x : Int), .int .i64 (y : Int)] 155))
          clear hx hy hjp hp hpi hij
          go_upto_region 14 with (fail)
          clear c1 c2
          obtain ⟨W1, hW1⟩ : ∃ W1, W1 = wr.alloc (.cells #[.int .i64 (x : Int), .int .i64 (y : Int)] 155) := ⟨_, rfl⟩
          have HS1 := Lib.hid (HS.out.ext HPX.out)
          rw [← hW1] at HPB HS1 ⊢
          obtain ⟨e1, e2, e3⟩ := HPB.out.facts
          have e10 : W1.cell? ⟨wr.heap.size, 0, none⟩ = some (.int .i64 (x : Int)) := e1 0
          have e11 : W1.cell? ⟨wr.heap.size, 1, none⟩ = some (.int .i64 (y : Int)) := e1 1
          clear e1 e2 hW1 HS HPX
          go_quiet (fail)
          rename_i nq
          have HS2 := Lib.hid (HS1.out.ext (ext_drewN W1 nq))
          obtain ⟨W2, hW2⟩ : ∃ W2, W2 = W1.drewN nq := ⟨_, rfl⟩
          rw [← hW2] at HS2 ⊢
          clear hW2 HS1 HPB e10 e11 e3
          go_wp2
          obtain ⟨S0, hS0⟩ : ∃ S0, S0 = psum d (ps.take i) := ⟨_, rfl⟩
          obtain ⟨P0, hP0⟩ : ∃ P0, P0 = ppar lo (ps.take i) := ⟨_, rfl⟩
          have HS0' := Lib.hid hS0
          have HP0' := Lib.hid hP0
          rw [← hS0, ← hP0] at HX
          obtain ⟨Lxy, hLxy⟩ : ∃ q, q = (tbl n l).L x y := ⟨_, rfl⟩
          have HLXY := Lib.hid hLxy
          have HDI := Lib.hid (show (tbl n l).L y y = 0 from (tbl_snd HOK.out.2.2.2).dia y)
          have HRK := Lib.hid (rk_le (tbl n l).L y x)
          have hy16 : y < 16 := by omega
          clear hS0 hP0 hLxy
          go_loopg [13, 7] (rk (tbl n l).L y x) (fun g z v wr => ∃ (a : Nat) (X : List Ln), z = .int .i64 a ∧ a < n ∧ g = rk (tbl n l).L y a ∧ (tbl n l).L a y < far ∧ RgS w n A l.length cap gw (tbl n l).L (tbl n l).F (.slice (some ⟨gp, 0, none⟩) ps.length cp) (jts lo ps) v (lnsN l l.length ++ X) wr ∧ Xt l X (S0 + (Lxy - (tbl n l).L a y)) (fun v => P0 v + at1 x v + at1 a v) ∧ X.length + rk (tbl n l).L y a ≤ 16 * i + rk (tbl n l).L y x)
          case atStart => exact ⟨x, X, rfl, hx1, rfl, HFA.out, HS2.out, HX.out.par (by rw [HLXY.out]; omega) (fun v => by omega), by have := HXL.out; omega⟩
          case round =>
            obtain ⟨a, X, rfl, ha, hg2, hfa, hs3, hx3, hl3⟩ := hrel
            have HG3 := Lib.hid hg2
            have HF3 := Lib.hid hfa
            have HS3 := Lib.hid hs3
            have HX3 := Lib.hid hx3
            have HL3 := Lib.hid hl3
            obtain ⟨A7, c7, hv7, h7c, h7m, -⟩ := hs3.2.2.2.2.lsl
            subst hv7
            have ha16 : a < 16 := by omega
            clear hg2 hfa hs3 hx3 hl3 HX HXL HS2
            by_cases hay : a = y
            · subst hay
              have hne : ((a : Int) != (a : Int)) = false := by simp
              go_upto_region 20 with (fail)
              clear hne
              have hX4 := HX3.out
              rw [HDI.out] at hX4
              have HX4 := Lib.hid (hX4.par (S' := psum d (ps.take (i + 1))) (P' := ppar lo (ps.take (i + 1))) (by rw [HTK.out, psum_snoc, HDP.out, ← HS0'.out, ← HLXY.out]; omega) (fun v => by rw [HTK.out, ppar_snoc, ← HXX.out, ← HYY.out, ← HP0'.out]))
              clear hX4
              go_wp2
              go_roundg (ps.length - (i + 1))
              case measure => have := HG.out; omega
              case rel => exact ⟨i + 1, X, by go_num, by omega, rfl, HS3.out, HX4.out, by have := HL3.out; have := HRK.out; omega⟩
            · have hne : ((a : Int) != (y : Int)) = true := by rw [bne_iff_ne]; omega
              obtain ⟨q, hq, x', hF, hab, hxn, hLL, hn1⟩ := tbl_step HOK.out.2.2.2 ha hy1 hay HF3.out
              have HAY := Lib.hid hay
              have HAB := Lib.hid hab
              have HLL := Lib.hid hLL
              have c1 := HS3.out.atF (a := a) (b := y) ha16 hy16
              rw [hF] at c1
              have clt := HS3.out.2.2.1.lt
              clear hay hF hab hLL
              obtain ⟨f1, f2, f3⟩ := HS3.out.2.1.facts
              have f11 : wr.cell? ⟨w.heap.size, 1, none⟩ = some (.slice A l.length cap) := f1 1
              rcases H.out.ext HS3.out.1 with hf' | ⟨b, off, rfl, hblt, hcl⟩
              · rw [hf'] at hq; simp at hq
              obtain ⟨s1, s2, s3, s4⟩ := hcl q hq
              obtain ⟨s, hs⟩ : ∃ s, s = l[q] := ⟨_, rfl⟩
              rw [← hs] at s1 s2 s3 s4
              have HSQ := Lib.hid hs
              have HN1 := Lib.hid hn1
              obtain ⟨sa, sb, sm, st⟩ := s
              dsimp only at s1 s2 s3 s4
              have HSB := Lib.hid (Bk.new 106 wr #[.int .i64 sa, .int .i64 sb, .int .i64 sm, .int .i64 st])
              have HSX := Lib.hid (ext_alloc wr (.cells #[.int .i64 sa, .int .i64 sb, .int .i64 sm, .int .i64 st] 106))
              clear hs hcl f1 hn1
              go_upto_region 18 with (fail)
              clear c1 clt f11 f2 f3 s1 s2 s3 s4 hblt
              have HX5 := Lib.hid (show Xt l (X ++ [⟨(q : Int), sa, sb⟩]) (S0 + (Lxy - (tbl n l).L x' y)) (fun v => P0 v + at1 x v + at1 x' v) from by
                have h := HX3.out.step hq HAB.out
                have e := HLL.out
                simp only [← HSQ.out] at h e
                exact h.par (by rw [e]; omega) (fun v => by omega))
              have HR5 := Lib.hid (show rk (tbl n l).L y x' < rk (tbl n l).L y a from rk_lt (by omega) (by have h1 := HLL.out; have h2 := HN1.out; omega))
              have HF5 := Lib.hid (show (tbl n l).L x' y < far from by have h1 := HLL.out; have h2 := HN1.out; have h3 := HF3.out; omega)
              have hsab : (sa = a ∧ sb = x') ∨ (sb = a ∧ sa = x') := by
                have h := HAB.out
                simp only [← HSQ.out] at h
                exact h
              have HXN := Lib.hid hxn
              have hx16 : x' < 16 := by omega
              obtain ⟨V1, hV1⟩ : ∃ V1, V1 = wr.alloc (.cells #[.int .i64 sa, .int .i64 sb, .int .i64 sm, .int .i64 st] 106) := ⟨_, rfl⟩
              obtain ⟨gs, hgs⟩ : ∃ gs, gs = wr.heap.size := ⟨_, rfl⟩
              have hs4 := HS3.out.ext HSX.out
              rw [← hV1] at HSB hs4 ⊢
              rw [← hgs] at HSB ⊢
              have HS4 := Lib.hid hs4
              clear hV1 hgs hs4 HSX HS3 HSQ HAB HLL HN1 HX3 hxn
              have hnl : (lnsN l l.length ++ X).length ≤ 1000 := by
                rw [List.length_append, lnsN_len' l l.length (Nat.le_refl _)]
                have h1 := HL3.out
                have h2 := HRK.out
                omega
              rcases hsab with ⟨rfl, rfl⟩ | ⟨rfl, rfl⟩
              all_goals
                have u0 := HSB.out.cell 0
                have u1 := HSB.out.cell 1
                have u2 := HSB.out.lt
                simp only [List.getElem?_toArray, List.getElem?_cons_zero, List.getElem?_cons_succ] at u0 u1
                go_wp2_with (at_builtin; refine wpList_pushL _ rfl _ _ rfl (w.heap.size + 1) HS4.out.2.2.2.2 (by rfl) (by rfl) (by rfl) ?hn5 ?hb5 ?_; (case hn5 => omega); (case hb5 => have := HS4.out.2.1.lt; omega); intro v5 w5 hv5 hb5 hk5; have S5 := HS4.out.push hv5 hb5 hk5; have B5 := (hk5 gs HSB.out.lt (own_ne HS4.out.2.2.2.2 HSB.out (by decide))).trans HSB.out; clear u0 u1 u2; have u0 := (show Bk _ w5 gs _ from B5).cell 0; have u1 := (show Bk _ w5 gs _ from B5).cell 1; simp only [List.getElem?_toArray, List.getElem?_cons_zero, List.getElem?_cons_succ] at u0 u1; have u2 := (show Bk _ w5 gs _ from B5).lt; obtain ⟨A5, c5, rfl, -, -, -⟩ := hv5.lsl; clear B5 hv5 hb5 hk5; have HS5 := Lib.hid S5; clear S5)
                go_roundg (rk (tbl n l).L y x')
                case measure => have := HG3.out; have := HR5.out; omega
                case rel =>
                  refine ⟨x', X ++ [_], by first | go_num | (congr 1; omega), HXN.out, rfl, HF5.out, ?_, HX5.out, ?_⟩
                  · have h := HS5.out
                    rw [List.append_assoc] at h
                    simp only [List.length_append, List.length_cons, List.length_nil, Nat.zero_add] at h ⊢
                    exact h
                  · have h1 := HL3.out
                    have h2 := HR5.out
                    rw [List.length_append, List.length_singleton]
                    omega
        · obtain rfl : i = ps.length := by omega
          obtain ⟨A7, c7, hv7, h7c, h7m, h7l⟩ := HS.out.2.2.2.2.lsl
          subst hv7
          have H7 := Lib.hid h7l
          have HB7 := Lib.hid HS.out.1
          have hX := HX.out
          rw [List.take_length] at hX
          have HX7 := Lib.hid hX
          clear hX h7l HS HX
          go_wp2
          go_ret2
          have e := HE4.out
          have e2 := HX7.out
          rw [HD.out] at e e2
          exact ⟨X, ps, A7, c7, e, e2, HXL.out, rfl, h7c, h7m, H7.out, HB7.out⟩
end Go.Proofs.Ytbhjhajnhpohlaa
