/- Texts joined: FwP, Rw, LFewest. Conditions: see each. -/
import Derived.Test.YtmgofdgbenfjmaaDoorSpR
import Derived.Test.YtmgofdgbenfjmaaDoorGrV
import Derived.Test.YtmgofdgbenfjmaaDoorGr1
import Derived.Test.YtmgofdgbenfjmaaDoorPs
import Derived.Test.YtmgofdgbenfjmaaDoorWa1
import Derived.Test.YtmgofdgbenfjmaaDoorVq1
import Derived.Test.YtmgofdgbenfjmaaDoorRe1
import Derived.Test.YtmgofdgbenfjmaaDoorHo1
import Derived.Test.YtmgofdgbenfjmaaDoorSf1
import Derived.Test.YtmgofdgbenfjmaaDoorDi1
import Derived.Test.YtmgofdgbenfjmaaDoorAw1
namespace Go.Proofs.YtmgofdgbenfjmaaDoor
open Go.RowKit

def hsum (ps : List Prt) : Int := (ps.map fun p => (p.h : Int)).sum
theorem hsum_snoc (ps : List Prt) (p : Prt) : hsum (ps ++ [p]) = hsum ps + p.h := by
  unfold hsum
  rw [List.map_append, List.sum_append]
  simp
theorem hsum_nonneg (ps : List Prt) : 0 ≤ hsum ps := by
  induction ps with
  | nil => exact Int.le_refl _
  | cons p ps ih =>
    unfold hsum at ih ⊢
    rw [List.map_cons, List.sum_cons]
    omega
theorem hsum_app (ps qs : List Prt) : hsum (ps ++ qs) = hsum ps + hsum qs := by
  unfold hsum
  rw [List.map_append, List.sum_append]
theorem hsum_take (ps : List Prt) (k : Nat) : 0 ≤ hsum (ps.take k) ∧ hsum (ps.take k) ≤ hsum ps := by
  have h1 := hsum_app (ps.take k) (ps.drop k)
  rw [List.take_append_drop] at h1
  have h2 := hsum_nonneg (ps.take k)
  have h3 := hsum_nonneg (ps.drop k)
  omega
/-- all corners -/
def crn (l : List ByteArray) (g : Int) : List Cel := cornK (us l g) (wid l + 1) ((wid l + 1) * (l.length + 1))
theorem crn_len {l : List ByteArray} {g : Int} (hok : SkOk l) (hg : 1 ≤ g) : sm2 (wid l + 1) (l.length + 1) (fun x y => b2 (q3 (us l g) x y)) = (crn l g).length := by
  have hs : ∀ x y, us l g x y = true → 0 ≤ x ∧ x < wid l ∧ 0 ≤ y ∧ y < l.length := fun x y k => us_in hok hg k
  have hC := mem_cornK (w := wid l) (h := l.length) hs
  have hnC := cornK_nodup (us l g) (wid l + 1) ((wid l + 1) * (l.length + 1))
  unfold crn
  generalize cornK (us l g) (wid l + 1) ((wid l + 1) * (l.length + 1)) = C at hC hnC ⊢
  rw [← cn_sum (f := fun c : Cel => c) (m := wid l + 1) (n := l.length + 1) C fun c hc => q3_in hs ((hC c).1 hc)]
  exact sm2_congr fun x y _ _ _ _ => cn_at C hnC ⟨fun hq => ⟨(x, y), (hC (x, y)).2 hq, rfl⟩, fun ⟨c, hc, e⟩ => by
    have := (hC c).1 hc
    rw [e] at this; exact this⟩
/-- the searches that succeed -/
def sucN (l : List ByteArray) (g : Int) : Nat := sucK (adjC (chF (us l g) (crn l g)) (chS (us l g) (crn l g))) (chS (us l g) (crn l g)).length (chF (us l g) (crn l g)).length
theorem fw_eq {l : List ByteArray} {g : Int} (hok : SkOk l) (hg : 1 ≤ g) : ((splB (us l g) (wid l) l.length 3000).length : Int) = ((partsL (usb l g) (wid l) l.length 3000).length : Int) - hsum (partsL (usb l g) (wid l) l.length 3000) + (crn l g).length - (((chF (us l g) (crn l g)).length : Int) + (chS (us l g) (crn l g)).length - sucN l g) := by
  obtain ⟨_, _, h3⟩ := split_least (u := us l g) (w := wid l) (h := l.length) (n := 3000) (fun x y k => us_in hok hg k) hok.2.2.2.1 hok.2.1 (by decide)
  have h4 := parts_chi (us := usb l g) (w := wid l) (h := l.length) (fun c k => us_in hok hg (x := c.1) (y := c.2) k) hok.2.2.2.1 hok.2.1
  have e : (fun x y => usb l g (x, y)) = us l g := rfl
  rw [e] at h4
  rw [crn_len hok hg, h4] at h3
  have h5 := kuK_eq (chF (us l g) (crn l g)) (chS (us l g) (crn l g))
  have h6 : splK (us l g) (wid l) l.length = kuK (chF (us l g) (crn l g)) (chS (us l g) (crn l g)) := rfl
  rw [h6] at h3
  unfold sucN hsum
  omega
theorem crn_le {l : List ByteArray} {g : Int} (hok : SkOk l) : (crn l g).length ≤ 2401 := by
  unfold crn
  refine Nat.le_trans (cornK_len _ _ _) ?_
  have h1 := hok.2.1
  have h2 := hok.2.2.2.1
  exact Nat.mul_le_mul (show wid l + 1 ≤ 49 by omega) (show l.length + 1 ≤ 49 by omega)
theorem sucK_le (adj : Nat → Nat → Bool) (n : Nat) : ∀ k, sucK adj n k ≤ k
  | 0 => Nat.le_refl _
  | k + 1 => by
    have := sucK_le adj n k
    rw [sucK]; split <;> omega
theorem parts_n {l : List ByteArray} (g : Int) (hok : SkOk l) : (partsL (usb l g) (wid l) l.length 3000).length ≤ 2304 := by
  have h6 := partSteps_len (usb l g) 3000 (boxCells (grid l)) ([], [])
  have h7 := grid_len hok
  unfold partsL
  simp only [List.length_nil] at h6
  exact Nat.le_trans h6 (by omega)
/-- what is left is bounded, however many parts are taken -/
theorem hs_bd {l : List ByteArray} {g : Int} (hok : SkOk l) (hg : 1 ≤ g) (k : Nat) : -5000 ≤ ((partsL (usb l g) (wid l) l.length 3000).length : Int) - hsum ((partsL (usb l g) (wid l) l.length 3000).take k) ∧ ((partsL (usb l g) (wid l) l.length 3000).length : Int) - hsum ((partsL (usb l g) (wid l) l.length 3000).take k) ≤ 3000 := by
  have h1 := fw_eq hok hg
  have h2 := hsum_take (partsL (usb l g) (wid l) l.length 3000) k
  have h3 := crn_le (g := g) hok
  have h4 : sucN l g ≤ (chF (us l g) (crn l g)).length := sucK_le _ _ _
  have h5 : (partsL (usb l g) (wid l) l.length 3000).length ≤ 2304 := by
    have h6 := partSteps_len (usb l g) 3000 (boxCells (grid l)) ([], [])
    have h7 := grid_len hok
    unfold partsL
    simp only [List.length_nil] at h6
    exact Nat.le_trans h6 (by omega)
  omega

/-- the two rows of chords that grow -/
def RfS (W : World) (v1 v2 : Value) (L1 L2 : List Chd) (wr : World) : Prop := Vqc false W.heap.size wr v1 L1 ∧ Vqc true W.heap.size wr v2 L2 ∧ Dst v1 v2 ∧ Below W.heap.size W wr
section
variable {W wr w' : World} {v1 v2 v' : Value} {L1 L2 : List Chd} {c : Chd}
theorem RfS.start (h : Below W.heap.size W wr) : RfS W (.slice none 0 0) (.slice none 0 0) [] [] wr := ⟨Vqc.nil _ _ _, Vqc.nil _ _ _, (fun _ h => nomatch h), h⟩
theorem RfS.ext (h : RfS W v1 v2 L1 L2 wr) (hb : Below wr.heap.size wr w') : RfS W v1 v2 L1 L2 w' := ⟨h.1.ext hb, h.2.1.ext hb, h.2.2.1, ext_trans h.2.2.2 hb⟩
theorem RfS.push1 (h : RfS W v1 v2 L1 L2 wr) (hv : Vqc false W.heap.size w' v' (L1 ++ [c])) (hb : Below W.heap.size wr w') (hk : ∀ k, k < wr.heap.size → some k ≠ v1.ownBlock → w'.heap[k]? = wr.heap[k]?) (hk2 : ∀ k, k < wr.heap.size → some k ≠ v1.ownBlock → some k ≠ v'.ownBlock) : RfS W v' v2 (L1 ++ [c]) L2 w' :=
  ⟨hv, own_keep h.2.1 fun k e => hk k (own_lt h.2.1 k e).2 (h.2.2.1 k e), fun k e => hk2 k (own_lt h.2.1 k e).2 (h.2.2.1 k e), h.2.2.2.trans hb⟩
theorem RfS.push2 (h : RfS W v1 v2 L1 L2 wr) (hv : Vqc true W.heap.size w' v' (L2 ++ [c])) (hb : Below W.heap.size wr w') (hk : ∀ k, k < wr.heap.size → some k ≠ v2.ownBlock → w'.heap[k]? = wr.heap[k]?) (hk2 : ∀ k, k < wr.heap.size → some k ≠ v2.ownBlock → some k ≠ v'.ownBlock) : RfS W v1 v' L1 (L2 ++ [c]) w' :=
  ⟨own_keep h.1 fun k e => hk k (own_lt h.1 k e).2 (h.2.2.1.symm k e), hv, Dst.symm fun k e => hk2 k (own_lt h.1 k e).2 (h.2.2.1.symm k e), h.2.2.2.trans hb⟩
end
/-- append of one chord, its length a letter -/
theorem wpList_pushQ2 (w : World) {ops : Array Oper} {rest : List Oper} {o : Oper} {a : Act} {Q : Exit → Act → World → Prop} (hgd : o.guard = none) (s x : Operand)
    (ho : o.op = .call { callee := .builtin .append, args := #[s, x], argTypes := #[103, 103] })
    (dn : Bool) (base : Nat) {v : Value} {l : List Chd} (hown : Vqc dn base w v l) (hs : a.eval s = v) (c : Chd) (x0 y0 n : Int) (h1 : c.1 = (x0, y0)) (hn : chN c = n)
    {B : Nat} (hx : a.eval x = .slice (some ⟨B, 0, none⟩) 1 1) (hB : w.heap.size = B) (hl : l.length ≤ 1000000) (hbase : base ≤ w.heap.size)
    (h : ∀ v' w', Vqc dn base w' v' (l ++ [c]) → Below base w w' → (∀ k, k < w.heap.size → some k ≠ v.ownBlock → w'.heap[k]? = w.heap[k]?) → (∀ k, k < w.heap.size → some k ≠ v.ownBlock → some k ≠ v'.ownBlock) → wpList Tryd.prog ops Q rest (a.put o.dst v') w') :
    wpList Tryd.prog ops Q (o :: rest) a (w.alloc (.cells #[.int .i64 x0, .int .i64 y0, .int .i64 n, .bool dn] 106)) := by
  obtain ⟨⟨a1, a2⟩, d⟩ := c
  cases h1
  subst hn
  exact wpList_pushQc w hgd s x ho dn base hown hs ((x0, y0), d) hx hB hl hbase h
theorem chF_flok {l : List ByteArray} {g : Int} (hok : SkOk l) (hg : 1 ≤ g) : FlOk (chF (us l g) (crn l g)) ∧ StOk (chS (us l g) (crn l g)) := by
  have hs : ∀ x y, us l g x y = true → 0 ≤ x ∧ x < wid l ∧ 0 ≤ y ∧ y < l.length := fun x y k => us_in hok hg k
  have hC := mem_cornK (w := wid l) (h := l.length) hs
  have hw := hok.2.2.2.1
  have hh := hok.2.1
  have hr : ∀ {x y : Int}, q3 (us l g) x y = true → 0 ≤ x ∧ x ≤ 48 ∧ 0 ≤ y ∧ y ≤ 48 := fun {x y} k => by have := q3_in hs k; omega
  unfold crn
  refine ⟨fun c hc => ?_, fun c hc => ?_⟩
  · obtain ⟨h1, h2, h3, h4, _⟩ := (chF_all hs hw hC (fun c hc => by have := hr ((hC c).1 hc); omega) c).1 hc
    have := hr h3
    have := hr h4
    omega
  · obtain ⟨h1, h2, h3, h4, _⟩ := (chS_all hs hh hC (fun c hc => by have := hr ((hC c).1 hc); omega) c).1 hc
    have := hr h3
    have := hr h4
    omega
set_option maxRecDepth 100000 in
set_option maxHeartbeats 16000000 in
theorem rfewest_any (A : Option Addr) (cap : Nat) (l : List ByteArray) (g : Int) (w : World) (hc : l.length ≤ cap) (hcm : cap ≤ 9223372036854775807) (h : TSl w A l) (hz : TSz l) :
    Calls Tryd.prog 31 #[.slice A l.length cap, .int .i64 g] w (RetFw w l g) := by
  have HP0 := Lib.hid (rparts_any A cap l g w hc hcm h hz)
  by_cases hps : PsOk l g
  · have hok := hps.1
    have hg1 := hps.2.1
    obtain ⟨ps, hpe⟩ : ∃ ps, ps = partsL (usb l g) (wid l) l.length 3000 := ⟨_, rfl⟩
    have HP := Lib.hid (HP0.out.mono (R' := fun e w' => Below w.heap.size w w' ∧ ∃ A' c', e = .returned (.tuple #[.slice A' ps.length c', .int .i64 0]) ∧ PSl w' A' ps) fun e w' hr => by
      obtain ⟨hb, ⟨hn, _⟩ | ⟨_, A', c', he, _, _, hp⟩⟩ := hr
      · exact absurd hps hn
      · rw [← hpe] at he hp; exact ⟨hb, A', c', he, hp⟩)
    have hbd := fun k => hs_bd hok hg1 k
    have heq := fw_eq hok hg1
    have hfl := chF_flok hok hg1
    have hpn := parts_n g hok
    rw [← hpe] at hpn
    have hcl := crn_le (g := g) hok
    obtain ⟨u, hu⟩ : ∃ u, u = us l g := ⟨_, rfl⟩
    have HBN := Lib.hid (fun x y W (hW : Below w.heap.size w W) h1 h2 => bend_any A cap l g x y W hok (h.ext hW) h1 h2)
    have HRF := Lib.hid (fun x y W (hW : Below w.heap.size w W) h1 h2 h3 => reachF_any A cap l g x y W hok hg1 (h.ext hW) h1 h2 h3)
    have HRS := Lib.hid (fun x y W (hW : Below w.heap.size w W) h1 h2 h3 => reachS_any A cap l g x y W hok hg1 (h.ext hW) h1 h2 h3)
    unfold sucN crn at heq
    unfold crn at hfl hcl
    rw [← hu] at heq hfl hcl HBN HRF HRS
    rw [← hpe] at heq
    rw [← hpe] at hbd
    have HRT := Lib.hid (show RetFw w l g = fun e w' => Below w.heap.size w w' ∧ ((¬ PsOk l g ∧ e = .returned (.tuple #[.int .i64 0, .int .i64 2])) ∨ (PsOk l g ∧ e = .returned (.tuple #[.int .i64 (splB u (wid l) l.length 3000).length, .int .i64 0]))) from by rw [hu]; rfl)
    obtain ⟨B, hB⟩ : ∃ B, B = (splB u (wid l) l.length 3000).length := ⟨_, rfl⟩
    rw [← hB] at heq HRT
    have HOK := Lib.hid hps
    obtain ⟨r0, hr0⟩ : ∃ r0, r0 = l[0]'(by have := hok.1; omega) := ⟨_, rfl⟩
    have hwd : r0.size = wid l := by rw [hr0]; exact (hok.row (by have := hok.1; omega)).1
    have hl1 := hok.1
    have hl48 := hok.2.1
    have hw48 := hok.2.2.2.1
    have hl0 : (0 : Int) < (l.length : Int) := by omega
    obtain ⟨m, hm⟩ : ∃ m, m = wid l + 1 := ⟨_, rfl⟩
    obtain ⟨H, hH⟩ : ∃ H, H = l.length + 1 := ⟨_, rfl⟩
    have hmi : (r0.size : Int) + 1 = (m : Int) := by omega
    have hHi : (l.length : Int) + 1 = (H : Int) := by omega
    rw [← hm, ← hH] at heq hfl hcl
    have hm49 : m ≤ 49 := by omega
    have hH49 : H ≤ 49 := by omega
    rcases h with h0 | ⟨b, off, rfl, hlt, hcl0⟩
    · rw [h0] at hl1; simp at hl1
    have HC0 := Lib.hid (show ∀ W, Below w.heap.size w W → b < W.heap.size ∧ W.cell? ⟨b, off, none⟩ = some (.string r0) from fun W hW => ⟨Nat.lt_of_lt_of_le hlt hW.size, (hW.cell (p := ⟨b, off, none⟩) hlt).trans (by have := hcl0 0 hl1; rw [hr0]; exact this)⟩)
    have HBD := Lib.hid hbd
    have HEQ := Lib.hid heq
    have HFL := Lib.hid hfl
    have HCL := Lib.hid hcl
    have HMH := Lib.hid (And.intro hm hH)
    clear hbd heq hfl hcl hu hB hps hok hg1 hr0 hwd hm hH hcl0 hlt hz hpe HP0
    go_enter Tryd.func31, Tryd.ntmps31
    go_upto_region 5 with (go_at_call 13; refine (HP.out).mono ?_; rintro e w1 ⟨hx1, A1, c1, rfl, hp1⟩)
    have HX1 := Lib.hid hx1
    have HPL := Lib.hid hp1
    have HH0 := Lib.hid (show ps.length - hsum (ps.take 0) = (ps.length : Int) from by show (ps.length : Int) - 0 = _; omega)
    clear hx1 hp1 HP
    go_wp2_with (fail)
    go_loopg [36, 8] ps.length (fun gg z v wr => ∃ i : Nat, z = .int .i64 i ∧ i ≤ ps.length ∧ gg = ps.length - i ∧ v = .int .i64 ((ps.length : Int) - hsum (ps.take i)) ∧ Below w.heap.size w wr ∧ PSl wr A1 ps)
    case atStart => exact ⟨0, rfl, by omega, by omega, by rw [HH0.out], HX1.out, HPL.out⟩
    case round =>
      obtain ⟨i, rfl, hi, hgg, hv, hbx, hpl⟩ := hrel
      have HG := Lib.hid hgg
      have HX := Lib.hid hbx
      have HPS := Lib.hid hpl
      by_cases hlt : i < ps.length
      · rcases hpl with h0 | ⟨b1, o1, rfl, hb1, hc1⟩
        · rw [h0] at hlt; simp at hlt
        · have p1 := fun k hk => hc1 i hlt k hk
          have HTK := Lib.hid (show hsum (ps.take (i + 1)) = hsum (ps.take i) + ps[i].h from by rw [List.take_succ_eq_append_getElem hlt, hsum_snoc])
          have hb2 := HBD.out i
          have hb3 := HBD.out (i + 1)
          rw [HTK.out] at hb3
          obtain ⟨p, hp⟩ : ∃ p, p = ps[i] := ⟨_, rfl⟩
          rw [← hp] at p1 HTK hb3
          obtain ⟨pn, pe, ph, x0, y0, x1, y1⟩ := p
          dsimp only at HTK hb3
          obtain ⟨W', hW'⟩ : ∃ W' : Int, W' = x1 - x0 + 1 := ⟨_, rfl⟩
          obtain ⟨H', hH'⟩ : ∃ H' : Int, H' = y1 - y0 + 1 := ⟨_, rfl⟩
          have q0 : wr.cell? ⟨b1, o1 + i * 7, none⟩ = some (.int .i64 (pn : Int)) := p1 0 (by decide)
          have q1 : wr.cell? ⟨b1, o1 + i * 7 + 1, none⟩ = some (.int .i64 (pe : Int)) := p1 1 (by decide)
          have q2 : wr.cell? ⟨b1, o1 + i * 7 + 2, none⟩ = some (.int .i64 (ph : Int)) := p1 2 (by decide)
          have q3 : wr.cell? ⟨b1, o1 + i * 7 + 3, none⟩ = some (.int .i64 x0) := p1 3 (by decide)
          have q4 : wr.cell? ⟨b1, o1 + i * 7 + 4, none⟩ = some (.int .i64 y0) := p1 4 (by decide)
          have q5 : wr.cell? ⟨b1, o1 + i * 7 + 5, none⟩ = some (.int .i64 W') := by rw [hW']; exact p1 5 (by decide)
          have q6 : wr.cell? ⟨b1, o1 + i * 7 + 6, none⟩ = some (.int .i64 H') := by rw [hH']; exact p1 6 (by decide)
          obtain ⟨nv, hnv⟩ : ∃ nv, nv = (ps.length : Int) - hsum (ps.take i) := ⟨_, rfl⟩
          rw [← hnv] at hv hb2
          subst hv
          obtain ⟨nw, hnw⟩ : ∃ nw, nv - (ph : Int) = nw := ⟨_, rfl⟩
          have HNW := Lib.hid (show nw = (ps.length : Int) - hsum (ps.take (i + 1)) from by rw [HTK.out]; omega)
          have hb4 : -5000 ≤ nw ∧ nw ≤ 3000 := by omega
          have HXN := Lib.hid (ext_alloc wr (.cells #[.int .i64 (pn : Int), .int .i64 (pe : Int), .int .i64 (ph : Int), .int .i64 x0, .int .i64 y0, .int .i64 W', .int .i64 H'] 34))
          have HD := Lib.hid (Bk.new 34 wr #[.int .i64 (pn : Int), .int .i64 (pe : Int), .int .i64 (ph : Int), .int .i64 x0, .int .i64 y0, .int .i64 W', .int .i64 H'])
          clear p1 hp hW' hH' hc1 hgg hbx hnv hb3 HH0 HX1 HPL
          go_upto_region 8 with (fail)
          obtain ⟨d, hd⟩ : ∃ d, d = wr.heap.size := ⟨_, rfl⟩
          obtain ⟨Y, hY⟩ : ∃ Y, Y = wr.alloc (.cells #[.int .i64 (pn : Int), .int .i64 (pe : Int), .int .i64 (ph : Int), .int .i64 x0, .int .i64 y0, .int .i64 W', .int .i64 H'] 34) := ⟨_, rfl⟩
          rw [← hY] at HXN HD ⊢
          rw [← hd] at HD ⊢
          have HXY := Lib.hid (bext HX.out HXN.out HX.out.size)
          have HPY := Lib.hid (HPS.out.ext HXN.out)
          clear hY hd q0 q1 q2 q3 q4 q5 q6 hb1
          obtain ⟨f1, f2, f3⟩ := HD.out.facts
          go_wp2
          go_roundg (ps.length - (i + 1))
          case measure => have := HG.out; omega
          case rel => exact ⟨i + 1, by go_num, by omega, rfl, by rw [HNW.out], HXY.out, HPY.out⟩
      · obtain rfl : i = ps.length := by omega
        rw [List.take_length] at hv
        have hb2 := HBD.out ps.length
        rw [List.take_length] at hb2
        obtain ⟨n0, hn0⟩ : ∃ n0, n0 = (ps.length : Int) - hsum ps := ⟨_, rfl⟩
        rw [← hn0] at hv hb2
        subst hv
        have HEQ := Lib.hid (show _ from hn0 ▸ HEQ.out)
        have HS0 := Lib.hid (RfS.start HX.out)
        obtain ⟨d1, d2⟩ := HC0.out _ HX.out
        clear hn0 hgg hbx hpl HG HPS HPL HX1 HH0 hlt hi
        go_wp2_with (fail)
        go_loopg [48, 8, 11, 12] H (fun gg z v v1 v2 wr => ∃ y : Nat, z = .int .i64 y ∧ y ≤ H ∧ gg = H - y ∧ v = .int .i64 (n0 + ((cornK u m (m * y)).length : Int)) ∧ RfS w v1 v2 (chF u (cornK u m (m * y))) (chS u (cornK u m (m * y))) wr)
        case atStart => exact ⟨0, rfl, by omega, by omega, by rw [Nat.mul_zero]; show Value.int .i64 n0 = .int .i64 (n0 + 0); rw [Int.add_zero], by rw [Nat.mul_zero]; exact HS0.out⟩
        case round =>
          obtain ⟨y, rfl, hy, hgg, hv, hs⟩ := hrel
          have HG1 := Lib.hid hgg
          have HSY := Lib.hid hs
          have HVY := Lib.hid hv
          obtain ⟨d1, d2⟩ := HC0.out _ hs.2.2.2
          clear hgg hv hs HS0 HX
          by_cases hyl : y < H
          · have hyi : (y : Int) < (H : Int) := by omega
            go_wp2_with (fail)
            clear d1 d2
            have HYH := Lib.hid hyl
            have HYI := Lib.hid hyi
            clear hyl hyi
            go_loopg [56, 8, 11, 12] m (fun gg z v v1 v2 wr => ∃ x : Nat, z = .int .i64 x ∧ x ≤ m ∧ gg = m - x ∧ v = .int .i64 (n0 + ((cornK u m (m * y + x)).length : Int)) ∧ RfS w v1 v2 (chF u (cornK u m (m * y + x))) (chS u (cornK u m (m * y + x))) wr)
            case atStart => exact ⟨0, rfl, by omega, by omega, HVY.out, HSY.out⟩
            case round =>
              obtain ⟨x, rfl, hx, hgg, hv, hs⟩ := hrel
              have HG2 := Lib.hid hgg
              have HS := Lib.hid hs
              clear hgg hs HSY HVY
              by_cases hxl : x < m
              · have HXM := Lib.hid hxl
                have hyH := HYH.out
                have hxi : (x : Int) < (m : Int) := by omega
                obtain ⟨k, hk⟩ : ∃ k, k = m * y + x := ⟨_, rfl⟩
                have hkb : k ≤ 2500 := by
                  have : m * y ≤ 49 * 48 := Nat.mul_le_mul hm49 (by omega)
                  omega
                have hke : cornK u m (m * y + x + 1) = cornK u m k ++ if q3 u (x : Int) (y : Int) then [((x : Int), (y : Int))] else [] := by
                  rw [cornK_succ, celK_at hxl, ← hk]
                rw [← hk] at hv HS
                have hlk : (cornK u m k).length ≤ 2500 := Nat.le_trans (cornK_len _ _ _) hkb
                have HKE0 := Lib.hid hke
                obtain ⟨K, hK⟩ : ∃ K, K = cornK u m k := ⟨_, rfl⟩
                rw [← hK] at hv HS hlk HKE0
                have HLK := Lib.hid (show (chF u K).length ≤ 2500 ∧ (chS u K).length ≤ 2500 from ⟨Nat.le_trans (chF_len _ _) hlk, Nat.le_trans (chS_len _ _) hlk⟩)
                obtain ⟨nv, hnv⟩ : ∃ nv, nv = n0 + (K.length : Int) := ⟨_, rfl⟩
                rw [← hnv] at hv
                subst hv
                have hnb : -5000 ≤ nv ∧ nv ≤ 6000 := by omega
                obtain ⟨xx, hxx⟩ : ∃ xx : Int, xx = (x : Int) := ⟨_, rfl⟩
                obtain ⟨yy, hyy⟩ : ∃ yy : Int, yy = (y : Int) := ⟨_, rfl⟩
                have hb := HBN.out xx yy _ HS.out.2.2.2 (by omega) (by omega)
                have HBE := Lib.hid hb
                have hx01 : 0 ≤ xx ∧ xx ≤ 48 := by omega
                have hy01 : 0 ≤ yy ∧ yy ≤ 48 := by omega
                have HNV := Lib.hid hnv
                clear hb hke hK hk hnv hkb hyH
                rw [← hxx, ← hyy] at HKE0
                cases hz : q3 u xx yy with
                | false =>
                  rw [hz] at HBE HKE0
                  have HK2 := Lib.hid (show cornK u m (m * y + x + 1) = K from by rw [HKE0.out]; simp)
                  rw [hxx, hyy] at HBE
                  clear hz hxx hyy HKE0 hx01 hy01
                  go_wp2_with (go_at_call 67; refine (HBE.out).mono ?_; rintro e w3 ⟨rfl, hx3⟩; have HS3 := Lib.hid (HS.out.ext hx3); clear hx3)
                  go_roundg (m - (x + 1))
                  case measure => have := HG2.out; have := HXM.out; omega
                  case rel => exact ⟨x + 1, by go_num, by have := HXM.out; omega, rfl, by rw [show m * y + (x + 1) = m * y + x + 1 by omega, HK2.out, HNV.out], by rw [show m * y + (x + 1) = m * y + x + 1 by omega, HK2.out]; exact HS3.out⟩
                | true =>
                  rw [hz] at HBE HKE0
                  have HQ := Lib.hid hz
                  have HKE := Lib.hid (show cornK u m (m * y + (x + 1)) = K ++ [(xx, yy)] from by rw [show m * y + (x + 1) = m * y + x + 1 by omega, HKE0.out]; simp)
                  obtain ⟨nf, hnf⟩ : ∃ nf, nf = wayT u xx yy - xx := ⟨_, rfl⟩
                  obtain ⟨ns, hns⟩ : ∃ ns, ns = wayS u xx yy - yy := ⟨_, rfl⟩
                  have HNF := Lib.hid hnf
                  have HNS := Lib.hid hns
                  have HCK := Lib.hid (show nv + 1 = n0 + ((cornK u m (m * y + (x + 1))).length : Int) from by rw [HKE.out, HNV.out, List.length_append]; simp; omega)
                  have HXX := Lib.hid (And.intro hxx hyy)
                  clear hz hnf hns HKE0
                  subst hxx
                  subst hyy
                  go_upto_region 19 with (go_at_call 67; refine (HBE.out).mono ?_; rintro e w3 ⟨rfl, hx3⟩; have HS3 := Lib.hid (HS.out.ext hx3); clear hx3)
                  clear HS
                  by_cases hF : rcF u (x : Int) (y : Int)
                  · have HCF := Lib.hid ((HRF.out (x : Int) (y : Int) _ HS3.out.2.2.2 ⟨by omega, by omega⟩ ⟨by omega, by omega⟩ HQ.out).mono (R' := fun e w' => Below w3.heap.size w3 w' ∧ e = .returned (.tuple #[.agg #[.int .i64 (x : Int), .int .i64 (y : Int), .int .i64 nf, .bool false], .bool true])) fun e w' hr => ⟨hr.1, hr.2.elim (fun k => absurd hF k.1) (fun k => by rw [HNF.out]; exact k.2)⟩)
                    have HE1 := Lib.hid (show chF u (K ++ [((x : Int), (y : Int))]) = chF u K ++ [(((x : Int), (y : Int)), (wayT u (x : Int) (y : Int), (y : Int)))] from chF_yes hF.1 hF.2)
                    clear hF
                    go_upto_region 20 with (first
                      | (go_at_call_of 68 (Value.bool false); refine (HCF.out).mono ?_; rintro e w4 ⟨hx4, rfl⟩))
                    have HS4 := Lib.hid (HS3.out.ext (ext_trans hx4 (ext_alloc w4 (.cells #[.int .i64 (x : Int), .int .i64 (y : Int), .int .i64 nf, .bool false] 106))))
                    have HD4 := Lib.hid (Bk.new 106 w4 #[.int .i64 (x : Int), .int .i64 (y : Int), .int .i64 nf, .bool false])
                    obtain ⟨X4, hX4⟩ : ∃ X, X = w4.alloc (.cells #[.int .i64 (x : Int), .int .i64 (y : Int), .int .i64 nf, .bool false] 106) := ⟨_, rfl⟩
                    obtain ⟨t4, ht4⟩ : ∃ t, t = w4.heap.size := ⟨_, rfl⟩
                    rw [← hX4] at HS4 HD4 ⊢
                    rw [← ht4] at HD4 ⊢
                    clear hX4 ht4 hx4
                    obtain ⟨i1, i2, i3⟩ := HD4.out.facts
                    have hbase := HS4.out.2.2.2.size
                    go_upto_region 22 with (at_builtin; refine wpList_pushQ2 _ rfl _ _ rfl false w.heap.size HS4.out.1 (by rfl) (((x : Int), (y : Int)), (wayT u (x : Int) (y : Int), (y : Int))) (x : Int) (y : Int) nf rfl (by rw [HNF.out]; unfold chN; dsimp only; omega) (by rfl) rfl (by have := HLK.out; omega) hbase ?_; intro v5 w5 hv5 hb5 hk5 hk6; have HS5 := Lib.hid (RfS.push1 HS4.out hv5 hb5 hk5 hk6); clear hv5 hb5 hk5 hk6)
                    clear i1 i2 i3 hbase
                    by_cases hS : rcF (trU u) (y : Int) (x : Int)
                    · have HCS := Lib.hid ((HRS.out (x : Int) (y : Int) _ HS5.out.2.2.2 ⟨by omega, by omega⟩ ⟨by omega, by omega⟩ HQ.out).mono (R' := fun e w' => Below w5.heap.size w5 w' ∧ e = .returned (.tuple #[.agg #[.int .i64 (x : Int), .int .i64 (y : Int), .int .i64 ns, .bool true], .bool true])) fun e w' hr => ⟨hr.1, hr.2.elim (fun k => absurd hS k.1) (fun k => by rw [HNS.out]; exact k.2)⟩)
                      have HE2 := Lib.hid (show chS u (K ++ [((x : Int), (y : Int))]) = chS u K ++ [(((x : Int), (y : Int)), ((x : Int), wayS u (x : Int) (y : Int)))] from chS_yes hS.1 (by have := hS.2; rwa [q3_tr] at this))
                      clear hS
                      go_upto_region 23 with (go_at_call_of 68 (Value.bool true); refine (HCS.out).mono ?_; rintro e w6 ⟨hx6, rfl⟩)
                      have HS6 := Lib.hid (HS5.out.ext (ext_trans hx6 (ext_alloc w6 (.cells #[.int .i64 (x : Int), .int .i64 (y : Int), .int .i64 ns, .bool true] 106))))
                      have HD6 := Lib.hid (Bk.new 106 w6 #[.int .i64 (x : Int), .int .i64 (y : Int), .int .i64 ns, .bool true])
                      obtain ⟨X6, hX6⟩ : ∃ X, X = w6.alloc (.cells #[.int .i64 (x : Int), .int .i64 (y : Int), .int .i64 ns, .bool true] 106) := ⟨_, rfl⟩
                      obtain ⟨t6, ht6⟩ : ∃ t, t = w6.heap.size := ⟨_, rfl⟩
                      rw [← hX6] at HS6 HD6 ⊢
                      rw [← ht6] at HD6 ⊢
                      clear hX6 ht6 hx6
                      obtain ⟨i1, i2, i3⟩ := HD6.out.facts
                      have hbase := HS6.out.2.2.2.size
                      go_wp2_with (at_builtin; refine wpList_pushQ2 _ rfl _ _ rfl true w.heap.size HS6.out.2.1 (by rfl) (((x : Int), (y : Int)), ((x : Int), wayS u (x : Int) (y : Int))) (x : Int) (y : Int) ns rfl (by rw [HNS.out]; unfold chN; dsimp only; omega) (by rfl) rfl (by have := HLK.out; omega) hbase ?_; intro v5 w7 hv5 hb5 hk5 hk6; have HS7 := Lib.hid (RfS.push2 HS6.out hv5 hb5 hk5 hk6); clear hv5 hb5 hk5 hk6)
                      go_roundg (m - (x + 1))
                      case measure => have := HG2.out; have := HXM.out; omega
                      case rel => exact ⟨x + 1, by go_num, by have := HXM.out; omega, rfl, by rw [HCK.out], by rw [HKE.out, HE1.out, HE2.out]; exact HS7.out⟩
                    · have HCS := Lib.hid ((HRS.out (x : Int) (y : Int) _ HS5.out.2.2.2 ⟨by omega, by omega⟩ ⟨by omega, by omega⟩ HQ.out).mono (R' := fun e w' => Below w5.heap.size w5 w' ∧ e = .returned (.tuple #[.agg #[.int .i64 0, .int .i64 0, .int .i64 0, .bool false], .bool false])) fun e w' hr => ⟨hr.1, hr.2.elim (fun k => k.2) (fun k => absurd k.1 hS)⟩)
                      have HE2 := Lib.hid (show chS u (K ++ [((x : Int), (y : Int))]) = chS u K from chS_no (by intro k; exact hS ⟨k.1, by rw [q3_tr]; exact k.2⟩))
                      clear hS
                      go_upto_region 23 with (go_at_call_of 68 (Value.bool true); refine (HCS.out).mono ?_; rintro e w6 ⟨hx6, rfl⟩)
                      have HS7 := Lib.hid (HS5.out.ext (ext_trans hx6 (ext_alloc w6 (.cells #[.int .i64 0, .int .i64 0, .int .i64 0, .bool false] 106))))
                      clear hx6
                      go_wp2_with (fail)
                      go_roundg (m - (x + 1))
                      case measure => have := HG2.out; have := HXM.out; omega
                      case rel => exact ⟨x + 1, by go_num, by have := HXM.out; omega, rfl, by rw [HCK.out], by rw [HKE.out, HE1.out, HE2.out]; exact HS7.out⟩
                  · have HCF := Lib.hid ((HRF.out (x : Int) (y : Int) _ HS3.out.2.2.2 ⟨by omega, by omega⟩ ⟨by omega, by omega⟩ HQ.out).mono (R' := fun e w' => Below w3.heap.size w3 w' ∧ e = .returned (.tuple #[.agg #[.int .i64 0, .int .i64 0, .int .i64 0, .bool false], .bool false])) fun e w' hr => ⟨hr.1, hr.2.elim (fun k => k.2) (fun k => absurd k.1 hF)⟩)
                    have HE1 := Lib.hid (show chF u (K ++ [((x : Int), (y : Int))]) = chF u K from chF_no (by intro k; exact hF ⟨k.1, k.2⟩))
                    clear hF
                    go_upto_region 22 with (first
                      | (go_at_call_of 68 (Value.bool false); refine (HCF.out).mono ?_; rintro e w4 ⟨hx4, rfl⟩))
                    have HS4 := Lib.hid (HS3.out.ext (ext_trans hx4 (ext_alloc w4 (.cells #[.int .i64 0, .int .i64 0, .int .i64 0, .bool false] 106))))
                    obtain ⟨X4, hX4⟩ : ∃ X, X = w4.alloc (.cells #[.int .i64 0, .int .i64 0, .int .i64 0, .bool false] 106) := ⟨_, rfl⟩
                    rw [← hX4] at HS4 ⊢
                    clear hX4 hx4
                    by_cases hS : rcF (trU u) (y : Int) (x : Int)
                    · have HCS := Lib.hid ((HRS.out (x : Int) (y : Int) _ HS4.out.2.2.2 ⟨by omega, by omega⟩ ⟨by omega, by omega⟩ HQ.out).mono (R' := fun e w' => Below X4.heap.size X4 w' ∧ e = .returned (.tuple #[.agg #[.int .i64 (x : Int), .int .i64 (y : Int), .int .i64 ns, .bool true], .bool true])) fun e w' hr => ⟨hr.1, hr.2.elim (fun k => absurd hS k.1) (fun k => by rw [HNS.out]; exact k.2)⟩)
                      have HE2 := Lib.hid (show chS u (K ++ [((x : Int), (y : Int))]) = chS u K ++ [(((x : Int), (y : Int)), ((x : Int), wayS u (x : Int) (y : Int)))] from chS_yes hS.1 (by have := hS.2; rwa [q3_tr] at this))
                      clear hS
                      go_upto_region 23 with (go_at_call_of 68 (Value.bool true); refine (HCS.out).mono ?_; rintro e w6 ⟨hx6, rfl⟩)
                      have HS6 := Lib.hid (HS4.out.ext (ext_trans hx6 (ext_alloc w6 (.cells #[.int .i64 (x : Int), .int .i64 (y : Int), .int .i64 ns, .bool true] 106))))
                      have HD6 := Lib.hid (Bk.new 106 w6 #[.int .i64 (x : Int), .int .i64 (y : Int), .int .i64 ns, .bool true])
                      obtain ⟨X6, hX6⟩ : ∃ X, X = w6.alloc (.cells #[.int .i64 (x : Int), .int .i64 (y : Int), .int .i64 ns, .bool true] 106) := ⟨_, rfl⟩
                      obtain ⟨t6, ht6⟩ : ∃ t, t = w6.heap.size := ⟨_, rfl⟩
                      rw [← hX6] at HS6 HD6 ⊢
                      rw [← ht6] at HD6 ⊢
                      clear hX6 ht6 hx6
                      obtain ⟨i1, i2, i3⟩ := HD6.out.facts
                      have hbase := HS6.out.2.2.2.size
                      go_wp2_with (at_builtin; refine wpList_pushQ2 _ rfl _ _ rfl true w.heap.size HS6.out.2.1 (by rfl) (((x : Int), (y : Int)), ((x : Int), wayS u (x : Int) (y : Int))) (x : Int) (y : Int) ns rfl (by rw [HNS.out]; unfold chN; dsimp only; omega) (by rfl) rfl (by have := HLK.out; omega) hbase ?_; intro v5 w7 hv5 hb5 hk5 hk6; have HS7 := Lib.hid (RfS.push2 HS6.out hv5 hb5 hk5 hk6); clear hv5 hb5 hk5 hk6)
                      go_roundg (m - (x + 1))
                      case measure => have := HG2.out; have := HXM.out; omega
                      case rel => exact ⟨x + 1, by go_num, by have := HXM.out; omega, rfl, by rw [HCK.out], by rw [HKE.out, HE1.out, HE2.out]; exact HS7.out⟩
                    · have HCS := Lib.hid ((HRS.out (x : Int) (y : Int) _ HS4.out.2.2.2 ⟨by omega, by omega⟩ ⟨by omega, by omega⟩ HQ.out).mono (R' := fun e w' => Below X4.heap.size X4 w' ∧ e = .returned (.tuple #[.agg #[.int .i64 0, .int .i64 0, .int .i64 0, .bool false], .bool false])) fun e w' hr => ⟨hr.1, hr.2.elim (fun k => k.2) (fun k => absurd k.1 hS)⟩)
                      have HE2 := Lib.hid (show chS u (K ++ [((x : Int), (y : Int))]) = chS u K from chS_no (by intro k; exact hS ⟨k.1, by rw [q3_tr]; exact k.2⟩))
                      clear hS
                      go_upto_region 23 with (go_at_call_of 68 (Value.bool true); refine (HCS.out).mono ?_; rintro e w6 ⟨hx6, rfl⟩)
                      have HS7 := Lib.hid (HS4.out.ext (ext_trans hx6 (ext_alloc w6 (.cells #[.int .i64 0, .int .i64 0, .int .i64 0, .bool false] 106))))
                      clear hx6
                      go_wp2_with (fail)
                      go_roundg (m - (x + 1))
                      case measure => have := HG2.out; have := HXM.out; omega
                      case rel => exact ⟨x + 1, by go_num, by have := HXM.out; omega, rfl, by rw [HCK.out], by rw [HKE.out, HE1.out, HE2.out]; exact HS7.out⟩
              · obtain rfl : x = m := by omega
                rw [← Nat.mul_succ] at hv HS
                go_wp2_with (fail)
                go_roundg (H - (y + 1))
                case measure => have := HG1.out; have := HYH.out; omega
                case rel => exact ⟨y + 1, by go_num, by have := HYH.out; omega, rfl, hv, HS.out⟩
          · obtain rfl : H = y := by omega
            obtain ⟨A2, c2, rfl, k1, k2, kf⟩ := HSY.out.1.qsl
            obtain ⟨A3, c3, rfl, k3, k4, ks⟩ := HSY.out.2.1.qsl
            unfold maxLen at k2 k4
            have HBW := Lib.hid HSY.out.2.2.2
            have hv := HVY.out
            have HEQ2 := HEQ.out
            have HFL2 := HFL.out
            have hlF : (chF u (cornK u m (m * H))).length ≤ 2401 := Nat.le_trans (chF_len _ _) HCL.out
            have hlS : (chS u (cornK u m (m * H))).length ≤ 2401 := Nat.le_trans (chS_len _ _) HCL.out
            have hln := HCL.out
            obtain ⟨n, hn⟩ : ∃ n, n = (cornK u m (m * H)).length := ⟨_, rfl⟩
            obtain ⟨F, hF⟩ : ∃ F, F = chF u (cornK u m (m * H)) := ⟨_, rfl⟩
            obtain ⟨S, hS⟩ : ∃ S, S = chS u (cornK u m (m * H)) := ⟨_, rfl⟩
            rw [← hF, ← hS, ← hn] at HEQ2
            rw [← hF, ← hS] at HFL2
            rw [← hF] at hlF k1 kf ⊢
            rw [← hS] at hlS k3 ks ⊢
            rw [← hn] at hv hln
            obtain ⟨nv, hnv⟩ : ∃ nv, nv = n0 + (n : Int) := ⟨_, rfl⟩
            rw [← hnv] at hv
            subst hv
            have hnb : -5000 ≤ nv ∧ nv ≤ 6000 := by omega
            have HEQ3 := Lib.hid (show (B : Int) = nv - ((F.length : Int) + S.length - sucK (adjC F S) S.length F.length) from by rw [hnv]; exact HEQ2)
            have HFO := Lib.hid HFL2
            have HQF := Lib.hid (kf.qsu (Nat.le_refl _))
            have HQS := Lib.hid (ks.qsu (Nat.le_refl _))
            have hmk := run_zeros S.length (by omega)
            have hmf := run_falses1 S.length (by omega)
            have HX5 := Lib.hid (ext_alloc wr (.cells (cellsOf S.length fun _ => 0) 3))
            have HO0 := Lib.hid (Ow.new 3 wr S.length fun _ => 0)
            clear HEQ2 HFL2 hF hS hn hnv kf ks HSY HVY HEQ HFL HCL hyl d1 d2 HBN HRF HRS HBD
            go_upto_region 28 with (fail)
            obtain ⟨X, hX⟩ : ∃ X, X = wr.alloc (.cells (cellsOf S.length fun _ => 0) 3) := ⟨_, rfl⟩
            obtain ⟨mb, hmb⟩ : ∃ mb, mb = wr.heap.size := ⟨_, rfl⟩
            rw [← hX] at HX5 HO0 ⊢
            rw [← hmb] at HO0 HQF HQS ⊢
            have HQF1 := Lib.hid (HQF.out.but (But2.of (g := mb) (h := mb) HX5.out) (Nat.le_refl _) (Nat.le_refl _))
            have HQS1 := Lib.hid (HQS.out.but (But2.of (g := mb) (h := mb) HX5.out) (Nat.le_refl _) (Nat.le_refl _))
            have HBX := Lib.hid (ext_trans HBW.out HX5.out)
            have hwm : w.heap.size ≤ mb := by have := HBW.out.size; omega
            clear hX hmb HX5 HQF HQS HBW
            go_wp2_with (fail)
            go_loopg [100] S.length (fun gg z wr => ∃ k : Nat, z = .int .i64 k ∧ k ≤ S.length ∧ gg = S.length - k ∧ Ow 3 mb S.length (fun j => if j < k then -1 else 0) wr ∧ QcSu false mb wr A2 F ∧ QcSu true mb wr A3 S ∧ Below w.heap.size w wr)
            case atStart => exact ⟨0, rfl, by omega, by omega, HO0.out.congr fun i _ => by simp, HQF1.out, HQS1.out, HBX.out⟩
            case round =>
              obtain ⟨k, rfl, hk, hgg, ho, hqf, hqs, hb⟩ := hrel
              have HG := Lib.hid hgg
              have HO := Lib.hid ho
              have HQF := Lib.hid hqf
              have HQS := Lib.hid hqs
              have HB := Lib.hid hb
              clear hgg hqf hqs hb HO0 HQF1 HQS1 HBX
              by_cases hlt : k < S.length
              · have hc := ho.cell hlt
                have hf := ho.frozen k
                have ho2 := HO.out.set k (-1)
                have HO2 := Lib.hid (ho2.congr (e := fun j => if j < k + 1 then -1 else 0) fun i _ => by
                  unfold upd
                  dsimp only
                  by_cases h1 : i = k
                  · rw [if_pos h1, if_pos (by omega)]
                  · rw [if_neg h1]
                    by_cases h2 : i < k
                    · rw [if_pos h2, if_pos (by omega)]
                    · rw [if_neg h2, if_neg (by omega)])
                have HT := Lib.hid (But2.set1 wr mb mb k (.int .i64 (-1)))
                have HB2 := Lib.hid (HB.out.setCell (p := ⟨mb, k, none⟩) hwm (.int .i64 (-1)))
                clear ho ho2
                go_wp2
                go_roundg (S.length - (k + 1))
                case measure => have := HG.out; omega
                case rel => exact ⟨k + 1, by go_num, by omega, rfl, HO2.out, HQF.out.but HT.out (Nat.le_refl _) (Nat.le_refl _), HQS.out.but HT.out (Nat.le_refl _) (Nat.le_refl _), HB2.out⟩
              · obtain rfl : k = S.length := by omega
                have HO1 := Lib.hid (ho.congr (e := kuAll (adjC F S) S.length 0) fun i hi => if_pos hi)
                have HMF := Lib.hid hmf
                clear ho HO HG hlt hk hmk hmf
                go_wp2_with (fail)
                go_loopg [114, 21] F.length (fun gg z v wr => ∃ k : Nat, z = .int .i64 k ∧ k ≤ F.length ∧ gg = F.length - k ∧ v = .int .i64 ((F.length : Int) + S.length - (sucK (adjC F S) S.length k : Nat)) ∧ Ow 3 mb S.length (kuAll (adjC F S) S.length k) wr ∧ QcSu false mb wr A2 F ∧ QcSu true mb wr A3 S ∧ Below w.heap.size w wr)
                case atStart => exact ⟨0, rfl, by omega, by omega, by show _ = Value.int .i64 ((F.length : Int) + S.length - 0); rw [Int.sub_zero], HO1.out, HQF.out, HQS.out, HB.out⟩
                case round =>
                  obtain ⟨k, rfl, hk, hgg, hv, ho, hqf, hqs, hb⟩ := hrel
                  have HG := Lib.hid hgg
                  have HB2 := Lib.hid hb
                  have hsk := sucK_le (adjC F S) S.length k
                  obtain ⟨fv, hfv⟩ : ∃ fv, fv = (F.length : Int) + S.length - (sucK (adjC F S) S.length k : Nat) := ⟨_, rfl⟩
                  rw [← hfv] at hv
                  subst hv
                  have hfb : -10 ≤ fv ∧ fv ≤ 6000 := by omega
                  by_cases hlt : k < F.length
                  · have HXA := Lib.hid (ext_alloc wr (.cells (cellsB S.length fun _ => false) 4))
                    have hmlt : mb < wr.heap.size := ho.lt
                    have HC := Lib.hid (augment_any F S (by omega) (by omega) HFO.out.1 HFO.out.2 A2 A3 c2 c3 mb mb wr.heap.size (Nat.le_refl _) (Nat.le_of_lt hmlt) (Nat.ne_of_lt hmlt) k1 k3 (S.length + 1) k (fun _ => false, kuAll (adjC F S) S.length k) (wr.alloc (.cells (cellsB S.length fun _ => false) 4)) (by show unm (fun _ => false) S.length < S.length + 1; rw [unm_all]; omega)
                      (hqf.but (But2.of (g := mb) (h := mb) HXA.out) (Nat.le_refl _) (Nat.le_refl _)) (hqs.but (But2.of (g := mb) (h := mb) HXA.out) (Nat.le_refl _) (Nat.le_refl _)) (ho.ext HXA.out) (OwB.new wr _ _) hlt (kuAll_rg k (by omega)))
                    have HSU := Lib.hid (show sucK (adjC F S) S.length (k + 1) = sucK (adjC F S) S.length k + if (ku (adjC F S) S.length (S.length + 1) k (fun _ => false, kuAll (adjC F S) S.length k)).1 then 1 else 0 from rfl)
                    have HKU := Lib.hid (show kuAll (adjC F S) S.length (k + 1) = (ku (adjC F S) S.length (S.length + 1) k (fun _ => false, kuAll (adjC F S) S.length k)).2.2 from rfl)
                    obtain ⟨r, hr⟩ : ∃ r, r = ku (adjC F S) S.length (S.length + 1) k (fun _ => false, kuAll (adjC F S) S.length k) := ⟨_, rfl⟩
                    rw [← hr] at HC HSU HKU
                    obtain ⟨ok, s2⟩ := r
                    dsimp only at HSU HKU
                    have HFV := Lib.hid hfv
                    have HQA := Lib.hid (fun (W' : World) (h' : But2 mb wr.heap.size (wr.alloc (.cells (cellsB S.length fun _ => false) 4)) W') => (show QcSu false mb W' A2 F ∧ QcSu true mb W' A3 S ∧ Below w.heap.size w W' from
                      ⟨(hqf.but (But2.of (g := mb) (h := mb) HXA.out) (Nat.le_refl _) (Nat.le_refl _)).but h' (Nat.le_refl _) (Nat.le_of_lt hmlt), (hqs.but (But2.of (g := mb) (h := mb) HXA.out) (Nat.le_refl _) (Nat.le_refl _)).but h' (Nat.le_refl _) (Nat.le_of_lt hmlt), (ext_trans hb HXA.out).trans (h'.below hwm (by have := hb.size; omega) (by have := hb.size; have := HXA.out.size; omega))⟩))
                    have hmf := HMF.out
                    clear hr hgg ho hqf hqs hb hfv HO1 HQF HQS HB HXA
                    cases ok with
                    | true =>
                      have HFW := Lib.hid (show fv - 1 = (F.length : Int) + S.length - (sucK (adjC F S) S.length (k + 1) : Nat) from by rw [HSU.out, HFV.out]; simp; omega)
                      go_wp2_with (go_at_call 69; refine (HC.out).mono ?_; rintro e w5 ⟨rfl, hm5, hs5, hb5⟩; have HM5 := Lib.hid hm5; have HB5 := Lib.hid hb5; clear hm5 hs5 hb5)
                      go_roundg (F.length - (k + 1))
                      case measure => have := HG.out; omega
                      case rel => exact ⟨k + 1, by go_num, by omega, rfl, by rw [HFW.out], by rw [HKU.out]; exact HM5.out, (HQA.out _ HB5.out).1, (HQA.out _ HB5.out).2.1, (HQA.out _ HB5.out).2.2⟩
                    | false =>
                      have HFW := Lib.hid (show fv = (F.length : Int) + S.length - (sucK (adjC F S) S.length (k + 1) : Nat) from by rw [HSU.out, HFV.out]; simp)
                      go_wp2_with (go_at_call 69; refine (HC.out).mono ?_; rintro e w5 ⟨rfl, hm5, hs5, hb5⟩; have HM5 := Lib.hid hm5; have HB5 := Lib.hid hb5; clear hm5 hs5 hb5)
                      go_roundg (F.length - (k + 1))
                      case measure => have := HG.out; omega
                      case rel => exact ⟨k + 1, by go_num, by omega, rfl, by rw [← HFW.out], by rw [HKU.out]; exact HM5.out, (HQA.out _ HB5.out).1, (HQA.out _ HB5.out).2.1, (HQA.out _ HB5.out).2.2⟩
                  · obtain rfl : k = F.length := by omega
                    have hres : nv - fv = (B : Int) := by rw [HEQ3.out, hfv]
                    clear hfv hgg ho hqf hqs hb HO1 HQF HQS HB HG HMF
                    go_wp2
                    refine bodyPost_ret (v := .tuple #[.int .i64 (B : Int), .int .i64 0]) (by simp [results, Tryd.results31, go_sem]) rfl ?_
                    rw [HRT.out]
                    exact ⟨HB2.out, .inr ⟨HOK.out, rfl⟩⟩
  · have HP := Lib.hid (HP0.out.mono (R' := fun e w' => Below w.heap.size w w' ∧ e = .returned (.tuple #[.slice none 0 0, .int .i64 2])) fun e w' hr => by
      obtain ⟨hb, ⟨_, he⟩ | ⟨hn, _⟩⟩ := hr
      · exact ⟨hb, he⟩
      · exact absurd hn hps)
    have HPS := Lib.hid hps
    clear hps h hz HP0
    go_enter Tryd.func31, Tryd.ntmps31
    go_wp2_with (go_at_call 13; refine (HP.out).mono ?_; rintro e w1 ⟨hx1, rfl⟩)
    refine bodyPost_ret (v := .tuple #[.int .i64 0, .int .i64 2]) (by simp [results, Tryd.results31, go_sem]) rfl ?_
    exact ⟨hx1, .inl ⟨HPS.out, rfl⟩⟩

set_option maxRecDepth 100000 in
set_option maxHeartbeats 4000000 in
theorem law_fewest (A : Option Addr) (cap : Nat) (l : List ByteArray) (g : Int) (w : World) (hc : l.length ≤ cap) (hcm : cap ≤ 9223372036854775807) (h : TSl w A l) (hz : TSz l) :
    Calls Tryd.prog 8 #[.slice A l.length cap, .int .i64 g] w fun e w' => e = .returned (.bool true) ∧ Below w.heap.size w w' := by
  have HF := Lib.hid (fun W (hW : Below w.heap.size w W) => sfewest_any A cap l g W hc hcm (h.ext hW) hz)
  have HR := Lib.hid (fun W (hW : Below w.heap.size w W) => rfewest_any A cap l g W hc hcm (h.ext hW) hz)
  have HS := Lib.hid (fun W (hW : Below w.heap.size w W) => ssplit_any A cap l g W hc hcm (h.ext hW) hz)
  unfold RetFw at HF HR
  unfold RetSs at HS
  by_cases hps : PsOk l g
  · have hok := hps.1
    have hg1 := hps.2.1
    have hdv := (split_least (u := us l g) (w := wid l) (h := l.length) (n := 3000) (fun x y k => us_in hok hg1 k) hok.2.2.2.1 hok.2.1 (by decide)).1
    obtain ⟨bs, hbs⟩ : ∃ bs, bs = splB (us l g) (wid l) l.length 3000 := ⟨_, rfl⟩
    rw [← hbs] at HF HR HS hdv
    obtain ⟨B, hB⟩ : ∃ B, B = bs.length := ⟨_, rfl⟩
    have HF2 := Lib.hid (fun W hW => (HF.out W hW).mono (R' := fun e w' => Below W.heap.size W w' ∧ e = .returned (.tuple #[.int .i64 (B : Int), .int .i64 0])) fun e w' hr => ⟨hr.1, hr.2.elim (fun k => absurd hps k.1) (fun k => by rw [hB]; exact k.2)⟩)
    have HR2 := Lib.hid (fun W hW => (HR.out W hW).mono (R' := fun e w' => Below W.heap.size W w' ∧ e = .returned (.tuple #[.int .i64 (B : Int), .int .i64 0])) fun e w' hr => ⟨hr.1, hr.2.elim (fun k => absurd hps k.1) (fun k => by rw [hB]; exact k.2)⟩)
    have HS2 := Lib.hid (fun W hW => (HS.out W hW).mono (R' := fun e w' => Below W.heap.size W w' ∧ ∃ A2 c2, e = .returned (.tuple #[.slice A2 B c2, .int .i64 0]) ∧ ∀ V, Below w.heap.size w V → Below w'.heap.size w' V → Calls Tryd.prog 33 #[.slice A l.length cap, .int .i64 g, .slice A2 B c2] V fun e w' => e = .returned (.bool true) ∧ Below V.heap.size V w') fun e w' hr => by
      obtain ⟨hb, ⟨hn, _⟩ | ⟨_, A2, c2, ms, he, _, _, hml, hrs, hpw, hlen, hmem⟩⟩ := hr
      · exact absurd hps hn
      · rw [← hB] at hlen
        rw [hlen] at he
        refine ⟨hb, A2, c2, he, fun V h1 h2 => ?_⟩
        have := divides_any A cap l g A2 c2 ms V hok (h.ext h1) (hrs.ext h2) hml (divI_of (fun x y k => us_in hok hg1 k) hdv hmem hpw)
        rw [hlen] at this
        exact this)
    clear HF HR HS hdv hbs hB hps hok hg1 h hz
    go_enter Tryd.func8, Tryd.ntmps8
    go_wp2_with (first
      | (go_at_call 30; refine (HF2.out _ (Below.refl _ _)).mono ?_; rintro e w1 ⟨hx1, rfl⟩; have B1 := Lib.hid hx1; clear hx1)
      | (go_at_call 31; refine (HR2.out _ B1.out).mono ?_; rintro e w2 ⟨hx2, rfl⟩; have B2 := Lib.hid (bext B1.out hx2 B1.out.size); clear hx2)
      | (go_at_call 32; refine (HS2.out _ B2.out).mono ?_; rintro e w3 ⟨hx3, A3, c3, rfl, hd3⟩; have B3 := Lib.hid (bext B2.out hx3 B2.out.size); have HD := Lib.hid hd3; clear hx3 hd3)
      | (go_at_call 14; refine (awake_any _).mono ?_; rintro e w4 ⟨rfl, hx4⟩; have B4 := Lib.hid (bext B3.out hx4 B3.out.size); have HX4 := Lib.hid hx4; clear hx4)
      | (go_at_call 33; refine (HD.out _ B4.out HX4.out).mono ?_; rintro e w5 ⟨rfl, hx5⟩; have B5 := Lib.hid (bext B4.out hx5 B4.out.size); clear hx5))
    go_ret
    exact ⟨rfl, B5.out⟩
  · have HF2 := Lib.hid (fun W hW => (HF.out W hW).mono (R' := fun e w' => Below W.heap.size W w' ∧ e = .returned (.tuple #[.int .i64 0, .int .i64 2])) fun e w' hr => ⟨hr.1, hr.2.elim (fun k => k.2) (fun k => absurd k.1 hps)⟩)
    have HR2 := Lib.hid (fun W hW => (HR.out W hW).mono (R' := fun e w' => Below W.heap.size W w' ∧ e = .returned (.tuple #[.int .i64 0, .int .i64 2])) fun e w' hr => ⟨hr.1, hr.2.elim (fun k => k.2) (fun k => absurd k.1 hps)⟩)
    have HS2 := Lib.hid (fun W hW => (HS.out W hW).mono (R' := fun e w' => Below W.heap.size W w' ∧ e = .returned (.tuple #[.slice none 0 0, .int .i64 2])) fun e w' hr => ⟨hr.1, hr.2.elim (fun k => k.2) (fun k => absurd k.1 hps)⟩)
    clear HF HR HS hps h hz
    go_enter Tryd.func8, Tryd.ntmps8
    go_wp2_with (first
      | (go_at_call 30; refine (HF2.out _ (Below.refl _ _)).mono ?_; rintro e w1 ⟨hx1, rfl⟩; have B1 := Lib.hid hx1; clear hx1)
      | (go_at_call 31; refine (HR2.out _ B1.out).mono ?_; rintro e w2 ⟨hx2, rfl⟩; have B2 := Lib.hid (bext B1.out hx2 B1.out.size); clear hx2)
      | (go_at_call 32; refine (HS2.out _ B2.out).mono ?_; rintro e w3 ⟨hx3, rfl⟩; have B3 := Lib.hid (bext B2.out hx3 B2.out.size); clear hx3)
      | (go_at_call 14; refine (awake_any _).mono ?_; rintro e w4 ⟨rfl, hx4⟩; have B4 := Lib.hid (bext B3.out hx4 B3.out.size); clear hx4))
    go_ret
    exact ⟨rfl, B4.out⟩
end Go.Proofs.YtmgofdgbenfjmaaDoor
