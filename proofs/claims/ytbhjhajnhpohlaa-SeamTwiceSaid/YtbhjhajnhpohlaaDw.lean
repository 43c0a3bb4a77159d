/- doubled walked. Conditions: at most sixteen odd joints, the table of lengths between 0 and far. -/
import Derived.Test.YtbhjhajnhpohlaaDbP
import Derived.Test.YtbhjhajnhpohlaaSh
import Derived.Test.YtbhjhajnhpohlaaRgT
import Derived.Deep.AppendLies
namespace Go.Proofs.Ytbhjhajnhpohlaa
open Go.RowKit

theorem wrapE (x : Int) : IntKind.i64.wrap x = wrap64 x := by rw [IntKind.wrap_i64, wrap64]
/-- a power of two as the walk has it -/
theorem pw_ex (i : Nat) (h : i < 63) : ∃ P : Nat, P = 2 ^ i ∧ wrap64 (2 ^ i) = (P : Int) ∧ IntKind.i64.wrap (2 ^ i) = (P : Int) := by
  have h1 := i64_wrapN (2 ^ i) (pow_lt i h)
  have e : ((2 ^ i : Nat) : Int) = 2 ^ i := by push_cast; rfl
  refine ⟨2 ^ i, rfl, ?_, ?_⟩
  · rw [← wrapE, e]
    rw [e] at h1
    exact h1
  · rw [e]
    rw [e] at h1
    exact h1
theorem pw_ex' (i : Nat) (h : i < 63) : ∃ P : Nat, Hid (P = 2 ^ i) ∧ ¬ (P : Int) = 0 ∧ wrap64 (2 ^ i) = (P : Int) ∧ IntKind.i64.wrap (2 ^ i) = (P : Int) := by
  obtain ⟨P, h1, h2, h3⟩ := pw_ex i h
  exact ⟨P, Lib.hid h1, by have := Nat.two_pow_pos i; omega, h2, h3⟩
theorem mw_ex (k : Nat) (h : k ≤ 16) : ∃ M : Nat, Hid (M = 2 ^ k) ∧ 1 ≤ M ∧ M ≤ 65536 ∧ IntKind.i64.wrap (2 ^ k) = (M : Int) ∧ wrap64 (2 ^ k) = (M : Int) := by
  obtain ⟨P, h1, h2, h3⟩ := pw_ex k (by omega)
  refine ⟨P, Lib.hid h1, ?_, ?_, h3, h2⟩
  · rw [h1]; exact Nat.two_pow_pos k
  · rw [h1]; exact Nat.le_trans (Nat.pow_le_pow_right (by omega) h) (by simp)
theorem low_exM {k n M : Nat} (hM : M = 2 ^ k) (hn : n < M) (h : 1 ≤ n) : n.testBit (low k n) = true ∧ low k n < k ∧ ∀ j, j < low k n → n.testBit j = false := low_ex (by rw [← hM]; exact hn) h
theorem pw_pos {P i : Nat} (h : P = 2 ^ i) : ¬ (P : Int) = 0 := by have := Nat.two_pow_pos i; omega
theorem and_no {n i P : Nat} (hn : n < 9223372036854775808) (hi : i < 63) (hP : P = 2 ^ i) (h : n.testBit i = false) : bits .and .i64 (n : Int) (P : Int) = 0 := by
  rw [hP, i64_and _ _ hn (pow_lt i hi), bit_and, if_neg (by rw [h]; decide)]
  rfl
theorem and_yes {n i P : Nat} (hn : n < 9223372036854775808) (hi : i < 63) (hP : P = 2 ^ i) (h : n.testBit i = true) : bits .and .i64 (n : Int) (P : Int) = (P : Int) := by
  rw [hP, i64_and _ _ hn (pow_lt i hi), bit_and, if_pos h]
theorem and_yes' {n i P : Nat} (hn : n < 9223372036854775808) (hi : i < 63) (hP : P = 2 ^ i) (h : n.testBit i = true) : ∃ x : Int, bits .and .i64 (n : Int) (P : Int) = x ∧ (x == 0) = false ∧ x ≠ 0 := by
  refine ⟨_, and_yes hn hi hP h, ?_, pw_pos hP⟩
  have := pw_pos hP
  simpa using this
theorem off_yes {n i P : Nat} (hn : n < 9223372036854775808) (hi : i < 63) (hP : P = 2 ^ i) (h : n.testBit i = true) : bits .andNot .i64 (n : Int) (P : Int) = (wo1 n i : Int) := by
  rw [hP]; exact off_bit hn hi h
/-- the table while set n is being filled in -/
def dpI (d : Nat → Nat → Int) (v : Int) (k n j : Nat) : Nat → Int × Nat := fun s => if s = n then inn d (fun s => (dpT d v k n s).1) n (low k n) v j else dpT d v k n s
theorem dpI_end (d : Nat → Nat → Int) (v : Int) (k : Nat) {n : Nat} (hn : 0 < n) : dpI d v k n k = dpT d v k (n + 1) := by
  funext s
  unfold dpI
  show _ = (if s = n ∧ 0 < n then _ else _)
  by_cases e : s = n
  · rw [if_pos e, if_pos ⟨e, hn⟩]
  · rw [if_neg e, if_neg (fun h => e h.1)]
theorem dpT_one (d : Nat → Nat → Int) (v : Int) (k s : Nat) : dpT d v k 1 s = (0, 0) := by
  show (if s = 0 ∧ 0 < 0 then _ else _) = _
  rw [if_neg (fun h => by omega)]
  rfl
theorem dpI_start (d : Nat → Nat → Int) (v : Int) (k n : Nat) {j : Nat} (hj : j ≤ low k n + 1) : dpI d v k n j = fun s => if s = n then (v, 0) else dpT d v k n s := by
  funext s
  unfold dpI
  rw [inn_start d _ n (low k n) v j hj]
theorem inn_nn {d : Nat → Nat → Int} {T : Nat → Int} {S i : Nat} {v : Int} (hd : ∀ i j, 0 ≤ d i j) (hT : ∀ s, 0 ≤ T s) (hv : 0 ≤ v) (n : Nat) : 0 ≤ (inn d T S i v n).1 ∧ (inn d T S i v n).1 ≤ v := by
  refine ⟨?_, inn_le n |>.1⟩
  rcases inn_at (d := d) (T := T) (S := S) (i := i) (v := v) n with h | ⟨j, _, _, _, h⟩
  · rw [h]; exact hv
  · rw [h]
    have h1 := hT (wo1 (wo1 S i) j)
    have h2 := hd i j
    show 0 ≤ T _ + d i j
    omega
theorem dpT_bd {d : Nat → Nat → Int} {v : Int} {k : Nat} (hd : ∀ i j, 0 ≤ d i j) (hv : 0 ≤ v) : ∀ n s, 0 ≤ (dpT d v k n s).1 ∧ (dpT d v k n s).1 ≤ v
  | 0, s => ⟨Int.le_refl _, hv⟩
  | n + 1, s => by
    have ih := dpT_bd (k := k) hd hv n
    show 0 ≤ (if s = n ∧ 0 < n then inn d (fun s => (dpT d v k n s).1) n (low k n) v k else dpT d v k n s).1 ∧ (if s = n ∧ 0 < n then inn d (fun s => (dpT d v k n s).1) n (low k n) v k else dpT d v k n s).1 ≤ v
    split
    · exact inn_nn hd (fun s => (ih s).1) hv k
    · exact ih s
theorem dpI_bd {d : Nat → Nat → Int} {v : Int} {k : Nat} (hd : ∀ i j, 0 ≤ d i j) (hv : 0 ≤ v) (n j s : Nat) : 0 ≤ (dpI d v k n j s).1 ∧ (dpI d v k n j s).1 ≤ v := by
  unfold dpI
  split
  · exact inn_nn hd (fun s => (dpT_bd hd hv n s).1) hv j
  · exact dpT_bd hd hv n s
theorem dpI_skip {d : Nat → Nat → Int} {v : Int} {k n j : Nat} (h : n.testBit j = false) : dpI d v k n (j + 1) = dpI d v k n j := by
  funext s
  unfold dpI
  split
  · show (if low k n < j ∧ n.testBit j = true ∧ _ then _ else _) = _
    rw [if_neg (fun e => by rw [h] at e; exact absurd e.2.1 (by decide))]
  · rfl
theorem dpI_at {d : Nat → Nat → Int} {v : Int} {k n j m : Nat} (hm : m ≠ n) : dpI d v k n j m = dpT d v k n m := by
  unfold dpI; rw [if_neg hm]
theorem dpI_yes {d : Nat → Nat → Int} {v : Int} {k n j m : Nat} (hj : low k n < j) (hb : n.testBit j = true) (hm : m = wo1 (wo1 n (low k n)) j) (hn : m ≠ n) (h : (dpI d v k n j m).1 + d (low k n) j < (dpI d v k n j n).1) : dpI d v k n (j + 1) = fun s => if s = n then ((dpI d v k n j m).1 + d (low k n) j, j) else dpI d v k n j s := by
  funext s
  rw [dpI_at hn] at h ⊢
  subst hm
  by_cases e : s = n
  · subst e
    unfold dpI at h ⊢
    rw [if_pos rfl] at h ⊢
    rw [if_pos rfl]
    show (if low k s < j ∧ s.testBit j = true ∧ _ then _ else _) = _
    rw [if_pos ⟨hj, hb, h⟩]
  · unfold dpI
    rw [if_neg e, if_neg e, if_neg e]
theorem dpI_no {d : Nat → Nat → Int} {v : Int} {k n j m : Nat} (hm : m = wo1 (wo1 n (low k n)) j) (hn : m ≠ n) (h : ¬ (dpI d v k n j m).1 + d (low k n) j < (dpI d v k n j n).1) : dpI d v k n (j + 1) = dpI d v k n j := by
  funext s
  rw [dpI_at hn] at h
  subst hm
  by_cases e : s = n
  · subst e
    unfold dpI at h ⊢
    rw [if_pos rfl] at h ⊢
    rw [if_pos rfl]
    show (if low k s < j ∧ s.testBit j = true ∧ _ then _ else _) = _
    rw [if_neg (fun e => h e.2.2)]
  · unfold dpI
    rw [if_neg e, if_neg e]
theorem wo_facts {n q j : Nat} (hq : n.testBit q = true) (hqj : q < j) (hb : n.testBit j = true) : (wo1 n q).testBit j = true ∧ wo1 n q < n ∧ wo1 (wo1 n q) j < wo1 n q := by
  have h1 : (wo1 n q).testBit j = true := by
    rw [wo1_bit, hb]
    have : decide (q = j) = false := by simp; omega
    rw [this]; rfl
  exact ⟨h1, wo1_lt hq, wo1_lt h1⟩
/-- doubled's own memory -/
def DwS (w : World) (M a b : Nat) (p : Nat → Int × Nat) (wr : World) : Prop :=
  Below w.heap.size w wr ∧ Ow 3 a M (fun s => (p s).1) wr ∧ Ow 3 b M (fun s => ((p s).2 : Int)) wr
def jt (l : List Int) (i : Nat) : Nat := (l.getD i 0).toNat

theorem DwS.grow {w : World} {M a b : Nat} {p : Nat → Int × Nat} {wr w1 w' : World} {v : Value} {n : Nat} {xs : List Value} {T : TypeId} (h : DwS w M a b p wr) (hv : wr.ownsRow w.heap.size T 2 v n xs) (hT : T ≠ 3) (hx : Below wr.heap.size wr w1) (hg : w1.grownBy w' v.ownBlock) : DwS w M a b p w' := by
  have hlt := own_lt hv
  have h1 : Below w.heap.size w w1 := bext h.1 hx h.1.size
  have h2 := h.2.1.ext hx
  have h3 := h.2.2.ext hx
  have hv1 := own_ext hv hx
  refine ⟨h1.grown hg h1.size (fun k hk => (hlt k hk).1), ?_, ?_⟩
  · exact (hg.block _ h2.lt (own_ne hv1 (show Bk 3 w1 a _ from h2) hT)).trans h2
  · exact (hg.block _ h3.lt (own_ne hv1 (show Bk 3 w1 b _ from h3) hT)).trans h3
/-- the pairs that are taken out of a set -/
inductive Ext (d : Nat → Nat → Int) (v : Int) (k : Nat) : Nat → List (Nat × Nat) → Prop
  | nil : Ext d v k 0 []
  | cons {s i j : Nat} {ps : List (Nat × Nat)} (hs : 0 < s) (hi : i = low k s) (hj : j = (dpv d v k s).2) (hij : i < j) (hjk : j < k) (bi : s.testBit i = true) (bj : s.testBit j = true) (he : (dpv d v k s).1 = (dpv d v k (wo1 (wo1 s i) j)).1 + d i j) (t : Ext d v k (wo1 (wo1 s i) j) ps) : Ext d v k s ((i, j) :: ps)
/-- a row of pairs of joints -/
def prC (l : List (Nat × Nat)) : List Value := l.flatMap fun p => [Value.int .i64 (p.1 : Int), Value.int .i64 (p.2 : Int)]
def jts (l : List Int) (ps : List (Nat × Nat)) : List (Nat × Nat) := ps.map fun p => (jt l p.1, jt l p.2)
theorem jts_len (l : List Int) (ps : List (Nat × Nat)) : (jts l ps).length = ps.length := by simp [jts]
def Vpr (base : Nat) (w : World) (v : Value) (l : List (Nat × Nat)) : Prop := w.ownsRow base 155 2 v l.length (prC l)
theorem info_pair : (Try.prog.info? 155).map (fun i => (i.zero, i.size, i.bytes)) = some (some (.agg #[.int .i64 0, .int .i64 0]), 2, 16) := by kernel_rfl
theorem or_off {n i j P Q : Nat} (hn : n < 9223372036854775808) (hi : i < 63) (hj : j < 63) (hij : i ≠ j) (hP : P = 2 ^ i) (hQ : Q = 2 ^ j) (h : n.testBit i = true) (h' : n.testBit j = true) : ∃ X : Int, bits .or .i64 (P : Int) (Q : Int) = X ∧ bits .andNot .i64 (n : Int) X = (wo1 (wo1 n i) j : Int) := by
  refine ⟨_, i64_or P Q (by rw [hP]; exact pow_lt i hi) (by rw [hQ]; exact pow_lt j hj), ?_⟩
  have hx : P ||| Q < 2 ^ 63 := Nat.or_lt_two_pow (by rw [hP]; exact Nat.pow_lt_pow_right (by omega) hi) (by rw [hQ]; exact Nat.pow_lt_pow_right (by omega) hj)
  rw [i64_andNot _ _ hn hx]
  congr 1
  apply Nat.eq_of_testBit_eq
  intro x
  rw [Nat.testBit_and, wo1_bit, wo1_bit]
  by_cases hx2 : x < 64
  · have e : (18446744073709551615 - (P ||| Q)).testBit x = !(P ||| Q).testBit x := by
      have h0 : 18446744073709551615 - (P ||| Q) = 2 ^ 64 - ((P ||| Q) + 1) := by omega
      rw [h0, Nat.testBit_two_pow_sub_succ (Nat.lt_trans hx (by decide))]
      simp [hx2]
    rw [e, Nat.testBit_or, hP, hQ, Nat.testBit_two_pow, Nat.testBit_two_pow]
    by_cases e1 : i = x
    · have e2 : ¬ j = x := by omega
      subst e1
      simp [h, e2]
    · by_cases e2 : j = x
      · subst e2; simp [h', e1]
      · simp [e1, e2]
  · have hs : n.testBit x = false := Nat.testBit_lt_two_pow (Nat.lt_of_lt_of_le (show n < 2 ^ 63 by omega) (Nat.pow_le_pow_right (by omega) (by omega)))
    have h1 : ¬ i = x := by omega
    have h2 : ¬ j = x := by omega
    simp [hs, h1, h2]

set_option maxRecDepth 100000 in
set_option maxHeartbeats 4000000 in
theorem doubled_any (gw : Nat) (L F : Mx) (A : Option Addr) (cap : Nat) (l : List Int) (w : World) (hL : Bd ⟨L, F⟩) (hw : Ow 103 gw 512 (pk L F) w) (hl : l.length ≤ 16) (hx : ∀ x ∈ l, 0 ≤ x ∧ x < 16) (hD : ∀ i j, i < l.length → j < l.length → L (jt l i) (jt l j) ≤ 655360000) (hev : l.length % 2 = 0) (hc : l.length ≤ cap) (_hcm : cap ≤ 9223372036854775807) (h : ISl w A l) :
    Calls Try.prog 91 #[.pointer (some ⟨gw, 0, none⟩), .slice A l.length cap] w fun e w' => ∃ v' ps, e = .returned v' ∧ Vpr w.heap.size w' v' (jts l ps) ∧ Ext (fun i j => L (jt l i) (jt l j)) 17592186044416 l.length (2 ^ l.length - 1) ps ∧ Below w.heap.size w w' := by
  obtain ⟨k, hk⟩ : ∃ k, k = l.length := ⟨_, rfl⟩
  have H := Lib.hid h
  have HX := Lib.hid hx
  have HW := Lib.hid hw
  have HK := Lib.hid hk
  rw [← hk] at hl hc hD hev ⊢
  have HDD := Lib.hid hD
  have HEV := Lib.hid hev
  clear h hx hw hk hD hev
  obtain ⟨M, HM, M1, hM1, hM2, hM3⟩ := mw_ex k hl
  have hmk : ∀ W, (Instr.makeSlice 35 (.int .i64 (M : Int)) (.int .i64 (M : Int))).run Try.prog W = .ok (.slice (some ⟨W.heap.size, 0, none⟩) M M) (W.alloc (.cells (cellsOf M fun _ => 0) 3)) := fun W => run_zeros M (by omega) W
  go_enter Try.func91, Try.ntmps91
  go_wp2
  go_cut [5, 6] (fun z1 z2 wx => ∃ a b : Nat, z1 = .slice (some ⟨a, 0, none⟩) M M ∧ z2 = .slice (some ⟨b, 0, none⟩) M M ∧ w.heap.size ≤ a ∧ w.heap.size ≤ b ∧ a ≠ b ∧ Below w.heap.size w wx ∧ Ow 3 a M (fun _ => 0) wx ∧ Ow 3 b M (fun _ => 0) wx)
  case first =>
    go_region
    all_goals
      go_wp2
      go_meet
      try exact ⟨_, _, rfl, rfl, by simp, by simp, by simp, bext ((ext_alloc _ _).trans ((ext_alloc _ _).mono (by simp))) (ext_drew _) (by simp; omega), ((Ow.new _ _ _ _).ext (ext_alloc _ _)).ext (ext_drew _), Ow.ext (by have := Ow.new 3 (w.alloc (.cells (cellsOf M fun _ => 0) 3)) M (fun _ => 0); simpa using this) (ext_drew _)⟩
      try exact ⟨_, _, rfl, rfl, by simp, by simp, by simp, bext ((ext_alloc _ _).trans ((ext_alloc _ _).mono (by simp))) (ext_drew _) (by simp; omega), Ow.ext (by have := Ow.new 3 (w.alloc (.cells (cellsOf M fun _ => 0) 3)) M (fun _ => 0); simpa using this) (ext_drew _), ((Ow.new _ _ _ _).ext (ext_alloc _ _)).ext (ext_drew _)⟩
  case rest =>
    obtain ⟨a, b, rfl, rfl, ga, gb, hab, hb, hoa, hob⟩ := hcut
    rename_i hKc
    refine hKc _ _ ?_
    obtain ⟨v0, hv0⟩ : ∃ v0, v0 = (17592186044416 : Int) := ⟨_, rfl⟩
    obtain ⟨d, hd⟩ : ∃ d : Nat → Nat → Int, d = fun i j => L (jt l i) (jt l j) := ⟨_, rfl⟩
    have HD := Lib.hid hd
    have HV := Lib.hid hv0
    have HS0 := Lib.hid (show DwS w M a b (dpT d v0 k 1) wc from ⟨hb, hoa.congr (fun i _ => by rw [dpT_one]), hob.congr (fun i _ => by rw [dpT_one]; rfl)⟩)
    clear hKc hb hoa hob hmk hM2 hM3 hd hv0
    go_wp2
    go_loopg [7] (M - 1) (fun g i wr => ∃ n : Nat, i = .int .i64 n ∧ 1 ≤ n ∧ n ≤ M ∧ g = M - n ∧ DwS w M a b (dpT d v0 k n) wr)
    case atStart => exact ⟨1, rfl, by omega, M1, rfl, HS0.out⟩
    case round =>
      obtain ⟨n, rfl, n1, hn, hg, hs⟩ := hrel
      have HG := Lib.hid hg
      have HS := Lib.hid hs
      clear hg hs HS0
      by_cases hlt : n < M
      · obtain ⟨b1, b2, b3⟩ := low_exM HM.out hlt n1
        go_wp2
        go_loopg [8] k (fun g i wx => ∃ q : Nat, i = .int .i64 q ∧ q ≤ low k n ∧ g = k - q ∧ wx = wr)
        case atStart => exact ⟨0, rfl, by omega, by omega, rfl⟩
        case round =>
          obtain ⟨q, rfl, hq, hgq, rfl⟩ := hrel
          obtain ⟨P, HP, p4, p1, p2⟩ := pw_ex' q (by omega)
          by_cases hql : q < low k n
          · have p3 := and_no (n := n) (by omega) (by omega) HP.out (b3 q hql)
            go_wp2
            go_roundg (k - (q + 1))
            case measure => omega
            case rel => exact ⟨q + 1, by go_num, by omega, rfl, rfl⟩
          · obtain rfl : q = low k n := by omega
            clear p4
            obtain ⟨x, p3, p4, p5⟩ := and_yes' (n := n) (by omega) (by omega) HP.out b1
            have HB1 := Lib.hid b1
            have HB3 := Lib.hid b3
            have f1 := HS.out.2.1.cell (i := n) hlt
            have f2 := HS.out.2.1.frozen n
            have f3 := HS.out.2.1.lt
            clear b1 b3
            obtain ⟨q, hq'⟩ : ∃ q, q = low k n := ⟨_, rfl⟩
            rw [← hq'] at HB1 HB3 HP b2 p1 p2 hq hql hgq ⊢
            have HQ := Lib.hid hq'
            clear hq'
            go_upto_region 9 with (fail)
            clear p1 p2 p3 p4 p5 f1 f2 f3 hq hql hgq HP
            have HS1 := Lib.hid (show DwS w M a b (dpI d v0 k n (q + 1)) (wr.setCell ⟨a, n, none⟩ (.int .i64 17592186044416)) from by
              refine ⟨HS.out.1.setCell (by show w.heap.size ≤ a; omega) _, (HS.out.2.1.set n _).congr (fun s _ => ?_), (HS.out.2.2.set_ne (fun e => hab e.symm) _).congr (fun s _ => ?_)⟩
              · rw [dpI_start d v0 k n (by rw [HQ.out]; exact Nat.le_refl _), HV.out]
                unfold upd
                by_cases e : s = n
                · simp only [if_pos e]
                · simp only [if_neg e]
              · rw [dpI_start d v0 k n (by rw [HQ.out]; exact Nat.le_refl _)]
                dsimp only
                split
                · rename_i e; rw [e, dpT_new d v0 k n n (Nat.le_refl _)]
                · rfl)
            obtain ⟨W1, hW1⟩ : ∃ W1, W1 = wr.setCell ⟨a, n, none⟩ (.int .i64 17592186044416) := ⟨_, rfl⟩
            rw [← hW1] at HS1 ⊢
            clear hW1 HS
            go_wp2
            go_loopg [9] (k - (q + 1)) (fun g z wx => ∃ j : Nat, z = .int .i64 j ∧ q + 1 ≤ j ∧ j ≤ k ∧ g = k - j ∧ DwS w M a b (dpI d v0 k n j) wx)
            case atStart => exact ⟨q + 1, by go_num, Nat.le_refl _, by omega, rfl, HS1.out⟩
            case round =>
              obtain ⟨j, rfl, hj1, hj, hgj, hs⟩ := hrel
              have HGJ := Lib.hid hgj
              have HS := Lib.hid hs
              clear hgj hs HS1
              by_cases hlj : j < k
              · obtain ⟨P, HP, p4, p1, p2⟩ := pw_ex' j (by omega)
                cases hbj : n.testBit j
                · have p3 := and_no (n := n) (by omega) (by omega) HP.out hbj
                  have HN := Lib.hid (dpI_skip (d := d) (v := v0) (k := k) hbj)
                  clear hbj p4
                  go_wp2
                  go_roundg (k - (j + 1))
                  case measure => have := HGJ.out; omega
                  case rel => exact ⟨j + 1, by go_num, by omega, by omega, rfl, by rw [HN.out]; exact HS.out⟩
                · clear p4
                  obtain ⟨x, p3, p4, p5⟩ := and_yes' (n := n) (by omega) (by omega) HP.out hbj
                  have HBJ := Lib.hid hbj
                  clear hbj
                  go_upto_region 13 with (fail)
                  clear p3 p4 p5
                  obtain ⟨e1, e2, e3⟩ := wo_facts HB1.out (by omega) HBJ.out
                  obtain ⟨P0, HP0, -, r1, r2⟩ := pw_ex' q (by omega)
                  have o1 := off_yes (n := n) (by omega) (by omega) HP0.out HB1.out
                  obtain ⟨u, hu⟩ : ∃ u, u = wo1 n q := ⟨_, rfl⟩
                  rw [← hu] at e1 e2 e3 o1
                  have o2 := off_yes (n := u) (by omega) (by omega) HP.out e1
                  obtain ⟨m, hm⟩ : ∃ m, m = wo1 u j := ⟨_, rfl⟩
                  rw [← hm] at e3 o2
                  have HU := Lib.hid (show m = wo1 (wo1 n q) j from by rw [hm, hu])
                  clear hu hm e1
                  have hmM : m < M := by omega
                  have s1 := HS.out.2.1.cell hmM
                  obtain ⟨T, hT⟩ : ∃ T, T = (dpI d v0 k n j m).1 := ⟨_, rfl⟩
                  rw [← hT] at s1
                  have hT2 : 0 ≤ T ∧ T ≤ 17592186044416 := by
                    have h := dpI_bd (d := d) (v := v0) (k := k) (fun i j => by rw [HD.out]; exact (hL (jt l i) (jt l j)).1) (by rw [HV.out]; decide) n j m
                    rw [← hT, HV.out] at h
                    exact h
                  rcases H.out.ext HS.out.1 with hf | ⟨b0, off, rfl, hblt, hcl⟩
                  · have := HK.out; rw [hf] at this; simp at this; omega
                  have hqk : q < l.length := by have := HK.out; omega
                  have hjk : j < l.length := by have := HK.out; omega
                  have c1 := hcl q hqk
                  have c2 := hcl j hjk
                  have hx1 := HX.out _ (List.getElem_mem hqk)
                  have hx2 := HX.out _ (List.getElem_mem hjk)
                  have hj1' : jt l q = (l[q]).toNat := by unfold jt; rw [List.getD_eq_getElem?_getD, List.getElem?_eq_getElem hqk]; rfl
                  have hj2' : jt l j = (l[j]).toNat := by unfold jt; rw [List.getD_eq_getElem?_getD, List.getElem?_eq_getElem hjk]; rfl
                  obtain ⟨x, hx⟩ : ∃ x : Nat, (x : Int) = l[q] := ⟨(l[q]).toNat, by omega⟩
                  obtain ⟨y, hy⟩ : ∃ y : Nat, (y : Int) = l[j] := ⟨(l[j]).toNat, by omega⟩
                  rw [← hx] at c1 hx1 hj1'
                  rw [← hy] at c2 hx2 hj2'
                  rw [Int.toNat_natCast] at hj1' hj2'
                  have hx16 : x < 16 := by omega
                  have hy16 : y < 16 := by omega
                  have s2 := (HW.out.below HS.out.1 HW.out.lt).cell (i := x * 16 + y) (by omega)
                  rw [pk_L L F hx16 hy16] at s2
                  obtain ⟨z, hz⟩ : ∃ z, z = L x y := ⟨_, rfl⟩
                  rw [← hz] at s2
                  have hz2 : 0 ≤ z ∧ z ≤ 1099511627776 := by rw [hz]; exact hL x y
                  have HZ := Lib.hid (show d q j = z from by rw [HD.out, hz]; show L (jt l q) (jt l j) = _; rw [hj1', hj2'])
                  have HTT := Lib.hid hT
                  clear hcl hx1 hx2 hx hy hj1' hj2' hT hz
                  go_quiet (fail)
                  rename_i nq
                  have HSn := Lib.hid (show DwS w M a b (dpI d v0 k n j) (wr.drewN nq) from ⟨bdrewN HS.out.1 nq, HS.out.2.1.ext (ext_drewN _ _), HS.out.2.2.ext (ext_drewN _ _)⟩)
                  obtain ⟨V, hV⟩ : ∃ V, V = wr.drewN nq := ⟨_, rfl⟩
                  rw [← hV] at HSn ⊢
                  have s3 := HSn.out.2.1.cell hlt
                  obtain ⟨c, hc⟩ : ∃ c, c = (dpI d v0 k n j n).1 := ⟨_, rfl⟩
                  rw [← hc] at s3
                  have HC := Lib.hid hc
                  have f1 := HSn.out.2.1.frozen n
                  have f2 := HSn.out.2.1.lt
                  have f3 := HSn.out.2.2.frozen n
                  have f4 := HSn.out.2.2.lt
                  have f5 := HSn.out.2.2.cell hlt
                  have hmn : m ≠ n := by omega
                  have HMN := Lib.hid hmn
                  clear s1 s2 c1 c2 o1 o2 p1 p2 r1 r2 hc hV HS hmn
                  by_cases hlt2 : T + z < c
                  · have HN := Lib.hid (dpI_yes (d := d) (v := v0) (k := k) (n := n) (j := j) (by rw [← HQ.out]; omega) HBJ.out (by rw [← HQ.out]; exact HU.out) HMN.out (by rw [← HQ.out, HZ.out, ← HTT.out, ← HC.out]; exact hlt2))
                    go_wp2
                    go_roundg (k - (j + 1))
                    case measure => have := HGJ.out; omega
                    case rel =>
                      refine ⟨j + 1, by go_num, by omega, by omega, rfl, ?_⟩
                      rw [HN.out]
                      refine ⟨(HSn.out.1.setCell (by show w.heap.size ≤ a; omega) _).setCell (by show w.heap.size ≤ b; omega) _, ((HSn.out.2.1.set n _).set_ne hab _).congr (fun s _ => ?_), ((HSn.out.2.2.set_ne (fun e => hab e.symm) _).set n _).congr (fun s _ => ?_)⟩
                      · unfold upd
                        dsimp only
                        by_cases e : s = n
                        · simp only [if_pos e]; rw [← HQ.out, HZ.out, ← HTT.out]
                        · simp only [if_neg e]
                      · unfold upd
                        dsimp only
                        by_cases e : s = n
                        · simp only [if_pos e]
                        · simp only [if_neg e]
                  · have HN := Lib.hid (dpI_no (d := d) (v := v0) (k := k) (n := n) (j := j) (by rw [← HQ.out]; exact HU.out) HMN.out (by rw [← HQ.out, HZ.out, ← HTT.out, ← HC.out]; exact hlt2))
                    go_wp2
                    go_roundg (k - (j + 1))
                    case measure => have := HGJ.out; omega
                    case rel => exact ⟨j + 1, by go_num, by omega, by omega, rfl, by rw [HN.out]; exact HSn.out⟩
              · obtain rfl : j = k := by omega
                have HN := Lib.hid (dpI_end d v0 j (n := n) n1)
                go_wp2
                go_roundg (M - (n + 1))
                case measure => have := HG.out; omega
                case rel => exact ⟨n + 1, by go_num, by omega, by omega, rfl, by rw [← HN.out]; exact HS.out⟩
      · obtain rfl : n = M := by omega
        obtain ⟨M, hMn⟩ : ∃ M, M = n := ⟨_, rfl⟩
        rw [← hMn] at HS HM M1 hM1 ⊢
        clear HG hlt hn hMn n1
        have HE0 := Lib.hid (show ∀ ps', Ext d v0 k (M - 1) ps' → Ext d v0 k (2 ^ k - 1) ([] ++ ps') from fun ps' h => by rw [← HM.out]; exact h)
        have HC0 := Lib.hid (show cntB (M - 1) k % 2 = 0 from by rw [HM.out, cntB_full k k (Nat.le_refl _)]; exact HEV.out)
        have HV0 := Lib.hid (show Vpr w.heap.size wr (.slice none 0 0) (jts l []) from own_nil wr w.heap.size 155 2)
        have hd0 : ∀ i j, i < k → j < k → 0 ≤ d i j ∧ d i j ≤ 655360000 := fun i j hi hj => by
          rw [HD.out]; exact ⟨(hL (jt l i) (jt l j)).1, HDD.out i j hi hj⟩
        have HEVN := Lib.hid (fun s hs he => (dpv_even (d := d) (D := 655360000) (v := v0) (k := k) hd0 (by rw [HV.out]; omega) (by decide) s s (Nat.le_refl _) hs he).2.2)
        clear hd0
        go_wp2
        go_loopg [12, 11] (M - 1) (fun g z o wx => ∃ (s : Nat) (ps : List (Nat × Nat)), z = .int .i64 s ∧ g = s ∧ s < M ∧ cntB s k % 2 = 0 ∧ (∀ ps', Ext d v0 k s ps' → Ext d v0 k (2 ^ k - 1) (ps ++ ps')) ∧ ps.length + s ≤ M ∧ Vpr w.heap.size wx o (jts l ps) ∧ DwS w M a b (dpT d v0 k M) wx)
        case atStart => exact ⟨M - 1, [], by first | rfl | (congr 1; omega), rfl, by omega, HC0.out, HE0.out, by simp, HV0.out, HS.out⟩
        case round =>
          obtain ⟨s, ps, rfl, hg, hs, he, hx, hln, hv, hst⟩ := hrel
          obtain ⟨Ao, co, hov, oc1, oc2, -⟩ := own_cells hv
          rw [jts_len] at hov oc1
          subst hov
          have HG := Lib.hid hg
          have HST := Lib.hid hst
          have HVP := Lib.hid hv
          have HX1 := Lib.hid hx
          have HE := Lib.hid he
          clear hg hst hv hx he HS HE0 HC0 HV0
          by_cases hs0 : 0 < s
          · obtain ⟨b1, b2, b3⟩ := low_exM HM.out hs hs0
            go_wp2
            go_loopg [13] k (fun g i wx => ∃ q : Nat, i = .int .i64 q ∧ q ≤ low k s ∧ g = k - q ∧ wx = wr)
            case atStart => exact ⟨0, rfl, by omega, by omega, rfl⟩
            case round =>
              obtain ⟨q, rfl, hq, hgq, rfl⟩ := hrel
              obtain ⟨P, HP, p4, p1, p2⟩ := pw_ex' q (by omega)
              by_cases hql : q < low k s
              · have p3 := and_no (n := s) (by omega) (by omega) HP.out (b3 q hql)
                go_wp2
                go_roundg (k - (q + 1))
                case measure => omega
                case rel => exact ⟨q + 1, by go_num, by omega, rfl, rfl⟩
              · obtain rfl : q = low k s := by omega
                clear p4
                obtain ⟨x, p3, p4, p5⟩ := and_yes' (n := s) (by omega) (by omega) HP.out b1
                obtain ⟨j, j1, j2, j3, j4, j5, -⟩ := HEVN.out s (by rw [← HM.out]; exact hs) HE.out hs0
                have f1 := HST.out.2.2.cell (i := s) hs
                have f3 := HST.out.2.2.lt
                rw [dpT_old d v0 k M s hs, show dpT d v0 k (s + 1) s = dpv d v0 k s from rfl, j4] at f1
                have HB1 := Lib.hid b1
                have HJ3 := Lib.hid j3
                have HJ44 := Lib.hid j4
                have HJ5 := Lib.hid j5
                clear b1 b3 j3 j4 j5
                obtain ⟨q, hq'⟩ : ∃ q, q = low k s := ⟨_, rfl⟩
                rw [← hq'] at HB1 HP b2 p1 p2 hq hql hgq j2 HJ5 ⊢
                have HQ := Lib.hid hq'
                clear hq'
                go_upto_region 23 with (fail)
                clear p3 p4 p5 f1 f3 hq hql hgq
                rcases H.out.ext HST.out.1 with hf | ⟨b0, off, rfl, hblt, hcl⟩
                · have := HK.out; rw [hf] at this; simp at this; omega
                have hqk : q < l.length := by have := HK.out; omega
                have hjk : j < l.length := by have := HK.out; omega
                have hcq := hcl q hqk
                have hcj := hcl j hjk
                have hx1 := HX.out _ (List.getElem_mem hqk)
                have hx2 := HX.out _ (List.getElem_mem hjk)
                have hj1' : jt l q = (l[q]).toNat := by unfold jt; rw [List.getD_eq_getElem?_getD, List.getElem?_eq_getElem hqk]; rfl
                have hj2' : jt l j = (l[j]).toNat := by unfold jt; rw [List.getD_eq_getElem?_getD, List.getElem?_eq_getElem hjk]; rfl
                obtain ⟨x, hx⟩ : ∃ x : Nat, (x : Int) = l[q] := ⟨(l[q]).toNat, by omega⟩
                obtain ⟨y, hy⟩ : ∃ y : Nat, (y : Int) = l[j] := ⟨(l[j]).toNat, by omega⟩
                rw [← hx] at hcq hx1 hj1'
                rw [← hy] at hcj hx2 hj2'
                rw [Int.toNat_natCast] at hj1' hj2'
                have HJJ := Lib.hid (show jt l q = x ∧ jt l j = y from ⟨hj1', hj2'⟩)
                have hb0w : b0 < w.heap.size := by
                  rcases H.out with hf | ⟨b1, off1, e, hb1, -⟩
                  · have := HK.out; rw [hf] at this; simp at this; omega
                  · injection e with e; injection e with e; omega
                clear hcl hx1 hx2 hx hy hj1' hj2'
                have HR23 := Lib.hid (fun (W : World) (hS : Below w.heap.size wr W) => (show W.cell? ⟨b0, off + q, none⟩ = some (.int .i64 (x : Int)) ∧ W.cell? ⟨b0, off + j, none⟩ = some (.int .i64 (y : Int)) from
                  ⟨(hS.cell (p := ⟨b0, _, none⟩) hb0w).trans hcq, (hS.cell (p := ⟨b0, _, none⟩) hb0w).trans hcj⟩))
                have HW23 := Lib.hid (show Below w.heap.size wr wr.drew from (Below.refl _ _).mono HST.out.1.size |>.trans ((ext_drew wr).mono HST.out.1.size))
                clear hcq hcj
                have HO23 := Lib.hid (show Vpr w.heap.size ((wr.alloc (.cells #[.int .i64 (x : Int), .int .i64 (y : Int)] 155)).drew) (.slice Ao ps.length co) (jts l ps) from own_ext HVP.out (ext_trans (ext_alloc wr _) (ext_drew _)))
                have HN23 := Lib.hid (show (jts l ps).length + 1 ≤ maxLen ∧ ((jts l ps).length + 1) * 16 ≤ 140737488355328 from by rw [jts_len]; exact ⟨by unfold maxLen; omega, by omega⟩)
                have HZ23 := Lib.hid (show w.heap.size ≤ ((wr.alloc (.cells #[.int .i64 (x : Int), .int .i64 (y : Int)] 155)).drew).heap.size from by have := HST.out.1.size; simp; omega)
                have HK10 := Lib.hid (show Below w.heap.size wr ((wr.alloc (.cells #[.int .i64 (x : Int), .int .i64 (y : Int)] 155)).drew) from (ext_trans (ext_alloc wr _) (ext_drew _)).mono HST.out.1.size)
                have HK11 := Lib.hid (fun (w' : World) (hg : ((wr.alloc (.cells #[.int .i64 (x : Int), .int .i64 (y : Int)] 155)).drew).grownBy w' (Value.slice Ao ps.length co).ownBlock) => (show Below w.heap.size wr w' from
                  HK10.out.grown hg (by have := HST.out.1.size; simp; omega) (fun k hk => (own_lt HVP.out k hk).1)))
                obtain ⟨i0, hi0, hz0, hz1, hz2⟩ := info_parts info_pair
                refine wp_region_T (S := fun W => Below w.heap.size wr W) 12 (by kernel_rfl) (HW23.out) (fun hHeld => ?_)
                refine wpAnyT_take (i := 0) (v := ?v1) [] rfl (by kernel_rfl) (fun _ _ _ h => h) (Or.inl ⟨by rfl, ?hy1⟩) hHeld ?rst1
                case hy1 => (intro wx hSw; obtain ⟨q1, q2⟩ := HR23.out wx hSw; go_simp; try (with_reducible rfl))
                try simp only [List.getElem_toArray, List.getElem_cons_zero, Act.put, List.setIfInBounds_toArray, List.set_cons_zero, List.set_cons_succ]
                refine wpAnyT_take (i := 1) (v := ?v2) [] rfl (by kernel_rfl) (fun _ _ _ h => h) (Or.inl ⟨by rfl, ?hy2⟩) hHeld ?rst2
                case hy2 => (intro wx hSw; obtain ⟨q1, q2⟩ := HR23.out wx hSw; go_simp; try (with_reducible rfl))
                try simp only [List.getElem_toArray, List.getElem_cons_zero, List.getElem_cons_succ, Act.put, List.setIfInBounds_toArray, List.set_cons_zero, List.set_cons_succ]
                refine wpAnyT_take (i := 2) (v := ?v3) [] rfl (by kernel_rfl) (fun _ _ _ h => h) (Or.inl ⟨by rfl, ?hy3⟩) hHeld ?rst3
                case hy3 => (intro wx hSw; obtain ⟨q1, q2⟩ := HR23.out wx hSw; go_simp; try (with_reducible rfl))
                try simp only [List.getElem_toArray, List.getElem_cons_zero, List.getElem_cons_succ, Act.put, List.setIfInBounds_toArray, List.set_cons_zero, List.set_cons_succ]
                refine wpAnyT_take (i := 3) (v := ?v4) [] rfl (by kernel_rfl) (fun _ _ _ h => h) (Or.inl ⟨by rfl, ?hy4⟩) hHeld ?rst4
                case hy4 => (intro wx hSw; obtain ⟨q1, q2⟩ := HR23.out wx hSw; go_simp; try (with_reducible rfl))
                try simp only [List.getElem_toArray, List.getElem_cons_zero, List.getElem_cons_succ, Act.put, List.setIfInBounds_toArray, List.set_cons_zero, List.set_cons_succ]
                refine wpAnyT_take (i := 4) (v := ?v5) [] rfl (by kernel_rfl) (fun _ _ _ h => h) (Or.inl ⟨by rfl, ?hy5⟩) hHeld ?rst5
                case hy5 => (intro wx hSw; obtain ⟨q1, q2⟩ := HR23.out wx hSw; go_simp; try (with_reducible rfl))
                try simp only [List.getElem_toArray, List.getElem_cons_zero, List.getElem_cons_succ, Act.put, List.setIfInBounds_toArray, List.set_cons_zero, List.set_cons_succ]
                refine wpAnyT_take (i := 5) (v := ?v6) [] rfl (by kernel_rfl) (fun _ _ _ h => h) (Or.inl ⟨by rfl, ?hy6⟩) hHeld ?rst6
                case hy6 => (intro wx hSw; obtain ⟨q1, q2⟩ := HR23.out wx hSw; go_simp; try (with_reducible rfl))
                try simp only [List.getElem_toArray, List.getElem_cons_zero, List.getElem_cons_succ, Act.put, List.setIfInBounds_toArray, List.set_cons_zero, List.set_cons_succ]
                refine wpAnyT_take (i := 6) (v := ?v7) [] rfl (by kernel_rfl) (fun _ _ _ h => h) (Or.inl ⟨by rfl, ?hy7⟩) hHeld ?rst7
                case hy7 => (intro wx hSw; obtain ⟨q1, q2⟩ := HR23.out wx hSw; go_simp; try (with_reducible rfl))
                try simp only [List.getElem_toArray, List.getElem_cons_zero, List.getElem_cons_succ, Act.put, List.setIfInBounds_toArray, List.set_cons_zero, List.set_cons_succ]
                refine wpAnyT_take (i := 7) (v := ?v8) [] rfl (by kernel_rfl) (fun _ _ _ h => h) (Or.inl ⟨by rfl, ?hy8⟩) hHeld ?rst8
                case hy8 => (intro wx hSw; obtain ⟨q1, q2⟩ := HR23.out wx hSw; go_simp; try (with_reducible rfl))
                try simp only [List.getElem_toArray, List.getElem_cons_zero, List.getElem_cons_succ, Act.put, List.setIfInBounds_toArray, List.set_cons_zero, List.set_cons_succ]
                refine wpAnyT_take (i := 8) (v := ?v9) [] rfl (by kernel_rfl) (fun _ _ _ h => h) (Or.inl ⟨by rfl, ?hy9⟩) hHeld ?rst9
                case hy9 => (intro wx hSw; obtain ⟨q1, q2⟩ := HR23.out wx hSw; go_simp; try (with_reducible rfl))
                try simp only [List.getElem_toArray, List.getElem_cons_zero, List.getElem_cons_succ, Act.put, List.setIfInBounds_toArray, List.set_cons_zero, List.set_cons_succ]
                refine wpAnyT_take (i := 9) (v := ?v10) [] rfl (by kernel_rfl) (fun _ _ _ h => h) (Or.inl ⟨by rfl, ?hy10⟩) hHeld ?rst10
                case hy10 => (intro wx hSw; obtain ⟨q1, q2⟩ := HR23.out wx hSw; go_simp; try (with_reducible rfl))
                try simp only [List.getElem_toArray, List.getElem_cons_zero, List.getElem_cons_succ, Act.put, List.setIfInBounds_toArray, List.set_cons_zero, List.set_cons_succ]
                refine wpAnyT_one (i := 10) (by kernel_rfl) rfl (fun K hK => ?_)
                go_simp
                refine hK.out _ _ (HK10.out) (fun hHeld => ?_)
                clear hK K
                try simp only [List.getElem_toArray, List.getElem_cons_zero, List.getElem_cons_succ, Act.put, List.setIfInBounds_toArray, List.set_cons_zero, List.set_cons_succ]
                refine wpAnyT_one (i := 11) (by kernel_rfl) rfl (fun K hK => ?_)
                refine step_append_lies _ (by rfl) _ _ _ (by rfl) w.heap.size 155 i0 _ 2 16 Try.underlying153 hi0 hz0 hz1 hz2 rfl (by omega) (.slice Ao ps.length co) (jts l ps).length (prC (jts l ps)) (by rfl) HO23.out ⟨wr.heap.size, 0, none⟩ 1 1 [.int .i64 (x : Int), .int .i64 (y : Int)] (by rfl) (by rfl) (World.news_of_block (cs := #[.int .i64 (x : Int), .int .i64 (y : Int)]) (t := 155) (fr := (0, 0)) (heap_alloc_new _ _)) (by simp [Value.oneCell']) (by omega) HN23.out.1 HN23.out.2 HZ23.out (wr.heap.size + 1) (by simp) ?_
                intro gg23 cap23 w23 hown23 hgrow23 hat23 hlt23
                refine hK.out _ _ (HK11.out _ hgrow23) (fun hHeld => ?_)
                clear hK K
                try simp only [List.getElem_toArray, List.getElem_cons_zero, List.getElem_cons_succ, Act.put, List.setIfInBounds_toArray, List.set_cons_zero, List.set_cons_succ]
                refine wpAnyT_last (by kernel_rfl) (by kernel_rfl) rfl (fun K hK => ?_)
                go_simp
                refine hK.out _ _ ?_
                clear hK K
                have hdw := HST.out.grow HVP.out (by decide) (ext_trans (ext_alloc wr (.cells #[.int .i64 (x : Int), .int .i64 (y : Int)] 155)) (ext_drew _)) hgrow23
                have hvp2 : Vpr w.heap.size w23 (.slice (some ⟨gg23, 0, none⟩) (ps ++ [(q, j)]).length cap23) (jts l (ps ++ [(q, j)])) := by
                  have h := hown23
                  have e1 : jts l (ps ++ [(q, j)]) = jts l ps ++ [(x, y)] := by
                    obtain ⟨e1, e2⟩ := HJJ.out
                    unfold jts
                    rw [List.map_append, List.map_cons, List.map_nil, e1, e2]
                  have e2 : prC (jts l ps ++ [(x, y)]) = prC (jts l ps) ++ [.int .i64 (x : Int), .int .i64 (y : Int)] := by
                    unfold prC
                    rw [List.flatMap_append]; rfl
                  unfold Vpr
                  rw [e1, e2, List.length_append, List.length_append, jts_len]
                  rw [jts_len] at h
                  exact h
                have HST2 := Lib.hid hdw
                have HVP2 := Lib.hid hvp2
                rw [show (jts l ps).length + 1 = (ps ++ [(q, j)]).length from by simp [jts_len]]
                clear hdw hvp2 hown23 hgrow23 hat23 hlt23 hHeld
                obtain ⟨Q, HQ2, -, r1, r2⟩ := pw_ex' j (by omega)
                obtain ⟨X, x1, x2⟩ := or_off (n := s) (by omega) (by omega) (by omega) (by omega) HP.out HQ2.out HB1.out HJ3.out
                obtain ⟨-, e2, e3⟩ := wo_facts HB1.out (by omega) HJ3.out
                have HE2 := Lib.hid (show cntB (wo1 (wo1 s q) j) k % 2 = 0 from by
                  have h1 := cntB_off HB1.out k
                  have h2 := cntB_off (wo_facts HB1.out (by omega) HJ3.out).1 k
                  have h3 := HE.out
                  rw [if_pos b2] at h1
                  rw [if_pos j1] at h2
                  omega)
                have HX2 := Lib.hid (show ∀ ps', Ext d v0 k (wo1 (wo1 s q) j) ps' → Ext d v0 k (2 ^ k - 1) ((ps ++ [(q, j)]) ++ ps') from fun ps' h => by
                  rw [List.append_assoc]
                  exact HX1.out _ (.cons hs0 HQ.out HJ44.out.symm j2 j1 HB1.out HJ3.out HJ5.out h))
                obtain ⟨u, hu⟩ : ∃ u, u = wo1 (wo1 s q) j := ⟨_, rfl⟩
                rw [← hu] at x2 e3 HE2 HX2
                have hus : u < s := by omega
                clear hu e2 e3
                go_wp2
                go_quiet (fail)
                rename_i nq
                go_wp2
                go_roundg u
                case measure => have := HG.out; omega
                case rel => exact ⟨u, ps ++ [(q, j)], rfl, rfl, by omega, HE2.out, HX2.out, by simp; omega, own_ext HVP2.out (ext_drewN _ _), bdrewN HST2.out.1 nq, HST2.out.2.1.ext (ext_drewN _ _), HST2.out.2.2.ext (ext_drewN _ _)⟩
          · obtain rfl : s = 0 := by omega
            have HFE := Lib.hid (HX1.out [] .nil)
            go_wp2
            go_ret
            have h := HFE.out
            rw [List.append_nil, HD.out, HV.out] at h
            exact ⟨_, ps, rfl, HVP.out, h, HST.out.1⟩
end Go.Proofs.Ytbhjhajnhpohlaa
