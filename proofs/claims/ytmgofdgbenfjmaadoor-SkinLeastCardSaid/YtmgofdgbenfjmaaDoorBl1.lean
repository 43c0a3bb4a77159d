/- Texts joined: TrP, Bl, Trs. Conditions: see each. -/
import Derived.Test.YtmgofdgbenfjmaaDoorDv1
import Derived.Test.YtmgofdgbenfjmaaDoorTu1
import Derived.Test.YtmgofdgbenfjmaaDoorFu1
namespace Go.Proofs.YtmgofdgbenfjmaaDoor
open Go.RowKit

/-- the cells that are left, numbered row by row -/
def uD (d : Nat → Bool) (w H : Nat) (x y : Int) : Bool := decide (0 ≤ x ∧ x < w ∧ 0 ≤ y ∧ y < H) && d (y * w + x).toNat
def allD (d : Nat → Bool) (w a b h : Nat) : Bool := (List.range h).all fun y => (List.range b).all fun x => d (a + y * w + x)
def restD (d : Nat → Bool) (w a b h : Nat) (k : Nat) : Bool := d k && !(decide (a / w ≤ k / w ∧ k / w < a / w + h ∧ a % w ≤ k % w ∧ k % w < a % w + b))
def trP (w N : Nat) : Nat → (Nat → Bool) → Bool
  | 0, d => ((List.range N).find? d).isNone
  | n + 1, d => match (List.range N).find? d with
    | none => true
    | some a => (List.range N).any fun h => decide (a + h * w < N) && (List.range w).any fun b => decide (a % w + (b + 1) ≤ w) && (allD d w a (b + 1) (h + 1) && trP w N n (restD d w a (b + 1) (h + 1)))
section
variable {w H : Nat} {d : Nat → Bool}
theorem pos_div {w : Nat} (hw : 0 < w) {x y : Nat} (hx : x < w) : (y * w + x) / w = y ∧ (y * w + x) % w = x := by
  rw [Nat.mul_comm]
  exact ⟨by rw [Nat.mul_add_div hw, Nat.div_eq_of_lt hx]; rfl, by rw [Nat.mul_add_mod, Nat.mod_eq_of_lt hx]⟩
theorem uD_nat (x y : Nat) (hx : x < w) (hy : y < H) : uD d w H x y = d (y * w + x) := by
  unfold uD
  rw [decide_eq_true (by omega), Bool.true_and]
  congr 1
theorem uD_in {x y : Int} (h : uD d w H x y = true) : ∃ i j : Nat, x = i ∧ y = j ∧ i < w ∧ j < H ∧ d (j * w + i) = true := by
  have h1 : 0 ≤ x ∧ x < w ∧ 0 ≤ y ∧ y < H := by
    unfold uD at h
    rw [Bool.and_eq_true] at h
    exact of_decide_eq_true h.1
  obtain ⟨i, hi⟩ : ∃ i : Nat, x = i := ⟨x.toNat, by omega⟩
  obtain ⟨j, hj⟩ : ∃ j : Nat, y = j := ⟨y.toNat, by omega⟩
  subst hi; subst hj
  refine ⟨i, j, rfl, rfl, by omega, by omega, ?_⟩
  exact (uD_nat (w := w) (H := H) (d := d) i j (by omega) (by omega)).symm.trans h
theorem idx_lt {w H x y : Nat} (hx : x < w) (hy : y < H) : y * w + x < w * H := by
  have : (y + 1) * w ≤ H * w := Nat.mul_le_mul_right _ hy
  rw [Nat.add_mul] at this
  rw [Nat.mul_comm w H]; omega
theorem find_some {N a : Nat} (h : (List.range N).find? d = some a) : a < N ∧ d a = true ∧ ∀ k, k < a → d k = false := by
  have h1 := List.find?_range_eq_some.1 h
  exact ⟨List.mem_range.1 h1.2.1, h1.1, fun k hk => by simpa using h1.2.2 k hk⟩
/-- what is left behind a box -/
theorem uD_rest (hw : 0 < w) {a b h : Nat} (x y : Int) : uD (restD d w a b h) w H x y = (uD d w H x y && !inB ⟨(a % w : Nat), (a / w : Nat), (a % w : Nat) + (b : Int) - 1, (a / w : Nat) + (h : Int) - 1⟩ x y) := by
  by_cases hin : 0 ≤ x ∧ x < w ∧ 0 ≤ y ∧ y < H
  · obtain ⟨i, hi⟩ : ∃ i : Nat, x = i := ⟨x.toNat, by omega⟩
    obtain ⟨j, hj⟩ : ∃ j : Nat, y = j := ⟨y.toNat, by omega⟩
    subst hi; subst hj
    rw [uD_nat i j (by omega) (by omega), uD_nat i j (by omega) (by omega)]
    obtain ⟨e1, e2⟩ := pos_div hw (x := i) (y := j) (by omega)
    unfold restD inB
    rw [e1, e2]
    congr 2
    generalize a / w = p
    generalize a % w = q
    by_cases hc : p ≤ j ∧ j < p + h ∧ q ≤ i ∧ i < q + b
    · rw [decide_eq_true hc, decide_eq_true (by show (q : Int) ≤ i ∧ (i : Int) ≤ q + b - 1 ∧ (p : Int) ≤ j ∧ (j : Int) ≤ p + h - 1; omega)]
    · rw [decide_eq_false hc, decide_eq_false (by show ¬ ((q : Int) ≤ i ∧ (i : Int) ≤ q + b - 1 ∧ (p : Int) ≤ j ∧ (j : Int) ≤ p + h - 1); omega)]
  · unfold uD
    rw [decide_eq_false hin]; rfl
theorem Dv.nodup {u : Int → Int → Bool} {l : List Bx} (hd : Dv u l) : l.Nodup := List.pairwise_iff_forall_sublist.2 fun {b c} hs e => by
  have hb := hd.ok b (hs.subset (by simp))
  have hin : inB b b.x0 b.y0 = true := inB_iff.2 (by omega)
  exact List.pairwise_iff_forall_sublist.1 hd.dis hs _ _ hin (by rw [← e]; exact hin)
/-- a division without one of its boxes -/
theorem Dv.drop {u v : Int → Int → Bool} {l : List Bx} (hd : Dv u l) {b : Bx} (hb : b ∈ l) (hv : ∀ x y, v x y = (u x y && !inB b x y)) : Dv v (l.erase b) := by
  have hn := hd.nodup
  refine ⟨fun c hc => hd.ok c (List.mem_of_mem_erase hc), fun x y => ?_, hd.dis.sublist List.erase_sublist⟩
  rw [hv, Bool.and_eq_true, Bool.not_eq_true']
  constructor
  · rintro ⟨h1, h2⟩
    obtain ⟨c, hc, hin⟩ := (hd.cov x y).1 h1
    exact ⟨c, (hn.mem_erase_iff).2 ⟨(fun e => by rw [e, h2] at hin; cases hin), hc⟩, hin⟩
  · rintro ⟨c, hc, hin⟩
    obtain ⟨h1, h2⟩ := (hn.mem_erase_iff).1 hc
    refine ⟨(hd.cov x y).2 ⟨c, h2, hin⟩, ?_⟩
    cases hi : inB b x y with
    | false => rfl
    | true => exact (h1 (hd.uniq h2 hb hin hi)).elim
theorem Dv.cons {u v : Int → Int → Bool} {l : List Bx} (hd : Dv v l) {b : Bx} (ho : b.x0 ≤ b.x1 ∧ b.y0 ≤ b.y1) (hb : ∀ x y, inB b x y = true → u x y = true) (hv : ∀ x y, v x y = (u x y && !inB b x y)) : Dv u (b :: l) := by
  refine ⟨fun c hc => ?_, fun x y => ?_, List.pairwise_cons.2 ⟨fun c hc x y h1 h2 => ?_, hd.dis⟩⟩
  · rcases List.mem_cons.1 hc with rfl | hc
    · exact ho
    · exact hd.ok c hc
  · constructor
    · intro hu
      cases hi : inB b x y with
      | true => exact ⟨b, by simp, hi⟩
      | false =>
        obtain ⟨c, hc, hin⟩ := (hd.cov x y).1 (by rw [hv, hu, hi]; rfl)
        exact ⟨c, by simp [hc], hin⟩
    · rintro ⟨c, hc, hin⟩
      rcases List.mem_cons.1 hc with rfl | hc
      · exact hb x y hin
      · have := (hd.cov x y).2 ⟨c, hc, hin⟩
        rw [hv, Bool.and_eq_true] at this
        exact this.1
  · have := (hd.cov x y).2 ⟨c, hc, h2⟩
    rw [hv, h1] at this
    simp at this
theorem dv_empty (hw : 0 < w) (h : ∀ k, k < w * H → d k = false) : Dv (uD d w H) [] := by
  refine ⟨(fun b hb => nomatch hb), fun x y => ⟨fun hu => ?_, fun ⟨b, hb, _⟩ => nomatch hb⟩, List.Pairwise.nil⟩
  obtain ⟨i, j, _, _, h1, h2, h3⟩ := uD_in hu
  rw [h _ (idx_lt h1 h2)] at h3; cases h3
theorem find_none {N : Nat} (h : (List.range N).find? d = none) : ∀ k, k < N → d k = false := fun k hk => by
  have := List.find?_eq_none.1 h k (List.mem_range.2 hk)
  simpa using this
theorem find_dv {l : List Bx} (hd : Dv (uD d w H) l) {a : Nat} (ha : (List.range (w * H)).find? d = some a) (hw : 0 < w) : uD d w H (a % w : Nat) (a / w : Nat) = true ∧ a / w < H ∧ a % w < w := by
  obtain ⟨h1, h2, _⟩ := find_some ha
  have h3 : a / w < H := Nat.div_lt_of_lt_mul h1
  have h4 := Nat.mod_lt a hw
  refine ⟨?_, h3, h4⟩
  rw [uD_nat _ _ h4 h3, Nat.mul_comm, Nat.div_add_mod]; exact h2
/-- the search finds a division of at most n boxes if there is one -/
theorem tr_iff (hw : 0 < w) : ∀ (n : Nat) (d : Nat → Bool), trP w (w * H) n d = true ↔ ∃ l, Dv (uD d w H) l ∧ l.length ≤ n
  | 0, d => by
    rw [trP]
    constructor
    · intro h
      exact ⟨[], dv_empty hw (find_none (by simpa using h)), Nat.le_refl _⟩
    · rintro ⟨l, hd, hl⟩
      have e : l = [] := List.eq_nil_of_length_eq_zero (by omega)
      subst e
      cases hf : (List.range (w * H)).find? d with
      | none => rfl
      | some a =>
        obtain ⟨b, hb, _⟩ := (hd.cov _ _).1 (find_dv hd hf hw).1
        cases hb
  | n + 1, d => by
    rw [trP]
    cases hf : (List.range (w * H)).find? d with
    | none => exact ⟨fun _ => ⟨[], dv_empty hw (find_none hf), by simp⟩, fun _ => rfl⟩
    | some a =>
      obtain ⟨h1, h2, h3⟩ := find_some hf
      have h4 := Nat.mod_lt a hw
      have h5 : a / w < H := Nat.div_lt_of_lt_mul h1
      have h6 : a / w * w + a % w = a := by rw [Nat.mul_comm]; exact Nat.div_add_mod a w
      dsimp only
      rw [List.any_eq_true]
      constructor
      · rintro ⟨h, hh, e⟩
        rw [Bool.and_eq_true, List.any_eq_true] at e
        obtain ⟨e1, b, hb, e2⟩ := e
        rw [Bool.and_eq_true, Bool.and_eq_true] at e2
        obtain ⟨e2, e3, e4⟩ := e2
        have e1 := of_decide_eq_true e1
        have e2 := of_decide_eq_true e2
        obtain ⟨l, hl, hn⟩ := (tr_iff hw n _).1 e4
        refine ⟨_ :: l, hl.cons (b := ⟨(a % w : Nat), (a / w : Nat), (a % w : Nat) + ((b + 1 : Nat) : Int) - 1, (a / w : Nat) + ((h + 1 : Nat) : Int) - 1⟩) ?_ (fun x y hin => ?_) (fun x y => uD_rest hw x y), by simp; omega⟩
        · show ((a % w : Nat) : Int) ≤ (a % w : Nat) + ((b + 1 : Nat) : Int) - 1 ∧ ((a / w : Nat) : Int) ≤ (a / w : Nat) + ((h + 1 : Nat) : Int) - 1
          omega
        · obtain ⟨k1, k2, k3, k4⟩ := inB_iff.1 hin
          have k1 : ((a % w : Nat) : Int) ≤ x := k1
          have k2 : x ≤ (a % w : Nat) + ((b + 1 : Nat) : Int) - 1 := k2
          have k3 : ((a / w : Nat) : Int) ≤ y := k3
          have k4 : y ≤ (a / w : Nat) + ((h + 1 : Nat) : Int) - 1 := k4
          obtain ⟨i, hi⟩ : ∃ i : Nat, x = ((a % w + i : Nat) : Int) := ⟨(x - (a % w : Nat)).toNat, by omega⟩
          obtain ⟨j, hj⟩ : ∃ j : Nat, y = ((a / w + j : Nat) : Int) := ⟨(y - (a / w : Nat)).toNat, by omega⟩
          subst hi; subst hj
          have hH : a / w + h < H := by
            have h7 : (a / w + h) * w + a % w < w * H := by rw [Nat.add_mul]; omega
            refine Nat.lt_of_not_le fun hle => ?_
            have := Nat.mul_le_mul_right w hle
            rw [Nat.mul_comm w H] at h7; omega
          rw [uD_nat _ _ (by omega) (by omega)]
          have e5 := List.all_eq_true.1 e3 j (List.mem_range.2 (by omega))
          have e6 := List.all_eq_true.1 e5 i (List.mem_range.2 (by omega))
          have e7 : (a / w + j) * w + (a % w + i) = a + j * w + i := by rw [Nat.add_mul]; omega
          rw [e7]; exact e6
      · rintro ⟨l, hd, hn⟩
        obtain ⟨g1, _, _⟩ := find_dv hd hf hw
        obtain ⟨B, hB, hin⟩ := (hd.cov _ _).1 g1
        obtain ⟨k1, k2, k3, k4⟩ := inB_iff.1 hin
        have cor : ∀ i j, inB B i j = true → uD d w H i j = true := fun i j hi => (hd.cov i j).2 ⟨B, hB, hi⟩
        obtain ⟨i0, j0, ex, ey, hi0, hj0, hd0⟩ := uD_in (cor B.x0 B.y0 (inB_iff.2 (by have := hd.ok B hB; omega)))
        obtain ⟨i1, j1, ex1, ey1, hi1, hj1, _⟩ := uD_in (cor B.x1 B.y1 (inB_iff.2 (by have := hd.ok B hB; omega)))
        have hge : a ≤ j0 * w + i0 := Nat.le_of_not_lt fun hlt => by rw [h3 _ hlt] at hd0; cases hd0
        have hj : j0 = a / w := by
          have : j0 ≤ a / w := by omega
          rcases Nat.lt_or_ge j0 (a / w) with hlt | hge'
          · have := Nat.mul_le_mul_right w (show j0 + 1 ≤ a / w from hlt)
            rw [Nat.add_mul] at this; omega
          · omega
        have hi : i0 = a % w := by
          have : i0 ≤ a % w := by omega
          subst hj; omega
        have eB : B = ⟨(a % w : Nat), (a / w : Nat), (a % w : Nat) + ((i1 - a % w + 1 : Nat) : Int) - 1, (a / w : Nat) + ((j1 - a / w + 1 : Nat) : Int) - 1⟩ := by
          have : B.x0 = ((a % w : Nat) : Int) := by omega
          have : B.y0 = ((a / w : Nat) : Int) := by omega
          have : B.x1 = (a % w : Nat) + ((i1 - a % w + 1 : Nat) : Int) - 1 := by omega
          have : B.y1 = (a / w : Nat) + ((j1 - a / w + 1 : Nat) : Int) - 1 := by omega
          cases B; simp_all
        have hdrop := hd.drop hB (v := uD (restD d w a (i1 - a % w + 1) (j1 - a / w + 1)) w H) fun x y => by rw [uD_rest hw]; rw [← eB]
        have hlen : (l.erase B).length + 1 = l.length := by
          have := List.length_pos_of_mem hB
          rw [List.length_erase_of_mem hB]; omega
        have hNw := idx_lt (w := w) (H := H) h4 hj1
        have hjN : j1 - a / w < w * H := by
          have : H ≤ w * H := Nat.le_mul_of_pos_left H hw
          omega
        refine ⟨j1 - a / w, List.mem_range.2 hjN, ?_⟩
        rw [Bool.and_eq_true, List.any_eq_true]
        refine ⟨decide_eq_true ?_, i1 - a % w, List.mem_range.2 (by omega), ?_⟩
        · have e : a + (j1 - a / w) * w = j1 * w + a % w := by
            have : (a / w + (j1 - a / w)) * w = j1 * w := by rw [show a / w + (j1 - a / w) = j1 by omega]
            rw [Nat.add_mul] at this; omega
          rw [e]; exact hNw
        · rw [Bool.and_eq_true, Bool.and_eq_true]
          refine ⟨decide_eq_true (by omega), ?_, (tr_iff hw n _).2 ⟨_, hdrop, by omega⟩⟩
          unfold allD
          rw [List.all_eq_true]
          intro y hy
          rw [List.all_eq_true]
          intro x hx
          rw [List.mem_range] at hy hx
          have := cor ((a % w + x : Nat) : Int) ((a / w + y : Nat) : Int) (inB_iff.2 (by omega))
          rw [uD_nat _ _ (by omega) (by omega)] at this
          have e7 : (a / w + y) * w + (a % w + x) = a + y * w + x := by rw [Nat.add_mul]; omega
          rw [e7] at this; exact this
end

/-- block g holds n bools -/
def Bo (g n : Nat) (d : Nat → Bool) (w : World) : Prop := ∃ T cs, Bk T w g cs ∧ ∀ i, i < n → cs[i]? = some (.bool (d i))
section
variable {g n : Nat} {d : Nat → Bool} {w w' : World}
theorem Bo.lt (h : Bo g n d w) : g < w.heap.size := by obtain ⟨T, cs, h, _⟩ := h; exact h.lt
theorem Bo.keep (h : Bo g n d w) (hk : w'.heap[g]? = w.heap[g]?) : Bo g n d w' := by obtain ⟨T, cs, h, h2⟩ := h; exact ⟨T, cs, hk.trans h, h2⟩
theorem Bo.ext (h : Bo g n d w) (hb : Below w.heap.size w w') : Bo g n d w' := h.keep (hb.block g h.lt)
theorem Bo.cell (h : Bo g n d w) {i : Nat} (hi : i < n) : w.cell? ⟨g, i, none⟩ = some (.bool (d i)) := by obtain ⟨T, cs, h, h2⟩ := h; exact (h.cell i).trans (h2 i hi)
theorem Bo.frozen (h : Bo g n d w) (i : Nat) : w.frozen? ⟨g, i, none⟩ = false := by obtain ⟨T, cs, h, h2⟩ := h; exact h.frozen i
theorem Bo.set (h : Bo g n d w) {i : Nat} (hi : i < n) (v : Bool) : Bo g n (fun k => if k = i then v else d k) (w.setCell ⟨g, i, none⟩ (.bool v)) := by
  obtain ⟨T, cs, h, h2⟩ := h
  refine ⟨T, _, h.set i (.bool v), fun k hk => ?_⟩
  have hlt : i < cs.size := by
    have := h2 i hi
    exact (Array.getElem?_eq_some_iff.1 this).1
  by_cases e : k = i
  · subst e
    show _ = some (Value.bool (if k = k then v else d k))
    rw [if_pos rfl]
    simp [hlt]
  · show _ = some (Value.bool (if k = i then v else d k))
    rw [if_neg e, Array.getElem?_setIfInBounds_ne (Ne.symm e)]
    exact h2 k hk
theorem Bo.set_ne (h : Bo g n d w) {k j : Nat} (hk : g ≠ k) (y : Value) : Bo g n d (w.setCell ⟨k, j, none⟩ y) := h.keep (Below.heap_setCell _ _ _ _ hk)
theorem Bo.congr {e : Nat → Bool} (h : Bo g n d w) (he : ∀ i, i < n → d i = e i) : Bo g n e w := by obtain ⟨T, cs, h, h2⟩ := h; exact ⟨T, cs, h, fun i hi => by rw [← he i hi]; exact h2 i hi⟩
end
/-- the first true one's place, or -1 -/
def idxV (n : Nat) (d : Nat → Bool) : Int := match (List.range n).find? d with | none => -1 | some a => (a : Int)
theorem info_boolb : (Tryd.prog.info? 4).map (fun i => (i.zero, i.size, i.bytes)) = some (some (.bool false), 1, 1) := by kernel_rfl
theorem some_nilb (W : World) (a : Addr) (n c : Nat) : (binOp .eql 58 (.slice (some a) n c) (.slice none 0 0)).run Tryd.prog W = .ok (.bool false) W := by kernel_rfl
set_option maxRecDepth 100000 in
set_option maxHeartbeats 2000000 in
theorem cloneb_any (b n cap : Nat) (d : Nat → Bool) (w : World) (h1 : 1 ≤ n) (h48 : n ≤ 1000) (h : Bo b n d w) :
    Calls Tryd.prog 75 #[.slice (some ⟨b, 0, none⟩) n cap] w fun e w' => ∃ g c, e = .returned (.slice (some ⟨g, 0, none⟩) n c) ∧ Below w.heap.size w w' ∧ w.heap.size ≤ g ∧ Bo g n d w' := by
  have hsn := some_nilb
  have hx := ext_alloc w (.cells #[] 4)
  have HX := Lib.hid hx
  have HOW := Lib.hid (show (w.alloc (.cells #[] 4)).ownsRow w.heap.size 4 1 (.slice (some ⟨w.heap.size, 0, none⟩) 0 0) 0 [] from own_new (news := []) (m := 0) rfl (by decide) (Nat.le_refl _) rfl)
  have HN := Lib.hid (show ∀ (j : Nat) u, ((List.range n).map fun i => Value.bool (d i))[j]? = some u → (w.alloc (.cells #[] 4)).cell? ((⟨b, 0, none⟩ : Addr).add j) = some u from fun j u hu => by
    have hj : j < n := by
      have := (List.getElem?_eq_some_iff.1 hu).1
      simpa using this
    have e : (⟨b, 0, none⟩ : Addr).add j = ⟨b, j, none⟩ := by
      simp only [Addr.add]
      split <;> simp_all
    rw [e, hx.cell (p := ⟨b, j, none⟩) h.lt, h.cell hj]
    rw [List.getElem?_map, List.getElem?_range hj] at hu
    exact hu)
  obtain ⟨i, hi, hz, hsz, hby⟩ := info_parts info_boolb
  have HI := Lib.hid (And.intro hi (And.intro hz (And.intro hsz hby)))
  clear hx h hi hz hsz hby
  go_enter Tryd.func75, Tryd.ntmps75
  go_wp2_with (at_builtin; refine wpList_append_own _ rfl _ _ 58 rfl w.heap.size 4 i (.bool false) 1 1 Tryd.underlying58 HI.out.1 HI.out.2.1 HI.out.2.2.1 HI.out.2.2.2 rfl (by decide) _ 0 [] (by rfl) HOW.out ⟨b, 0, none⟩ n cap ((List.range n).map fun i => Value.bool (d i)) (by rfl) (by simp) HN.out (by intro u hu; obtain ⟨s, _, rfl⟩ := List.mem_map.1 hu; rfl) (by unfold maxLen; omega) (by omega) (by simp) ?_; intro v' w' hv hgr _; have HV := Lib.hid hv; have HGR := Lib.hid hgr; clear hv hgr)
  have hv := HV.out
  rw [Nat.zero_add, List.nil_append] at hv
  obtain ⟨A, c, hv2, k1, k2, k3⟩ := own_cells hv
  obtain ⟨q1, q2⟩ := hv
  rcases k3 with k3 | ⟨g, rfl, hb, hg, hcl⟩
  · omega
  rcases q2 with ⟨rfl, _⟩ | ⟨g2, c2, cur, rfl, hg2, hh, hr⟩
  · cases hv2
  injection hv2 with e1 e2 e3
  injection e1 with e1
  injection e1 with e1
  subst e1
  subst e3
  go_ret
  refine ⟨g2, c2, rfl, ((Below.refl _ w).alloc (Nat.le_refl _) _).grown HGR.out (by simp) (fun k hk => by injection hk with hk; simp at hk; omega), hg2, 4, cur, hh, fun j hj => ?_⟩
  rw [← Bk.cell (show Bk 4 _ g2 cur from hh) j]
  exact hcl j _ (by rw [List.getElem?_map, List.getElem?_range hj]; rfl)
set_option maxRecDepth 100000 in
set_option maxHeartbeats 4000000 in
/-- the first true one -/
theorem indexb_any (b n cap : Nat) (d : Nat → Bool) (w : World) (hn : n ≤ 1000000) (h : Bo b n d w) :
    Calls Tryd.prog 74 #[.slice (some ⟨b, 0, none⟩) n cap, .bool true] w fun e w' => e = .returned (.int .i64 (idxV n d)) ∧ Below w.heap.size w w' := by
  have H := Lib.hid h
  have HF : ∀ k, k < n → d k = true → (∀ j, j < k → d j = false) → idxV n d = (k : Int) := fun k hk h1 h2 => by
    unfold idxV
    rw [show (List.range n).find? d = some k from ?_]
    rw [List.find?_range_eq_some]
    exact ⟨h1, List.mem_range.2 hk, fun j hj => by simp [h2 j hj]⟩
  have HF := Lib.hid HF
  clear h
  go_enter Tryd.func74, Tryd.ntmps74
  go_wp2
  go_loopg [8] n (fun g i wr => ∃ k : Nat, i = .int .i64 k ∧ k ≤ n ∧ g = n - k ∧ Below w.heap.size w wr ∧ ∀ j, j < k → d j = false)
  case atStart => exact ⟨0, rfl, by omega, by omega, Below.refl _ _, fun j hj => by omega⟩
  case round =>
    obtain ⟨k, rfl, hk, hg, hb, hnot⟩ := hrel
    have HG := Lib.hid hg
    have HN := Lib.hid hnot
    have HB := Lib.hid hb
    clear hg hnot
    by_cases hlt : k < n
    · have c1 := (H.out.ext hb).cell hlt
      have hbl := (H.out.ext hb).lt
      obtain ⟨y, hy⟩ : ∃ y, y = d k := ⟨_, rfl⟩
      rw [← hy] at c1
      have HY := Lib.hid hy.symm
      clear hy hb
      cases y with
      | true =>
        go_wp2
        go_ret
        exact ⟨by rw [HF.out k hlt HY.out HN.out]; rfl, HB.out⟩
      | false =>
        go_wp2
        go_roundg (n - (k + 1))
        case measure => have := HG.out; omega
        case rel => exact ⟨k + 1, by go_num, by omega, rfl, HB.out, fun j hj => by
          by_cases e : j = k
          · rw [e]; exact HY.out
          · exact HN.out j (by omega)⟩
    · obtain rfl : k = n := by omega
      have HE := Lib.hid (show idxV k d = -1 from by unfold idxV; rw [show (List.range k).find? d = none from List.find?_eq_none.2 fun j hj => by simp [HN.out j (List.mem_range.1 hj)]])
      go_wp2
      go_ret
      exact ⟨by rw [HE.out]; rfl, HB.out⟩

theorem rest_iff {w a b h k : Nat} (hw : 0 < w) (hb : a % w + b ≤ w) : (∃ yy xx, yy < h ∧ xx < b ∧ k = a + yy * w + xx) ↔ (a / w ≤ k / w ∧ k / w < a / w + h ∧ a % w ≤ k % w ∧ k % w < a % w + b) := by
  have e0 := Nat.div_add_mod a w
  constructor
  · rintro ⟨yy, xx, h1, h2, rfl⟩
    have e : a + yy * w + xx = (a / w + yy) * w + (a % w + xx) := by
      rw [Nat.add_mul, Nat.mul_comm (a / w) w]; omega
    obtain ⟨p, q⟩ := pos_div hw (show a % w + xx < w by omega) (y := a / w + yy)
    rw [e, p, q]; omega
  · rintro ⟨h1, h2, h3, h4⟩
    refine ⟨k / w - a / w, k % w - a % w, by omega, by omega, ?_⟩
    have e1 := Nat.div_add_mod k w
    obtain ⟨t, ht⟩ : ∃ t, k / w = a / w + t := ⟨k / w - a / w, by omega⟩
    rw [ht] at e1 ⊢
    rw [Nat.mul_add] at e1
    rw [show a / w + t - a / w = t by omega, Nat.mul_comm t w]
    omega
theorem idx_b {w H a k y x : Nat} (ha : a + k * w < w * H) (hx : a % w + x < w) (hy : y ≤ k) : a + y * w + x < w * H := by
  have e0 := Nat.div_add_mod a w
  have h1 : y * w ≤ k * w := Nat.mul_le_mul_right _ hy
  have e : a + k * w + x = (a / w + k) * w + (a % w + x) := by
    rw [Nat.add_mul, Nat.mul_comm (a / w) w]; omega
  have h2 : (a / w + k) * w < H * w := by rw [Nat.add_mul, Nat.mul_comm (a / w) w, Nat.mul_comm H w]; omega
  have h3 := Nat.lt_of_mul_lt_mul_right h2
  have h4 : (a / w + k + 1) * w ≤ H * w := Nat.mul_le_mul_right _ h3
  rw [Nat.add_mul, Nat.one_mul, Nat.mul_comm H w] at h4
  omega
/-- one try: the rectangle of b + 1 by h + 1 cells from cell a on -/
def canT (w N n : Nat) (d : Nat → Bool) (a h b : Nat) : Bool := allD d w a (b + 1) (h + 1) && trP w N n (restD d w a (b + 1) (h + 1))
theorem trP_none {w N : Nat} {n : Nat} {d : Nat → Bool} (h : (List.range N).find? d = none) : trP w N n d = true := by
  cases n with
  | zero => rw [trP, h]; rfl
  | succ n => rw [trP, h]
theorem trP_zero {w N a : Nat} {d : Nat → Bool} (h : (List.range N).find? d = some a) : trP w N 0 d = false := by rw [trP, h]; rfl
theorem trP_yes {w N n a k j : Nat} {d : Nat → Bool} (h : (List.range N).find? d = some a) (hk : k < N) (h1 : a + k * w < N) (h2 : a % w + (j + 1) ≤ w) (h3 : canT w N n d a k j = true) : trP w N (n + 1) d = true := by
  rw [trP, h]
  show (List.range N).any _ = true
  refine List.any_eq_true.2 ⟨k, List.mem_range.2 hk, ?_⟩
  rw [Bool.and_eq_true]
  refine ⟨by simpa using h1, List.any_eq_true.2 ⟨j, List.mem_range.2 (by omega), ?_⟩⟩
  rw [Bool.and_eq_true]
  exact ⟨by simpa using h2, h3⟩
theorem trP_no {w N n a : Nat} {d : Nat → Bool} (h : (List.range N).find? d = some a) (h3 : ∀ k j, a + k * w < N → a % w + (j + 1) ≤ w → canT w N n d a k j = false) : trP w N (n + 1) d = false := by
  rw [trP, h]
  show (List.range N).any _ = false
  rw [Bool.eq_false_iff]
  intro h4
  obtain ⟨k, hk, h5⟩ := List.any_eq_true.1 h4
  rw [Bool.and_eq_true] at h5
  obtain ⟨j, hj, h6⟩ := List.any_eq_true.1 h5.2
  rw [Bool.and_eq_true] at h6
  have := h3 k j (by simpa using h5.1) (by simpa using h6.1)
  unfold canT at this
  rw [this] at h6
  cases h6.2
set_option maxRecDepth 100000 in
set_option maxHeartbeats 8000000 in
theorem tries_any {w H : Nat} (hw : 1 ≤ w) (hw2 : w ≤ 48) (hN1 : 1 ≤ w * H) (hN : w * H ≤ 1000) : ∀ (n : Nat), n ≤ 1000 → ∀ (b cap : Nat) (d : Nat → Bool) (W : World), Bo b (w * H) d W →
    Calls Tryd.prog 35 #[.slice (some ⟨b, 0, none⟩) (w * H) cap, .int .i64 (w : Int), .int .i64 (n : Int)] W fun e w' => e = .returned (.bool (trP w (w * H) n d)) ∧ Below W.heap.size W w' := by
  intro n
  induction n with
  | zero =>
    intro _ b cap d W h
    have HI := Lib.hid (indexb_any b (w * H) cap d W (by omega) h)
    obtain ⟨N, hNN⟩ : ∃ N, N = w * H := ⟨_, rfl⟩
    rw [← hNN] at HI hN hN1 ⊢
    clear hNN
    cases hf : (List.range N).find? d with
    | none =>
      have HT := Lib.hid (trP_none (w := w) (n := 0) hf)
      rw [show idxV N d = -1 from by unfold idxV; rw [hf]] at HI
      clear hf
      try clear h
      go_enter Tryd.func35, Tryd.ntmps35
      go_wp2_with (go_at_call 74; refine (HI.out).mono ?_; rintro e w1 ⟨rfl, hx1⟩)
      go_ret
      exact ⟨by rw [HT.out]; rfl, hx1⟩
    | some a =>
      have HT := Lib.hid (trP_zero (w := w) hf)
      have ha0 : ¬ (a : Int) < 0 := by omega
      rw [show idxV N d = (a : Int) from by unfold idxV; rw [hf]] at HI
      clear hf
      try clear h
      go_enter Tryd.func35, Tryd.ntmps35
      go_wp2_with (go_at_call 74; refine (HI.out).mono ?_; rintro e w1 ⟨rfl, hx1⟩)
      go_ret
      exact ⟨by rw [HT.out]; rfl, hx1⟩
  | succ n ih =>
    intro hn b cap d W h
    have HI := Lib.hid (indexb_any b (w * H) cap d W (by omega) h)
    have HIH := Lib.hid (ih (by omega))
    have HCL := Lib.hid (fun c (W' : World) (hb : Bo b (w * H) d W') => cloneb_any b (w * H) c d W' hN1 hN hb)
    have HBO := Lib.hid h
    have HIB := Lib.hid (fun a k y x => idx_b (w := w) (H := H) (a := a) (k := k) (y := y) (x := x))
    obtain ⟨N, hNN⟩ : ∃ N, N = w * H := ⟨_, rfl⟩
    rw [← hNN] at HI HIH HCL HBO HIB hN hN1 ⊢
    obtain ⟨m, hm⟩ : ∃ m, m = n + 1 := ⟨_, rfl⟩
    have hm1 : (m : Int) - 1 = (n : Int) := by omega
    have hm2 : 1 ≤ (m : Int) ∧ (m : Int) ≤ 1000 := by omega
    rw [show ((n + 1 : Nat) : Int) = (m : Int) by omega]
    clear ih h hNN hm
    cases hf : (List.range N).find? d with
    | none =>
      have HT := Lib.hid (trP_none (w := w) (n := n + 1) hf)
      rw [show idxV N d = -1 from by unfold idxV; rw [hf]] at HI
      clear hf
      go_enter Tryd.func35, Tryd.ntmps35
      go_wp2_with (go_at_call 74; refine (HI.out).mono ?_; rintro e w1 ⟨rfl, hx1⟩)
      go_ret
      exact ⟨by rw [HT.out]; rfl, hx1⟩
    | some a =>
      have HF := Lib.hid hf
      have haN := (find_some hf).1
      have hm0 : ((m : Int) == 0) = false := by simp; omega
      rw [show idxV N d = (a : Int) from by unfold idxV; rw [hf]] at HI
      clear hf
      go_enter Tryd.func35, Tryd.ntmps35
      go_wp2_with (go_at_call 74; refine (HI.out).mono ?_; rintro e w1 ⟨rfl, hx1⟩; have HX1 := Lib.hid hx1; clear hx1)
      go_loopg [8] N (fun gg z wr => ∃ k h : Nat, z = .int .i64 h ∧ h = k + 1 ∧ k ≤ N ∧ gg = N - k ∧ Below W.heap.size W wr ∧ ∀ k' j, k' < k → a + k' * w < N → a % w + (j + 1) ≤ w → canT w N n d a k' j = false)
      case atStart => exact ⟨0, 1, rfl, rfl, by omega, by omega, HX1.out, fun k' j hk => by omega⟩
      case round =>
        obtain ⟨k, h, rfl, hhk, hk, hgg, hb, hno⟩ := hrel
        have HG := Lib.hid hgg
        have HB := Lib.hid hb
        have HNO := Lib.hid hno
        have HHK := Lib.hid hhk
        have hh1 : (h : Int) - 1 = (k : Int) := by omega
        have hh2 : 1 ≤ (h : Int) ∧ (h : Int) ≤ 1001 := by omega
        obtain ⟨q, hq⟩ : ∃ q, q = k * w := ⟨_, rfl⟩
        have hqb : q ≤ 48000 := by rw [hq]; exact Nat.le_trans (Nat.mul_le_mul hk hw2) (by omega)
        have hqi : (k : Int) * (w : Int) = (q : Int) := by rw [hq]; push_cast; rfl
        have HQ := Lib.hid hq
        clear hgg hb hno hhk hq HI HX1
        by_cases hlt : a + q < N
        · have hlti : (a : Int) + (q : Int) < (N : Int) := by omega
          have hkN : k < N := by
            have h1 := HQ.out
            have h2 : k * 1 ≤ k * w := Nat.mul_le_mul_left _ hw
            omega
          go_upto_region 9 with (fail)
          obtain ⟨r, hr⟩ : ∃ r, r = a % w := ⟨_, rfl⟩
          have hrw : r < w := by rw [hr]; exact Nat.mod_lt a hw
          have hrm : (a : Int).tmod (w : Int) = (r : Int) := by rw [hr]; exact (Int.ofNat_tmod a w).symm
          have HR := Lib.hid hr
          have hw0 : ¬ (w : Int) = 0 := by omega
          clear hr
          go_wp2_with (fail)
          go_loopg [9] w (fun gg z wr => ∃ j c : Nat, z = .int .i64 c ∧ c = j + 1 ∧ j ≤ w ∧ gg = w - j ∧ Below W.heap.size W wr ∧ ∀ j', j' < j → a % w + (j' + 1) ≤ w → canT w N n d a k j' = false)
          case atStart => exact ⟨0, 1, rfl, rfl, by omega, by omega, HB.out, fun j' hj => by omega⟩
          case round =>
            obtain ⟨j, c, rfl, hcj, hj, hgg, hb2, hnj⟩ := hrel
            have HG2 := Lib.hid hgg
            have HB2 := Lib.hid hb2
            have HNJ := Lib.hid hnj
            have HCJ := Lib.hid hcj
            have hc2 : 1 ≤ (c : Int) ∧ (c : Int) ≤ 50 := by omega
            clear hgg hb2 hnj hcj HB
            by_cases hcw : r + c ≤ w
            · have hcwi : (r : Int) + (c : Int) ≤ (w : Int) := by omega
              go_upto_region 13 with (go_at_call 75; refine (HCL.out _ _ (HBO.out.ext HB2.out)).mono ?_; rintro e w2 ⟨R, cR, rfl, hx2, hR, hbo⟩; have HRB := Lib.hid hbo; have HRW := Lib.hid hR; have HX2 := Lib.hid hx2; clear hx2 hR hbo)
              have HX3 := Lib.hid (ext_trans HB2.out HX2.out)
              have HRN := Lib.hid (show b < R ∧ W.heap.size ≤ R from by have h1 := HRW.out; have h2 := HB2.out.size; have h3 := (HBO.out.ext HB2.out).lt; omega)
              have HBW := Lib.hid (HBO.out.ext HX3.out)
              clear HB2 HX2 HRW
              go_wp2_with (fail)
              go_loopg [43, 11] h (fun gg z v wr => ∃ y : Nat, ∃ is : Bool, z = .int .i64 y ∧ v = .bool is ∧ y ≤ h ∧ gg = h - y ∧ is = allD d w a c y ∧ Below W.heap.size W wr ∧ Bo b N d wr ∧ ∃ f, Bo R N f wr ∧ ∀ i, f i = true ↔ d i = true ∧ ¬ ∃ yy xx, yy < y ∧ xx < c ∧ i = a + yy * w + xx)
              case atStart => exact ⟨0, true, rfl, rfl, by omega, by omega, rfl, HX3.out, HBW.out, d, HRB.out, fun i => ⟨fun hi => ⟨hi, fun ⟨yy, xx, h1, _⟩ => by omega⟩, fun hi => hi.1⟩⟩
              case round =>
                obtain ⟨y, is, rfl, rfl, hy, hgg, his, hbx, hbb, f, hrb, hff⟩ := hrel
                have HG4 := Lib.hid hgg
                have HIS := Lib.hid his
                have HBX := Lib.hid hbx
                have HBB := Lib.hid hbb
                have HRF := Lib.hid hrb
                have HFF := Lib.hid hff
                clear hgg his hbx hbb hrb hff HX3 HBW HRB
                by_cases hyh : y < h
                · have hyi : (y : Int) < (h : Int) := by omega
                  obtain ⟨q2, hq2⟩ : ∃ q2, q2 = y * w := ⟨_, rfl⟩
                  have hqb2 : q2 ≤ 48048 := by rw [hq2]; exact Nat.le_trans (Nat.mul_le_mul (show y ≤ 1001 by omega) hw2) (by omega)
                  have hqi2 : (y : Int) * (w : Int) = (q2 : Int) := by rw [hq2]; push_cast; rfl
                  have HQ2 := Lib.hid hq2
                  have HBD := Lib.hid (show ∀ x, x < c → a + q2 + x < N from fun x hx => by
                    rw [hq2]
                    have h1 := HQ.out
                    have h2 := HR.out
                    have h3 := HHK.out
                    exact HIB.out a k y x (by omega) (by omega) (by omega))
                  clear hq2
                  go_wp2_with (fail)
                  go_loopg [47, 11] c (fun gg z v wr => ∃ x : Nat, ∃ is' : Bool, z = .int .i64 x ∧ v = .bool is' ∧ x ≤ c ∧ gg = c - x ∧ is' = (allD d w a c y && (List.range x).all fun x => d (a + y * w + x)) ∧ Below W.heap.size W wr ∧ Bo b N d wr ∧ ∃ f, Bo R N f wr ∧ ∀ i, f i = true ↔ d i = true ∧ ¬ ∃ yy xx, (yy < y ∧ xx < c ∨ yy = y ∧ xx < x) ∧ i = a + yy * w + xx)
                  case atStart => exact ⟨0, is, rfl, rfl, by omega, by omega, by rw [HIS.out]; simp, HBX.out, HBB.out, f, HRF.out, fun i => by
                    rw [HFF.out i]
                    constructor
                    · rintro ⟨h1, h2⟩
                      exact ⟨h1, fun ⟨yy, xx, h3, h4⟩ => h2 ⟨yy, xx, by omega, by omega, h4⟩⟩
                    · rintro ⟨h1, h2⟩
                      exact ⟨h1, fun ⟨yy, xx, h3, h4, h5⟩ => h2 ⟨yy, xx, .inl ⟨h3, h4⟩, h5⟩⟩⟩
                  case round =>
                    obtain ⟨x, is', rfl, rfl, hx, hgg, his, hbx, hbb, f, hrb, hff⟩ := hrel
                    have HG5 := Lib.hid hgg
                    have HIS2 := Lib.hid his
                    have HBX2 := Lib.hid hbx
                    have HBB2 := Lib.hid hbb
                    have HRF2 := Lib.hid hrb
                    have HFF2 := Lib.hid hff
                    clear hgg his hbx hbb hrb hff HIS HBX HBB HRF HFF
                    by_cases hxc : x < c
                    · have hxi : (x : Int) < (c : Int) := by omega
                      have hin := HBD.out x hxc
                      obtain ⟨i0, hi0⟩ : ∃ i0, i0 = a + q2 + x := ⟨_, rfl⟩
                      have hii : (a : Int) + (q2 : Int) + (x : Int) = (i0 : Int) := by omega
                      rw [← hi0] at hin
                      have HI0 := Lib.hid (show i0 = a + y * w + x from by rw [hi0, HQ2.out])
                      clear hi0
                      have c1 := HBB2.out.cell hin
                      have c2 := HRF2.out.cell hin
                      have c3 := HRF2.out.frozen i0
                      have cb1 := HBB2.out.lt
                      have cb2 := HRF2.out.lt
                      have HSET := Lib.hid (HRF2.out.set hin false)
                      have HSX := Lib.hid (show Below W.heap.size W (wr.setCell ⟨R, i0, none⟩ (.bool false)) from HBX2.out.setCell HRN.out.2 _)
                      have HSB := Lib.hid (show Bo b N d (wr.setCell ⟨R, i0, none⟩ (.bool false)) from HBB2.out.set_ne (by have := HRN.out; omega) _)
                      obtain ⟨dv, hdv⟩ : ∃ dv, dv = d i0 := ⟨_, rfl⟩
                      rw [← hdv] at c1
                      have HE := Lib.hid (show (is' && dv) = (allD d w a c y && (List.range (x + 1)).all fun x => d (a + y * w + x)) from by
                        rw [List.range_succ, List.all_append, HIS2.out, hdv, HI0.out]; simp [Bool.and_assoc])
                      have HE2 := Lib.hid (show ∀ i, (if i = i0 then false else f i) = true ↔ d i = true ∧ ¬ ∃ yy xx, (yy < y ∧ xx < c ∨ yy = y ∧ xx < x + 1) ∧ i = a + yy * w + xx from fun i => by
                        by_cases e : i = i0
                        · rw [if_pos e]
                          constructor
                          · intro h; cases h
                          · rintro ⟨_, h2⟩
                            exact absurd ⟨y, x, .inr ⟨rfl, by omega⟩, by rw [e]; exact HI0.out⟩ h2
                        · rw [if_neg e, HFF2.out i]
                          constructor
                          · rintro ⟨h1, h2⟩
                            refine ⟨h1, fun ⟨yy, xx, h3, h4⟩ => ?_⟩
                            rcases h3 with h3 | ⟨rfl, h3⟩
                            · exact h2 ⟨yy, xx, .inl h3, h4⟩
                            · by_cases e2 : xx = x
                              · subst e2; exact e (by rw [h4, HI0.out])
                              · exact h2 ⟨yy, xx, .inr ⟨rfl, by omega⟩, h4⟩
                          · rintro ⟨h1, h2⟩
                            exact ⟨h1, fun ⟨yy, xx, h3, h4⟩ => h2 ⟨yy, xx, by omega, h4⟩⟩)
                      clear hdv
                      cases is' with
                      | true =>
                        go_wp2
                        go_roundg (c - (x + 1))
                        case measure => have := HG5.out; omega
                        case rel => exact ⟨x + 1, dv, by go_num, rfl, by omega, rfl, by rw [← HE.out]; rfl, HSX.out, HSB.out, _, HSET.out, HE2.out⟩
                      | false =>
                        go_wp2
                        go_roundg (c - (x + 1))
                        case measure => have := HG5.out; omega
                        case rel => exact ⟨x + 1, false, by go_num, rfl, by omega, rfl, by rw [← HE.out]; rfl, HSX.out, HSB.out, _, HSET.out, HE2.out⟩
                    · obtain rfl : x = c := by omega
                      go_wp2
                      go_roundg (h - (y + 1))
                      case measure => have := HG4.out; omega
                      case rel => exact ⟨y + 1, is', by go_num, rfl, by omega, rfl, by rw [HIS2.out]; unfold allD; rw [List.range_succ, List.all_append]; simp, HBX2.out, HBB2.out, f, HRF2.out, fun i => by
                        rw [HFF2.out i]
                        constructor
                        · rintro ⟨h1, h2⟩
                          exact ⟨h1, fun ⟨yy, xx, h3, h4, h5⟩ => h2 ⟨yy, xx, by omega, h5⟩⟩
                        · rintro ⟨h1, h2⟩
                          exact ⟨h1, fun ⟨yy, xx, h3, h5⟩ => h2 ⟨yy, xx, by omega, by omega, h5⟩⟩⟩
                · obtain rfl : y = h := by omega
                  have HRD := Lib.hid (show Bo R N (restD d w a c y) wr from HRF.out.congr fun i hi => by
                    rw [Bool.eq_iff_iff, HFF.out i, restD]
                    rw [rest_iff (a := a) (k := i) (h := y) (b := c) (w := w) (by omega) (by have := HR.out; omega)]
                    rw [Bool.and_eq_true, Bool.not_eq_true', decide_eq_false_iff_not])
                  have HCAN := Lib.hid (show canT w N n d a k j = (is && trP w N n (restD d w a c y)) from by
                    unfold canT; rw [HIS.out, HCJ.out, HHK.out])
                  have HIX := Lib.hid (HIH.out R cR _ wr HRD.out)
                  obtain ⟨tv, htv⟩ : ∃ tv, tv = trP w N n (restD d w a c y) := ⟨_, rfl⟩
                  rw [← htv] at HCAN HIX
                  clear htv
                  cases is with
                  | true =>
                    cases tv with
                    | true =>
                      have HT := Lib.hid (trP_yes (w := w) (n := n) (j := j) HF.out hkN (by have := HQ.out; omega) (by have h1 := HR.out; have h2 := HCJ.out; omega) HCAN.out)
                      go_wp2_with (go_at_call 35; refine (HIX.out).mono ?_; rintro e w3 ⟨rfl, hx3⟩)
                      go_ret
                      exact ⟨by rw [HT.out]; rfl, ext_trans HBX.out hx3⟩
                    | false =>
                      go_wp2_with (go_at_call 35; refine (HIX.out).mono ?_; rintro e w3 ⟨rfl, hx3⟩; have HX4 := Lib.hid (ext_trans HBX.out hx3); clear hx3)
                      go_roundg (w - (j + 1))
                      case measure => have h1 := HG2.out; have h2 := HCJ.out; omega
                      case rel => exact ⟨j + 1, c + 1, by go_num, by have := HCJ.out; omega, by have := HCJ.out; omega, rfl, HX4.out, fun j' h1 h2 => by
                        by_cases e : j' = j
                        · subst e; exact HCAN.out
                        · exact HNJ.out j' (by omega) h2⟩
                  | false =>
                    go_wp2
                    go_roundg (w - (j + 1))
                    case measure => have h1 := HG2.out; have h2 := HCJ.out; omega
                    case rel => exact ⟨j + 1, c + 1, by go_num, by have := HCJ.out; omega, by have := HCJ.out; omega, rfl, HBX.out, fun j' h1 h2 => by
                      by_cases e : j' = j
                      · subst e; exact HCAN.out
                      · exact HNJ.out j' (by omega) h2⟩
            · have hcwi : ¬ (r : Int) + (c : Int) ≤ (w : Int) := by omega
              go_wp2
              go_roundg (N - (k + 1))
              case measure => have := HG.out; omega
              case rel => exact ⟨k + 1, h + 1, by go_num, by have := HHK.out; omega, by omega, rfl, HB2.out, fun k' j' h1 h2 h3 => by
                by_cases e : k' = k
                · subst e
                  have h4 := HR.out
                  have h5 := HCJ.out
                  exact HNJ.out j' (by omega) h3
                · exact HNO.out k' j' (by omega) h2 h3⟩
        · have hlti : ¬ (a : Int) + (q : Int) < (N : Int) := by omega
          have HT := Lib.hid (trP_no (w := w) (n := n) HF.out (fun k' j h1 h2 => HNO.out k' j (by
            by_cases hc : k' < k
            · exact hc
            · have h3 : k * w ≤ k' * w := Nat.mul_le_mul_right _ (by omega)
              have h4 := HQ.out
              omega) h1 h2))
          go_wp2
          go_ret
          exact ⟨by rw [HT.out]; rfl, HB.out⟩
end Go.Proofs.YtmgofdgbenfjmaaDoor
