/- Texts joined: TbP, Tb, Tc. Conditions: see each. -/
import Derived.Test.YtmgofdgbenfjmaaDoorPs
import Derived.Test.YtmgofdgbenfjmaaDoorRc1
import Derived.Deep.RegionHeld3
import Derived.StillTailTactics
import Derived.Test.YtmgofdgbenfjmaaDoorAw1
import Derived.Test.YtmgofdgbenfjmaaDoorRg
import Derived.Test.YtmgofdgbenfjmaaDoorGok
namespace Go.Proofs.YtmgofdgbenfjmaaDoor
open Go.RowKit

/-- usable cells of row y left of x -/
def rcn (l : List ByteArray) (g : Int) (y : Nat) : Nat → Int
  | 0 => 0
  | x + 1 => rcn l g y x + if usb l g ((x : Int), (y : Int)) then 1 else 0
/-- usable cells above y and left of x -/
def tab (l : List ByteArray) (g : Int) (x : Nat) : Nat → Int
  | 0 => 0
  | y + 1 => tab l g x y + rcn l g y x
theorem rcn_bd (l : List ByteArray) (g : Int) (y : Nat) : ∀ x, 0 ≤ rcn l g y x ∧ rcn l g y x ≤ x
  | 0 => by simp [rcn]
  | x + 1 => by
    have h := rcn_bd l g y x
    unfold rcn
    split <;> omega
theorem tab_bd (l : List ByteArray) (g : Int) {x : Nat} (hx : x ≤ 48) : ∀ y, 0 ≤ tab l g x y ∧ tab l g x y ≤ 48 * y
  | 0 => by simp [tab]
  | y + 1 => by
    have h := tab_bd l g hx y
    have h2 := rcn_bd l g y x
    unfold tab
    omega
theorem tab_zero (l : List ByteArray) (g : Int) : ∀ y, tab l g 0 y = 0
  | 0 => rfl
  | y + 1 => by unfold tab; rw [tab_zero]; rfl
/-- usable cells of a row from x on, k of them -/
def rct (l : List ByteArray) (g : Int) (y x k : Nat) : Int := rcn l g y (x + k) - rcn l g y x
/-- usable cells of a rectangle -/
def cnt (l : List ByteArray) (g : Int) (x y a : Nat) : Nat → Int
  | 0 => 0
  | b + 1 => cnt l g x y a b + rct l g (y + b) x a
theorem cnt_tab (l : List ByteArray) (g : Int) (x y a : Nat) : ∀ b, cnt l g x y a b = tab l g (x + a) (y + b) - tab l g x (y + b) - tab l g (x + a) y + tab l g x y
  | 0 => by simp only [cnt, Nat.add_zero]; omega
  | b + 1 => by
    have h := cnt_tab l g x y a b
    have e : y + (b + 1) = (y + b) + 1 := by omega
    rw [e]
    simp only [cnt, tab]
    rw [h]
    unfold rct
    omega
theorem rct_zero (l : List ByteArray) (g : Int) (y x : Nat) : rct l g y x 0 = 0 := by unfold rct; rw [Nat.add_zero]; omega
theorem rct_succ (l : List ByteArray) (g : Int) (y x k : Nat) : rct l g y x (k + 1) = rct l g y x k + if usb l g (((x + k : Nat) : Int), (y : Int)) then 1 else 0 := by
  unfold rct
  have e : x + (k + 1) = (x + k) + 1 := by omega
  rw [e]
  rw [show rcn l g y (x + k + 1) = rcn l g y (x + k) + if usb l g (((x + k : Nat) : Int), (y : Int)) then 1 else 0 from rfl]
  omega
theorem rct_bd (l : List ByteArray) (g : Int) (y x : Nat) : ∀ k, 0 ≤ rct l g y x k ∧ rct l g y x k ≤ k
  | 0 => by rw [rct_zero]; omega
  | k + 1 => by
    have h := rct_bd l g y x k
    rw [rct_succ]
    split <;> omega
theorem cnt_bd (l : List ByteArray) (g : Int) (x y : Nat) {a : Nat} (ha : a ≤ 48) : ∀ b, 0 ≤ cnt l g x y a b ∧ cnt l g x y a b ≤ 48 * b
  | 0 => by simp [cnt]
  | b + 1 => by
    have h := cnt_bd l g x y ha b
    have h2 := rct_bd l g (y + b) x a
    unfold cnt
    omega

def rowV (n r : Nat) : Value := .slice (some ⟨r, 0, none⟩) (n + 1) (n + 1)
/-- the table's block q: its rows are blocks of their own -/
def TbS (n h : Nat) (l : List ByteArray) (g : Int) (base q y : Nat) (w : World) : Prop :=
  ∃ (v : Value) (rs : List Nat), Bk 96 w q #[.int .i64 n, .int .i64 h, v] ∧ w.ownsRow base 64 1 v rs.length (rs.map (rowV n)) ∧ rs.length = y + 1 ∧ ∀ j (hj : j < rs.length), base ≤ rs[j] ∧ Ow 3 rs[j] (n + 1) (fun x => tab l g x j) w
section
variable {n h : Nat} {l : List ByteArray} {g : Int} {base q y : Nat} {w w' : World}
theorem TbS.ext (k : TbS n h l g base q y w) (hb : Below w.heap.size w w') : TbS n h l g base q y w' := by
  obtain ⟨v, rs, h1, h2, h3, h4⟩ := k
  exact ⟨v, rs, h1.ext hb, own_ext h2 hb, h3, fun j hj => ⟨(h4 j hj).1, (h4 j hj).2.ext hb⟩⟩
theorem TbS.lt (k : TbS n h l g base q y w) : q < w.heap.size := by
  obtain ⟨v, rs, h1, _⟩ := k; exact h1.lt
/-- what the table holds, cell by cell -/
theorem TbS.read (k : TbS n h l g base q y w) : ∃ (b cap : Nat) (r : Nat → Nat), Bk 96 w q #[.int .i64 n, .int .i64 h, .slice (some ⟨b, 0, none⟩) (y + 1) cap] ∧ y + 1 ≤ cap ∧ cap ≤ maxLen ∧ b < w.heap.size ∧
    ∀ j, j ≤ y → w.cell? ⟨b, j, none⟩ = some (.slice (some ⟨r j, 0, none⟩) (n + 1) (n + 1)) ∧ r j < w.heap.size ∧ ∀ x, x ≤ n → w.cell? ⟨r j, x, none⟩ = some (.int .i64 (tab l g x j)) := by
  obtain ⟨v, rs, h1, h2, h3, h4⟩ := k
  obtain ⟨A, cap, hv, k1, k2, k3⟩ := own_cells h2
  rcases k3 with k3 | ⟨b, rfl, _, hb, hc⟩
  · omega
  · refine ⟨b, cap, fun j => rs.getD j 0, ?_, by omega, k2, hb, fun j hj => ?_⟩
    · rw [hv, h3] at h1; exact h1
    · have hjl : j < rs.length := by omega
      have e : rs.getD j 0 = rs[j] := by simp [List.getD, List.getElem?_eq_getElem hjl]
      simp only [e]
      exact ⟨hc j (rowV n rs[j]) (by simp [List.getElem?_eq_getElem hjl]), (h4 j hjl).2.lt, fun x hx => (h4 j hjl).2.cell (by omega)⟩
theorem TbS.base_le {base' : Nat} (k : TbS n h l g base q y w) (hb : base' ≤ base) : TbS n h l g base' q y w := by
  obtain ⟨v, rs, h1, h2, h3, h4⟩ := k
  exact ⟨v, rs, h1, own_base h2 hb, h3, fun j hj => ⟨Nat.le_trans hb (h4 j hj).1, (h4 j hj).2⟩⟩
end
theorem Bk.ne_type {T T' : TypeId} {w : World} {g g' : Nat} {cs cs' : Array Value} (h : Bk T w g cs) (h' : Bk T' w g' cs') (hT : T ≠ T') : g ≠ g' := by
  intro e
  subst e
  have h2 := h.symm.trans h'
  injection h2 with h2
  injection h2 with _ h3 _
  exact hT h3
theorem TbS.open_ {n h : Nat} {l : List ByteArray} {g : Int} {base q y : Nat} {w : World} (k : TbS n h l g base q y w) : ∃ (b cap : Nat) (rs : List Nat), Bk 96 w q #[.int .i64 n, .int .i64 h, .slice (some ⟨b, 0, none⟩) (y + 1) cap] ∧ w.ownsRow base 64 1 (.slice (some ⟨b, 0, none⟩) (y + 1) cap) rs.length (rs.map (rowV n)) ∧ rs.length = y + 1 ∧ (∀ j (hj : j < rs.length), base ≤ rs[j] ∧ Ow 3 rs[j] (n + 1) (fun x => tab l g x j) w) ∧ b < w.heap.size ∧ y + 1 ≤ cap := by
  obtain ⟨v, rs, h1, h2, h3, h4⟩ := k
  obtain ⟨A, cap, hv, k1, k2, k3⟩ := own_cells h2
  rcases k3 with k3 | ⟨b, rfl, _, hb, hc⟩
  · omega
  · rw [h3] at hv
    subst hv
    exact ⟨b, cap, rs, h1, h2, h3, h4, hb, by omega⟩
theorem TbS.new (n h : Nat) (l : List ByteArray) (g : Int) (base : Nat) (W : World) (hb : base ≤ W.heap.size) (_hn : n ≤ 100) :
    TbS n h l g base (W.heap.size + 1 + 1) 0 (((W.alloc (.cells (cellsOf (n + 1) fun _ => 0) 3)).alloc (.cells #[.slice (some ⟨W.heap.size, 0, none⟩) (n + 1) (n + 1)] 64)).alloc (.cells #[.int .i64 n, .int .i64 h, .slice (some ⟨W.heap.size + 1, 0, none⟩) 1 1] 96)).drew := by
  have h1 := Ow.new 3 W (n + 1) (fun _ => 0)
  obtain ⟨W1, hW1⟩ : ∃ W1, W1 = W.alloc (.cells (cellsOf (n + 1) fun _ => 0) 3) := ⟨_, rfl⟩
  rw [← hW1] at h1 ⊢
  have hs1 : W1.heap.size = W.heap.size + 1 := by rw [hW1, World.size_alloc]
  have h2 := own_new (w := W1) (base := base) (n := 1) (m := 1) (e := 64) (sz := 1) (news := [rowV n W.heap.size]) rfl (by decide) (by omega) rfl
  have h1 := h1.ext (ext_alloc W1 (.cells [rowV n W.heap.size].toArray 64))
  obtain ⟨W2, hW2⟩ : ∃ W2, W2 = W1.alloc (.cells [rowV n W.heap.size].toArray 64) := ⟨_, rfl⟩
  have hW2' : W1.alloc (.cells #[.slice (some ⟨W.heap.size, 0, none⟩) (n + 1) (n + 1)] 64) = W2 := hW2.symm
  rw [hW2']
  rw [← hW2] at h1 h2
  have hs2 : W2.heap.size = W.heap.size + 1 + 1 := by rw [hW2, World.size_alloc, hs1]
  have h3 := Bk.new 96 W2 #[.int .i64 n, .int .i64 h, .slice (some ⟨W.heap.size + 1, 0, none⟩) 1 1]
  rw [hs2] at h3
  rw [hs1] at h2
  have hx := ext_trans (ext_alloc W2 (.cells #[.int .i64 n, .int .i64 h, .slice (some ⟨W.heap.size + 1, 0, none⟩) 1 1] 96)) (ext_drew _)
  refine ⟨.slice (some ⟨W.heap.size + 1, 0, none⟩) 1 1, [W.heap.size], h3.ext (ext_drew _), own_ext h2 hx, rfl, fun j hj => ?_⟩
  have hj0 : j = 0 := by simp at hj; exact hj
  subst hj0
  exact ⟨hb, (h1.ext hx).congr fun i _ => rfl⟩
/-- a row more, and the header stored -/
theorem TbS.push {n h : Nat} {l : List ByteArray} {g : Int} {base q y b cap : Nat} {rs : List Nat} {w w' : World} {v' : Value} {B : Nat}
    (h1 : Bk 96 w q #[.int .i64 n, .int .i64 h, .slice (some ⟨b, 0, none⟩) (y + 1) cap]) (h2 : w.ownsRow base 64 1 (.slice (some ⟨b, 0, none⟩) (y + 1) cap) rs.length (rs.map (rowV n))) (h3 : rs.length = y + 1)
    (h4 : ∀ j (hj : j < rs.length), base ≤ rs[j] ∧ Ow 3 rs[j] (n + 1) (fun x => tab l g x j) w) (hB : Ow 3 B (n + 1) (fun x => tab l g x (y + 1)) w) (hbB : base ≤ B)
    (h5 : w'.ownsRow base 64 1 v' (rs.length + 1) ((rs ++ [B]).map (rowV n))) (hk : ∀ k, k < w.heap.size → some k ≠ (Value.slice (some ⟨b, 0, none⟩) (y + 1) cap).ownBlock → w'.heap[k]? = w.heap[k]?) :
    TbS n h l g base q (y + 1) (w'.setCell ⟨q, 2, none⟩ v') := by
  have hq := (hk q h1.lt (own_ne h2 h1 (by decide))).trans h1
  have hq' : Bk 96 w' q #[.int .i64 n, .int .i64 h, .slice (some ⟨b, 0, none⟩) (y + 1) cap] := hq
  have hrow : ∀ r d, Ow 3 r (n + 1) d w → Ow 3 r (n + 1) d (w'.setCell ⟨q, 2, none⟩ v') := fun r d hr => by
    have hr' : Ow 3 r (n + 1) d w' := (hk r hr.lt (own_ne h2 hr (by decide))).trans hr
    exact hr'.set_ne (Bk.ne_type hr' hq' (by decide)) _
  refine ⟨v', rs ++ [B], hq'.set 2 v', by have h6 := own_set (j := 2) (u := v') h5 (own_ne h5 hq' (by decide)); rw [List.length_append]; exact h6, by simp [h3], fun j hj => ?_⟩
  · rw [List.length_append] at hj
    by_cases hjl : j < rs.length
    · rw [List.getElem_append_left hjl]
      exact ⟨(h4 j hjl).1, hrow _ _ (h4 j hjl).2⟩
    · have hj2 : j = rs.length := by simp at hj; omega
      subst hj2
      rw [List.getElem_append_right (by omega)]
      simp only [Nat.sub_self, List.getElem_cons_zero]
      refine ⟨hbB, hrow _ _ ?_⟩
      rw [h3]; exact hB
theorem info_ints : (Tryd.prog.info? 64).map (fun i => (i.zero, i.size, i.bytes)) = some (some (.slice none 0 0), 1, 24) := by kernel_rfl
/-- 'append(rows, row)' -/
theorem wpList_pushV (w : World) {ops : Array Oper} {rest : List Oper} {o : Oper} {a : Act} {Q : Exit → Act → World → Prop} (hgd : o.guard = none) (s x : Operand)
    (ho : o.op = .call { callee := .builtin .append, args := #[s, x], argTypes := #[94, 94] })
    (base n : Nat) {v : Value} {rs : List Nat} (hown : w.ownsRow base 64 1 v rs.length (rs.map (rowV n))) (hs : a.eval s = v)
    {r B : Nat} (hx : a.eval x = .slice (some ⟨B, 0, none⟩) 1 1) (hB : w.heap.size = B) (hn : rs.length ≤ 1000000) (hbase : base ≤ w.heap.size)
    (h : ∀ v' w', w'.ownsRow base 64 1 v' (rs.length + 1) ((rs ++ [r]).map (rowV n)) → Below base w w' → (∀ k, k < w.heap.size → some k ≠ v.ownBlock → w'.heap[k]? = w.heap[k]?) → wpList Tryd.prog ops Q rest (a.put o.dst v') w') :
    wpList Tryd.prog ops Q (o :: rest) a (w.alloc (.cells #[.slice (some ⟨r, 0, none⟩) (n + 1) (n + 1)] 64)) := by
  refine wpList_push w hgd s x _ ho base 64 _ 1 24 Tryd.underlying94 info_ints rfl (by decide) hown hs (news := [rowV n r]) hx hB rfl (by intro x hx; simp at hx; subst hx; rfl) (by decide) (by unfold maxLen; omega) (by omega) hbase ?_
  intro v' w' h2 h3 h4 h5 _ _
  refine h v' w' ?_ h3 h4
  rw [List.map_append]
  exact h2
theorem run_zeros1 (n : Nat) (h : n ≤ 100) (W : World) : (Instr.makeSlice 64 (.int .i64 ((n : Int) + 1)) (.int .i64 ((n : Int) + 1))).run Tryd.prog W = .ok (.slice (some ⟨W.heap.size, 0, none⟩) (n + 1) (n + 1)) (W.alloc (.cells (cellsOf (n + 1) fun _ => 0) 3)) := run_zeros (n + 1) (by omega) W
/-- what NewTable answers -/
def RetNt (w : World) (l : List ByteArray) (g : Int) (e : Ending) (w' : World) : Prop :=
  Below w.heap.size w w' ∧ ((¬ PsOk l g ∧ e = .returned (.tuple #[.pointer none, .int .i64 2])) ∨
    (PsOk l g ∧ ∃ q, e = .returned (.tuple #[.pointer (some ⟨q, 0, none⟩), .int .i64 0]) ∧ TbS (wid l) l.length l g w.heap.size q l.length w'))
set_option maxRecDepth 100000 in
set_option maxHeartbeats 4000000 in
theorem newtable_any (A : Option Addr) (cap : Nat) (l : List ByteArray) (g : Int) (w : World) (hc : l.length ≤ cap) (hcm : cap ≤ 9223372036854775807) (h : TSl w A l) (hz : TSz l) :
    Calls Tryd.prog 53 #[.slice A l.length cap, .int .i64 g] w (RetNt w l g) := by
  have HV := Lib.hid (valid_any A cap l w hc hcm h hz)
  by_cases hok : SkOk l
  · rw [decide_eq_true hok] at HV
    have HOK := Lib.hid hok
    have HGR := Lib.hid (fun x y W (hW : Below w.heap.size w W) => grade_any A cap l x y W hok (h.ext hW))
    rcases h with h0 | ⟨b, off, rfl, hblt, hcl⟩
    · have h1 := hok.1; rw [h0] at h1; simp at h1
    have HC := Lib.hid (show ∀ W, Below w.heap.size w W → b < W.heap.size ∧ ∃ r0 : ByteArray, W.cell? ⟨b, off, none⟩ = some (.string r0) ∧ r0.size = wid l from fun W hW => ⟨Nat.lt_of_lt_of_le hblt hW.size, first_row hok (fun j hj => (hW.cell (p := ⟨b, off + j, none⟩) hblt).trans (hcl j hj))⟩)
    have hl1 := hok.1
    have hl48 := hok.2.1
    have hw48 := hok.2.2.2.1
    have hw1 := hok.2.2.1
    clear hok hcl hblt hz
    by_cases hg : 1 ≤ g ∧ g ≤ 9
    · have HLE := Lib.hid (fun W => (show Calls Tryd.prog 43 #[.int .i64 g] W fun e w' => e = .returned (.bool true) ∧ w' = W from by
        have := least_any g W; rw [decide_eq_true hg] at this; exact this))
      obtain ⟨hg1, hg9⟩ := hg
      go_enter Tryd.func53, Tryd.ntmps53
      go_upto_region 3 with (first
        | (go_at_call 42; refine (HV.out).mono ?_; rintro e w1 ⟨rfl, hx1⟩)
        | (go_at_call 43; refine (HLE.out _).mono ?_; rintro e w2 ⟨rfl, rfl⟩))
      obtain ⟨hblt, r0, c0, hr0⟩ := HC.out _ hx1
      obtain ⟨n, hn⟩ : ∃ n, n = wid l := ⟨_, rfl⟩
      have HN := Lib.hid hn
      rw [← hn] at hr0 hw48 hw1
      clear hn
      have hms := run_zeros1 n (by omega)
      go_region
      clear c0 hr0 hblt
      have HT0 := Lib.hid (TbS.new n l.length l g w.heap.size w2 hx1.size (by omega))
      have HB0 := Lib.hid (show Below w.heap.size w (((w2.alloc (.cells (cellsOf (n + 1) fun _ => 0) 3)).alloc (.cells #[.slice (some ⟨w2.heap.size, 0, none⟩) (n + 1) (n + 1)] 64)).alloc (.cells #[.int .i64 n, .int .i64 l.length, .slice (some ⟨w2.heap.size + 1, 0, none⟩) 1 1] 96)).drew from ext_trans (ext_trans (ext_trans (ext_trans hx1 (ext_alloc _ _)) (ext_alloc _ _)) (ext_alloc _ _)) (ext_drew _))
      obtain ⟨V, hV⟩ : ∃ V, V = (((w2.alloc (.cells (cellsOf (n + 1) fun _ => 0) 3)).alloc (.cells #[.slice (some ⟨w2.heap.size, 0, none⟩) (n + 1) (n + 1)] 64)).alloc (.cells #[.int .i64 n, .int .i64 l.length, .slice (some ⟨w2.heap.size + 1, 0, none⟩) 1 1] 96)).drew := ⟨_, rfl⟩
      obtain ⟨q, hq⟩ : ∃ q, q = w2.heap.size + 1 + 1 := ⟨_, rfl⟩
      have hqw : w.heap.size ≤ q := by have := hx1.size; omega
      rw [← hV] at HT0 HB0 ⊢
      rw [← hq] at HT0 ⊢
      clear hV hq hx1 hms HV HLE
      obtain ⟨b1, k1, rr, hbk, _⟩ := HT0.out.read
      obtain ⟨q1, q2, q3⟩ := hbk.facts
      go_wp2_with (fail)
      clear q1 q2 q3 hbk
      go_loopg [38] l.length (fun gg i wr => ∃ y : Nat, i = .int .i64 y ∧ y ≤ l.length ∧ gg = l.length - y ∧ Below w.heap.size w wr ∧ TbS n l.length l g w.heap.size q y wr)
      case atStart => exact ⟨0, rfl, by omega, by omega, HB0.out, HT0.out⟩
      case round =>
        obtain ⟨y, rfl, hy, hg, hb, ht⟩ := hrel
        have HG := Lib.hid hg
        have HB := Lib.hid hb
        have HT := Lib.hid ht
        clear hg hb ht HB0 HT0
        by_cases hlt : y < l.length
        · obtain ⟨V0, hV0⟩ : ∃ V0, V0 = wr := ⟨_, rfl⟩
          subst hV0
          obtain ⟨b2, cap2, rr2, hbk, kc1, kc2, hb2, hrow⟩ := HT.out.read
          obtain ⟨q1, q2, q3⟩ := hbk.facts
          have hms := run_zeros1 n (by omega)
          go_upto_region 8 with (fail)
          have HX1 := Lib.hid (ext_alloc V0 (.cells (cellsOf (n + 1) fun _ => 0) 3))
          have HO1 := Lib.hid (Ow.new 3 V0 (n + 1) (fun _ => 0))
          obtain ⟨B, hB⟩ : ∃ B, B = V0.heap.size := ⟨_, rfl⟩
          have hBw : w.heap.size ≤ B := by have := HB.out.size; omega
          obtain ⟨V1, hV1⟩ : ∃ V1, V1 = V0.alloc (.cells (cellsOf (n + 1) fun _ => 0) 3) := ⟨_, rfl⟩
          rw [← hV1] at HX1 HO1 ⊢
          rw [← hB] at HO1 ⊢
          have HBV := Lib.hid hB
          clear hV1 hB hms q1 q2 q3
          have HTV := Lib.hid (show ∀ W, Below V0.heap.size V0 W → Bk 96 W q #[.int .i64 n, .int .i64 l.length, .slice (some ⟨b2, 0, none⟩) (y + 1) cap2] ∧ b2 < W.heap.size ∧ W.cell? ⟨b2, y, none⟩ = some (.slice (some ⟨rr2 y, 0, none⟩) (n + 1) (n + 1)) ∧ rr2 y < W.heap.size ∧ ∀ x, x ≤ n → W.cell? ⟨rr2 y, x, none⟩ = some (.int .i64 (tab l g x y)) from fun W hW => by
            obtain ⟨e1, e2, e3⟩ := hrow y (Nat.le_refl _)
            have hs := hW.size
            exact ⟨hbk.ext hW, by omega, (hW.cell (p := ⟨b2, y, none⟩) hb2).trans e1, by omega, fun x hx => (hW.cell (p := ⟨rr2 y, x, none⟩) e2).trans (e3 x hx)⟩)
          clear hbk hrow hb2 kc2
          obtain ⟨hbk, hb2, c1, hr2, c2⟩ := HTV.out V1 HX1.out
          obtain ⟨q1, q2, q3⟩ := hbk.facts
          go_wp2_with (fail)
          have HLT := Lib.hid hlt
          clear q1 q2 q3 hbk hb2 c1 hr2 c2
          go_loopg [51, 9] n (fun gg i z wr => ∃ x : Nat, i = .int .i64 x ∧ x ≤ n ∧ gg = n - x ∧ z = .int .i64 (rcn l g y x) ∧ Below V0.heap.size V0 wr ∧ Ow 3 B (n + 1) (fun i => if i ≤ x then tab l g i (y + 1) else 0) wr)
          case atStart =>
            refine ⟨0, rfl, by omega, by omega, rfl, HX1.out, HO1.out.congr fun i _ => ?_⟩
            by_cases hi : i ≤ 0
            · have : i = 0 := by omega
              subst this
              rw [tab_zero]; rfl
            · rw [if_neg hi]
          case round =>
            obtain ⟨x, rfl, hx, hg2, rfl, hb2, ho2⟩ := hrel
            have HG2 := Lib.hid hg2
            have HB2 := Lib.hid hb2
            have HO2 := Lib.hid ho2
            clear hg2 hb2 ho2 HX1 HO1
            have zb := rcn_bd l g y x
            by_cases hxn : x < n
            · have HGC := Lib.hid (HGR.out (x : Int) (y : Int) wr (bext HB.out HB2.out HB.out.size))
              have HRS := Lib.hid (show rcn l g y (x + 1) = rcn l g y x + if usb l g ((x : Int), (y : Int)) then 1 else 0 from rfl)
              have HTT := Lib.hid (show tab l g (x + 1) (y + 1) = tab l g (x + 1) y + rcn l g y (x + 1) from rfl)
              obtain ⟨hbk, hb2, c1, hr2, c2⟩ := HTV.out wr HB2.out
              obtain ⟨q1, q2, q3⟩ := hbk.facts
              have c3 := c2 (x + 1) (by omega)
              have tb := tab_bd l g (x := x + 1) (by omega) y
              obtain ⟨r, hr⟩ : ∃ r, r = rr2 y := ⟨_, rfl⟩
              rw [← hr] at c1 c3 hr2
              obtain ⟨t, ht⟩ : ∃ t, t = tab l g (x + 1) y := ⟨_, rfl⟩
              obtain ⟨z, hz⟩ : ∃ z, z = rcn l g y x := ⟨_, rfl⟩
              rw [← ht] at c3 tb HTT
              rw [← hz] at HRS zb ⊢
              have f1 := HO2.out.cell (i := x + 1) (by omega)
              rw [if_neg (by omega)] at f1
              have f2 := HO2.out.frozen (x + 1)
              have f3 := HO2.out.lt
              clear ht hz hr c2 hbk
              cases hus : usb l g ((x : Int), (y : Int))
              · have HE := Lib.hid (show rcn l g y (x + 1) = z from by rw [HRS.out, hus]; simp)
                have hz0 : ¬ g ≤ gr l (x : Int) (y : Int) := by
                  unfold usb at hus
                  simpa only [decide_eq_false_iff_not] using hus
                obtain ⟨gv, hgv⟩ : ∃ gv, gv = gr l (x : Int) (y : Int) := ⟨_, rfl⟩
                rw [← hgv] at HGC hz0
                have HS := Lib.hid (HO2.out.set (x + 1) (t + z))
                clear hus hgv
                go_wp2_with (go_at_call 45; refine (HGC.out).mono ?_; rintro e w9 ⟨rfl, rfl⟩)
                go_roundg (n - (x + 1))
                case measure => have := HG2.out; omega
                case rel =>
                  refine ⟨x + 1, by go_num, by omega, rfl, by rw [HE.out], HB2.out.setCell (show V0.heap.size ≤ B from by have := HBV.out; omega) _, HS.out.congr fun i _ => ?_⟩
                  unfold upd
                  by_cases h1 : i = x + 1
                  · subst h1
                    rw [if_pos rfl, if_pos (Nat.le_refl _), HTT.out, HE.out]
                  · rw [if_neg h1]
                    show (if i ≤ x then _ else _) = _
                    by_cases h2 : i ≤ x
                    · rw [if_pos h2, if_pos (by omega)]
                    · rw [if_neg h2, if_neg (by omega)]
              · have HE := Lib.hid (show rcn l g y (x + 1) = z + 1 from by rw [HRS.out, hus]; simp)
                have hz0 : g ≤ gr l (x : Int) (y : Int) := by
                  unfold usb at hus
                  simpa only [decide_eq_true_eq] using hus
                obtain ⟨gv, hgv⟩ : ∃ gv, gv = gr l (x : Int) (y : Int) := ⟨_, rfl⟩
                rw [← hgv] at HGC hz0
                have HS := Lib.hid (HO2.out.set (x + 1) (t + (z + 1)))
                clear hus hgv
                go_wp2_with (go_at_call 45; refine (HGC.out).mono ?_; rintro e w9 ⟨rfl, rfl⟩)
                go_roundg (n - (x + 1))
                case measure => have := HG2.out; omega
                case rel =>
                  refine ⟨x + 1, by go_num, by omega, rfl, by rw [HE.out], HB2.out.setCell (show V0.heap.size ≤ B from by have := HBV.out; omega) _, HS.out.congr fun i _ => ?_⟩
                  unfold upd
                  by_cases h1 : i = x + 1
                  · subst h1
                    rw [if_pos rfl, if_pos (Nat.le_refl _), HTT.out, HE.out]
                  · rw [if_neg h1]
                    show (if i ≤ x then _ else _) = _
                    by_cases h2 : i ≤ x
                    · rw [if_pos h2, if_pos (by omega)]
                    · rw [if_neg h2, if_neg (by omega)]
            · obtain rfl : x = n := by omega
              have HTB := Lib.hid (HT.out.ext HB2.out)
              have HBW := Lib.hid (bext HB.out HB2.out HB.out.size)
              obtain ⟨b3, cap3, rs, g1, g2, g3, g4, g5, g6⟩ := HTB.out.open_
              have G2 := Lib.hid g2
              have G4 := Lib.hid g4
              have G1 := Lib.hid g1
              obtain ⟨q1, q2, q3⟩ := g1.facts
              have HO3 := Lib.hid (show Ow 3 B (x + 1) (fun i => tab l g i (y + 1)) wr from HO2.out.congr fun i hi => by rw [if_pos (by omega)])
              have hbs := HBW.out.size
              have hrl : rs.length ≤ 1000000 := by omega
              have HE := Lib.hid (show y + 1 ≤ l.length from HLT.out)
              clear g1 g2 g4 zb
              go_wp2_with (at_builtin; refine wpList_pushV _ rfl _ _ rfl w.heap.size x G2.out (by rfl) (by rfl) rfl hrl hbs ?_; intro v5 w5 hv5 hb5 hk5; have HP := Lib.hid (TbS.push G1.out G2.out g3 G4.out HO3.out hBw hv5 hk5); have HB5 := Lib.hid (HBW.out.trans hb5); obtain ⟨A5, c5, e5, _⟩ := own_cells hv5; have hbk5 := (hk5 _ G1.out.lt (own_ne G2.out G1.out (by decide))).trans G1.out; obtain ⟨q1, q2, q3⟩ := Bk.facts hbk5; subst e5; clear hv5 hb5 hk5 hbk5)
              go_roundg (l.length - (y + 1))
              case measure => have := HG.out; have := HLT.out; omega
              case rel => exact ⟨y + 1, by go_num, HE.out, rfl, HB5.out.setCell hqw _, by have h := HP.out; rw [g3] at h; exact h⟩
        · obtain rfl : y = l.length := by omega
          go_wp2
          refine bodyPost_ret (v := .tuple #[.pointer (some ⟨q, 0, none⟩), .int .i64 0]) (by simp [results, Tryd.results53, go_sem]) rfl ?_
          exact ⟨HB.out, .inr ⟨⟨HOK.out, hg1, hg9⟩, q, rfl, by rw [← HN.out]; exact HT.out⟩⟩
    · have HLE := Lib.hid (fun W => (show Calls Tryd.prog 43 #[.int .i64 g] W fun e w' => e = .returned (.bool false) ∧ w' = W from by
        have := least_any g W; rw [decide_eq_false hg] at this; exact this))
      have HNO := Lib.hid (show ¬ PsOk l g from fun h => hg h.2)
      clear hg
      go_enter Tryd.func53, Tryd.ntmps53
      go_wp2_with (first
        | (go_at_call 42; refine (HV.out).mono ?_; rintro e w1 ⟨rfl, hx1⟩)
        | (go_at_call 43; refine (HLE.out _).mono ?_; rintro e w2 ⟨rfl, hw2⟩; subst hw2))
      refine bodyPost_ret (v := .tuple #[.pointer none, .int .i64 2]) (by simp [results, Tryd.results53, go_sem]) rfl ?_
      exact ⟨hx1, .inl ⟨HNO.out, rfl⟩⟩
  · rw [decide_eq_false hok] at HV
    have HNO := Lib.hid (show ¬ PsOk l g from fun h => hok h.1)
    clear hok h hz
    go_enter Tryd.func53, Tryd.ntmps53
    go_wp2_with (go_at_call 42; refine (HV.out).mono ?_; rintro e w1 ⟨rfl, hx1⟩)
    refine bodyPost_ret (v := .tuple #[.pointer none, .int .i64 2]) (by simp [results, Tryd.results53, go_sem]) rfl ?_
    exact ⟨hx1, .inl ⟨HNO.out, rfl⟩⟩

set_option maxRecDepth 100000 in
set_option maxHeartbeats 4000000 in
theorem tcount_any (n h : Nat) (l : List ByteArray) (g : Int) (base q x y a b : Nat) (w : World) (k : TbS n h l g base q h w) (hn : n ≤ 48) (hh : h ≤ 48) (hx : x + a ≤ n) (hy : y + b ≤ h) :
    Calls Tryd.prog 94 #[.pointer (some ⟨q, 0, none⟩), .agg #[.int .i64 (x : Int), .int .i64 (y : Int), .int .i64 (a : Int), .int .i64 (b : Int)]] w fun e w' => e = .returned (.int .i64 (cnt l g x y a b)) ∧ Below w.heap.size w w' := by
  have HE := Lib.hid (cnt_tab l g x y a b)
  have hx0 := ext_alloc w (.cells #[.int .i64 (x : Int), .int .i64 (y : Int), .int .i64 (a : Int), .int .i64 (b : Int)] 31)
  have HX0 := Lib.hid hx0
  have HR := Lib.hid (Bk.new 31 w #[.int .i64 (x : Int), .int .i64 (y : Int), .int .i64 (a : Int), .int .i64 (b : Int)])
  obtain ⟨B, cap, r, hbk, _, _, hB, hrow⟩ := (k.ext hx0).read
  have hpos := k.lt
  clear hx0
  go_enter Tryd.func94, Tryd.ntmps94
  go_upto_region 1 with (fail)
  obtain ⟨V, hV⟩ : ∃ V, V = w.alloc (.cells #[.int .i64 (x : Int), .int .i64 (y : Int), .int .i64 (a : Int), .int .i64 (b : Int)] 31) := ⟨_, rfl⟩
  obtain ⟨p, hp⟩ : ∃ p, p = w.heap.size := ⟨_, rfl⟩
  rw [← hV] at HX0 HR hbk hB hrow ⊢
  rw [← hp] at HR ⊢
  have HP := Lib.hid hp
  clear hV hp k
  obtain ⟨r1, r2, r3⟩ := HR.out.facts
  obtain ⟨q1, q2, q3⟩ := hbk.facts
  obtain ⟨c1, c2, c3⟩ := hrow y (by omega)
  obtain ⟨d1, d2, d3⟩ := hrow (y + b) (by omega)
  have t1 := c3 x (by omega)
  have t2 := c3 (x + a) (by omega)
  have t3 := d3 x (by omega)
  have t4 := d3 (x + a) (by omega)
  have b1 := tab_bd l g (x := x) (by omega) y
  have b2 := tab_bd l g (x := x + a) (by omega) y
  have b3 := tab_bd l g (x := x) (by omega) (y + b)
  have b4 := tab_bd l g (x := x + a) (by omega) (y + b)
  obtain ⟨v1, hv1⟩ : ∃ v, v = tab l g x y := ⟨_, rfl⟩
  obtain ⟨v2, hv2⟩ : ∃ v, v = tab l g (x + a) y := ⟨_, rfl⟩
  obtain ⟨v3, hv3⟩ : ∃ v, v = tab l g x (y + b) := ⟨_, rfl⟩
  obtain ⟨v4, hv4⟩ : ∃ v, v = tab l g (x + a) (y + b) := ⟨_, rfl⟩
  rw [← hv1] at t1 b1 HE
  rw [← hv2] at t2 b2 HE
  rw [← hv3] at t3 b3 HE
  rw [← hv4] at t4 b4 HE
  obtain ⟨r₁, hr₁⟩ : ∃ r₁, r₁ = r y := ⟨_, rfl⟩
  obtain ⟨r₂, hr₂⟩ : ∃ r₂, r₂ = r (y + b) := ⟨_, rfl⟩
  rw [← hr₁] at c1 c2 t1 t2
  rw [← hr₂] at d1 d2 t3 t4
  clear hv1 hv2 hv3 hv4 hr₁ hr₂ hrow c3 d3 hbk
  have hyb : y + b ≤ 48 := by omega
  go_quiet (fail)
  go_upto_region 2 with (fail)
  go_quiet (fail)
  go_wp2
  refine bodyPost_ret (v := .int .i64 (v4 - v3 - v2 + v1)) (by simp [results, Tryd.results94, go_sem]) rfl ?_
  exact ⟨by rw [HE.out], bdrewN (bdrewN HX0.out _) _⟩
/-- what Count answers -/
def ctE (n h : Nat) (x y a b : Int) : Int := if RcOk x y a b then (if RcIn x y a b n h then 0 else 5) else 2
def ctV (n h : Nat) (l : List ByteArray) (g x y a b : Int) : Int := if RcOk x y a b then (if RcIn x y a b n h then cnt l g x.toNat y.toNat a.toNat b.toNat else 0) else 0
theorem some_ints (W : World) (a : Addr) (n c : Nat) : (binOp .eql 94 (.slice (some a) n c) (.slice none 0 0)).run Tryd.prog W = .ok (.bool false) W := by kernel_rfl
/-- the reference's Count of a rectangle within -/
theorem cnt_snoc (l : List ByteArray) (g : Int) (x y a b : Nat) : cnt l g x y a b + rct l g (y + b) x a = cnt l g x y a (b + 1) := rfl
set_option maxRecDepth 100000 in
set_option maxHeartbeats 4000000 in
theorem rcount_any (A : Option Addr) (cap : Nat) (l : List ByteArray) (g : Int) (x y a b : Nat) (w : World) (hok : SkOk l) (h : TSl w A l) (hx : x + a ≤ wid l) (hy : y + b ≤ l.length) :
    Calls Tryd.prog 25 #[.slice A l.length cap, .int .i64 g, .agg #[.int .i64 (x : Int), .int .i64 (y : Int), .int .i64 (a : Int), .int .i64 (b : Int)]] w fun e w' => e = .returned (.int .i64 (cnt l g x y a b)) ∧ Below w.heap.size w w' := by
  have HX0 := Lib.hid (ext_alloc w (.cells #[.int .i64 (x : Int), .int .i64 (y : Int), .int .i64 (a : Int), .int .i64 (b : Int)] 31))
  have HR0 := Lib.hid (Bk.new 31 w #[.int .i64 (x : Int), .int .i64 (y : Int), .int .i64 (a : Int), .int .i64 (b : Int)])
  have HGR := Lib.hid (fun x y W (hW : Below w.heap.size w W) => rgrade_any A cap l x y W hok (h.ext hW))
  have hl48 := hok.2.1
  have hw48 := hok.2.2.2.1
  have hxa : x + a ≤ 48 := by omega
  have hyb : y + b ≤ 48 := by omega
  clear hok h hx hy hl48 hw48
  go_enter Tryd.func25, Tryd.ntmps25
  go_upto_region 1 with (fail)
  obtain ⟨V, hV⟩ : ∃ V, V = w.alloc (.cells #[.int .i64 (x : Int), .int .i64 (y : Int), .int .i64 (a : Int), .int .i64 (b : Int)] 31) := ⟨_, rfl⟩
  obtain ⟨p, hp⟩ : ∃ p, p = w.heap.size := ⟨_, rfl⟩
  rw [← hV] at HX0 HR0 ⊢
  rw [← hp] at HR0 ⊢
  have HP := Lib.hid hp
  clear hV hp
  obtain ⟨r1, r2, r3⟩ := HR0.out.facts
  go_wp2_with (fail)
  clear r1 r2 r3
  go_loopg [8, 7] b (fun gg i z wr => ∃ k : Nat, i = .int .i64 ((y + k : Nat) : Int) ∧ k ≤ b ∧ gg = b - k ∧ z = .int .i64 (cnt l g x y a k) ∧ Below w.heap.size w wr ∧ Bk 31 wr p #[.int .i64 (x : Int), .int .i64 (y : Int), .int .i64 (a : Int), .int .i64 (b : Int)])
  case atStart => exact ⟨0, by simp, by omega, by omega, rfl, HX0.out, HR0.out⟩
  case round =>
    obtain ⟨k, rfl, hk, hg, rfl, hb, hr⟩ := hrel
    have HG := Lib.hid hg
    have HB := Lib.hid hb
    have HR := Lib.hid hr
    have zb := cnt_bd l g x y (a := a) (by omega) k
    have HCS := Lib.hid (cnt_snoc l g x y a k)
    clear hg hb hr HX0 HR0
    obtain ⟨z, hz⟩ : ∃ z, z = cnt l g x y a k := ⟨_, rfl⟩
    rw [← hz] at zb HCS ⊢
    have HZ := Lib.hid hz
    obtain ⟨r1, r2, r3⟩ := HR.out.facts
    obtain ⟨m, hm⟩ : ∃ m, m = y + k := ⟨_, rfl⟩
    have HM := Lib.hid hm
    rw [← hm] at HCS ⊢
    by_cases hlt : k < b
    · have hmb : (m : Int) < (y : Int) + (b : Int) := by omega
      clear hz hm
      go_wp2_with (fail)
      have HLT := Lib.hid hlt
      clear r1 r2 r3
      go_loopg [9, 7] a (fun gg i v wr => ∃ j : Nat, i = .int .i64 ((x + j : Nat) : Int) ∧ j ≤ a ∧ gg = a - j ∧ v = .int .i64 (z + rct l g m x j) ∧ Below w.heap.size w wr ∧ Bk 31 wr p #[.int .i64 (x : Int), .int .i64 (y : Int), .int .i64 (a : Int), .int .i64 (b : Int)])
      case atStart => exact ⟨0, by simp, by omega, by omega, by rw [rct_zero]; simp, HB.out, HR.out⟩
      case round =>
        obtain ⟨j, rfl, hj, hg2, rfl, hb2, hr2⟩ := hrel
        have HG2 := Lib.hid hg2
        have HB2 := Lib.hid hb2
        have HR2 := Lib.hid hr2
        have zb2 := rct_bd l g m x j
        have HRS := Lib.hid (rct_succ l g m x j)
        clear hg2 hb2 hr2 HB HR
        obtain ⟨r1, r2, r3⟩ := HR2.out.facts
        obtain ⟨i, hi⟩ : ∃ i, i = x + j := ⟨_, rfl⟩
        have HI := Lib.hid hi
        rw [← hi] at HRS ⊢
        obtain ⟨v, hv⟩ : ∃ v, v = rct l g m x j := ⟨_, rfl⟩
        rw [← hv] at zb2 HRS ⊢
        have HV := Lib.hid hv
        by_cases hja : j < a
        · have hia : (i : Int) < (x : Int) + (a : Int) := by omega
          have HGC := Lib.hid (HGR.out (i : Int) (m : Int) wr HB2.out)
          clear hi hv
          cases hus : usb l g ((i : Int), (m : Int))
          · have HE := Lib.hid (show rct l g m x (j + 1) = v from by rw [HRS.out, hus]; simp)
            have hz0 : ¬ g ≤ gr l (i : Int) (m : Int) := by
              unfold usb at hus
              simpa only [decide_eq_false_iff_not] using hus
            obtain ⟨gv, hgv⟩ : ∃ gv, gv = gr l (i : Int) (m : Int) := ⟨_, rfl⟩
            rw [← hgv] at HGC hz0
            clear hus hgv
            go_wp2_with (go_at_call 34; refine (HGC.out).mono ?_; rintro e w9 ⟨rfl, rfl⟩)
            go_roundg (a - (j + 1))
            case measure => have := HG2.out; omega
            case rel => exact ⟨j + 1, by have := HI.out; go_num, by omega, rfl, by rw [HE.out], HB2.out, HR2.out⟩
          · have HE := Lib.hid (show rct l g m x (j + 1) = v + 1 from by rw [HRS.out, hus]; simp)
            have hz0 : g ≤ gr l (i : Int) (m : Int) := by
              unfold usb at hus
              simpa only [decide_eq_true_eq] using hus
            obtain ⟨gv, hgv⟩ : ∃ gv, gv = gr l (i : Int) (m : Int) := ⟨_, rfl⟩
            rw [← hgv] at HGC hz0
            clear hus hgv
            go_wp2_with (go_at_call 34; refine (HGC.out).mono ?_; rintro e w9 ⟨rfl, rfl⟩)
            go_roundg (a - (j + 1))
            case measure => have := HG2.out; omega
            case rel => exact ⟨j + 1, by have := HI.out; go_num, by omega, rfl, by rw [HE.out]; first | rfl | (congr 1; omega), HB2.out, HR2.out⟩
        · have hia : ¬ (i : Int) < (x : Int) + (a : Int) := by omega
          have HE := Lib.hid (show z + v = cnt l g x y a (k + 1) from by rw [← HCS.out, HV.out]; rw [show j = a by omega])
          clear hi hv
          go_wp2
          go_roundg (b - (k + 1))
          case measure => have := HG.out; have := HLT.out; omega
          case rel => exact ⟨k + 1, by have := HM.out; go_num, by have := HLT.out; omega, rfl, by rw [HE.out], HB2.out, HR2.out⟩
    · have hmb : ¬ (m : Int) < (y : Int) + (b : Int) := by omega
      have HE := Lib.hid (show z = cnt l g x y a b from by rw [HZ.out]; rw [show k = b by omega])
      clear hz hm
      go_wp2
      refine bodyPost_ret (v := .int .i64 z) (by simp [results, Tryd.results25, go_sem]) rfl ?_
      exact ⟨by rw [HE.out], HB.out⟩
end Go.Proofs.YtmgofdgbenfjmaaDoor
