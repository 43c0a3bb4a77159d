/- Slices of cells; sides, beside, near walked. Conditions: the cells' ints are small. -/
import Derived.Test.YtmgofdgbenfjmaaDoorWd1
import Derived.Test.YtmgofdgbenfjmaaDoorMp1
namespace Go.Proofs.YtmgofdgbenfjmaaDoor
open Go.RowKit

def cvs (c : Cel) : List Value := [.int .i64 c.1, .int .i64 c.2]
/-- a slice of cells in a block from base on -/
def CSl (base : Nat) (w : World) (A : Option Addr) (l : List Cel) : Prop :=
  l = [] ∨ ∃ b off, A = some ⟨b, off, none⟩ ∧ base ≤ b ∧ b < w.heap.size ∧ ∀ j (h : j < l.length), w.cell? ⟨b, off + j * 2, none⟩ = some (.int .i64 l[j].1) ∧ w.cell? ⟨b, off + j * 2 + 1, none⟩ = some (.int .i64 l[j].2)
/-- a row of cells of the call's own that grows -/
def Vc (base : Nat) (w : World) (v : Value) (l : List Cel) : Prop := w.ownsRow base 71 2 v l.length (l.flatMap cvs)
theorem Vc.nil (base : Nat) (w : World) : Vc base w (.slice none 0 0) [] := own_nil w base 71 2
theorem Vc.csl {base : Nat} {w : World} {v : Value} {l : List Cel} (h : Vc base w v l) : ∃ A cap, v = .slice A l.length cap ∧ l.length ≤ cap ∧ cap ≤ maxLen ∧ CSl base w A l := by
  obtain ⟨A, cap, hv, h1, h2, h3⟩ := own_cells h
  refine ⟨A, cap, hv, h1, h2, ?_⟩
  rcases h3 with h3 | ⟨g, rfl, hb, hg, hc⟩
  · exact .inl (List.eq_nil_of_length_eq_zero h3)
  · refine .inr ⟨g, 0, rfl, hb, hg, fun j hj => ?_⟩
    have hf : ∀ a : Cel, (cvs a).length = 2 := fun _ => rfl
    refine ⟨?_, ?_⟩
    · rw [Nat.zero_add]
      exact hc (j * 2) _ (by rw [show j * 2 = j * 2 + 0 from rfl, flat_get hf l j 0 hj (by omega)]; rfl)
    · rw [Nat.zero_add]
      exact hc (j * 2 + 1) _ (by rw [flat_get hf l j 1 hj (by omega)]; rfl)
theorem info_cell : (Tryd.prog.info? 71).map (fun i => (i.zero, i.size, i.bytes)) = some (some (.agg #[.int .i64 0, .int .i64 0]), 2, 16) := by kernel_rfl
/-- 'append(l, c)' of one cell -/
theorem wpList_pushC (w : World) {ops : Array Oper} {rest : List Oper} {o : Oper} {a : Act} {Q : Exit → Act → World → Prop} (hgd : o.guard = none) (s x : Operand)
    (ho : o.op = .call { callee := .builtin .append, args := #[s, x], argTypes := #[75, 75] })
    (base : Nat) {v : Value} {l : List Cel} (hown : Vc base w v l) (hs : a.eval s = v)
    {c g : Int} {B : Nat} (hx : a.eval x = .slice (some ⟨B, 0, none⟩) 1 1) (hB : w.heap.size = B) (hn : l.length ≤ 1000000) (hbase : base ≤ w.heap.size)
    (h : ∀ v' w', Vc base w' v' (l ++ [(c, g)]) → Below base w w' → (∀ k, k < w.heap.size → some k ≠ v.ownBlock → w'.heap[k]? = w.heap[k]?) → (∀ k, k < w.heap.size → some k ≠ v.ownBlock → some k ≠ v'.ownBlock) → wpList Tryd.prog ops Q rest (a.put o.dst v') w') :
    wpList Tryd.prog ops Q (o :: rest) a (w.alloc (.cells #[.int .i64 c, .int .i64 g] 71)) := by
  refine wpList_push w hgd s x _ ho base 71 _ 2 16 Tryd.underlying75 info_cell rfl (by decide) hown hs (news := [.int .i64 c, .int .i64 g]) hx hB rfl (by intro x hx; simp at hx; rcases hx with rfl | rfl <;> rfl) (by decide) (by unfold maxLen; omega) (by omega) hbase ?_
  intro v' w' h2 h3 h4 h5 _ _
  refine h v' w' ?_ h3 h4 h5
  have e : l.flatMap cvs ++ [Value.int .i64 c, Value.int .i64 g] = (l ++ [((c, g) : Cel)]).flatMap cvs := by rw [List.flatMap_append]; rfl
  have e2 : (l ++ [((c, g) : Cel)]).length = l.length + 1 := by simp
  unfold Vc
  rw [← e, e2]
  exact h2
/-- small: no sum of it and 1 wraps -/
def Sml (c : Cel) : Prop := -1000 ≤ c.1 ∧ c.1 ≤ 1000 ∧ -1000 ≤ c.2 ∧ c.2 ≤ 1000
theorem Sml.isC {c : Cel} (h : Sml c) : IsC c := by obtain ⟨h1, h2, h3, h4⟩ := h; exact ⟨⟨by omega, by omega⟩, ⟨by omega, by omega⟩⟩
set_option maxRecDepth 100000 in
set_option maxHeartbeats 2000000 in
theorem sides_any (x y : Int) (w : World) (hc : Sml (x, y)) : Calls Tryd.prog 85 #[.agg #[.int .i64 x, .int .i64 y]] w fun e w' => e = .returned (.agg #[.int .i64 x, .int .i64 (y - 1), .int .i64 (x - 1), .int .i64 y, .int .i64 (x + 1), .int .i64 y, .int .i64 x, .int .i64 (y + 1)]) ∧ Below w.heap.size w w' := by
  obtain ⟨h1, h2, h3, h4⟩ := hc
  dsimp only at h1 h2 h3 h4
  have hb := Bk.new 128 (w.alloc (.cells #[.int .i64 x, .int .i64 y] 71)) #[.int .i64 x, .int .i64 (y - 1), .int .i64 (x - 1), .int .i64 y, .int .i64 (x + 1), .int .i64 y, .int .i64 x, .int .i64 (y + 1)]
  rw [World.size_alloc] at hb
  have HB := Lib.hid hb
  clear hb
  go_enter Tryd.func85, Tryd.ntmps85
  go_wp2
  have p1 := HB.out.facts.1
  refine bodyPost_ret (v := .agg #[.int .i64 x, .int .i64 (y - 1), .int .i64 (x - 1), .int .i64 y, .int .i64 (x + 1), .int .i64 y, .int .i64 x, .int .i64 (y + 1)]) (by simp [results, Tryd.results85, go_sem, p1]) rfl ?_
  exact ⟨rfl, ext_trans (ext_alloc _ _) (ext_alloc _ _)⟩
/-- a list of cells, just made, in memory -/
def RetC (l : List Cel) (w : World) (e : Ending) (w' : World) : Prop :=
  ∃ A cap, e = .returned (.slice A l.length cap) ∧ l.length ≤ cap ∧ cap ≤ 9223372036854775807 ∧ CSl w.heap.size w' A l ∧ Below w.heap.size w w'
set_option maxRecDepth 100000 in
set_option maxHeartbeats 2000000 in
theorem beside_any (x y : Int) (w : World) (hc : Sml (x, y)) : Calls Tryd.prog 48 #[.agg #[.int .i64 x, .int .i64 y]] w (RetC (sidesL (x, y)) w) := by
  have HS := Lib.hid (fun W => sides_any x y W hc)
  go_enter Tryd.func48, Tryd.ntmps48
  go_wp2_with (go_at_call 85; refine (HS.out _).mono ?_; rintro e w1 ⟨rfl, hx1⟩)
  have hx := ext_trans (ext_alloc w (.cells #[.int .i64 x, .int .i64 y] 71)) hx1
  have hb := Bk.new 128 w1 #[.int .i64 x, .int .i64 (y - 1), .int .i64 (x - 1), .int .i64 y, .int .i64 (x + 1), .int .i64 y, .int .i64 x, .int .i64 (y + 1)]
  have hx2 := ext_trans hx (ext_alloc w1 (.cells #[.int .i64 x, .int .i64 (y - 1), .int .i64 (x - 1), .int .i64 y, .int .i64 (x + 1), .int .i64 y, .int .i64 x, .int .i64 (y + 1)] 128))
  go_ret
  refine ⟨_, _, rfl, by simp [sidesL], by decide, .inr ⟨w1.heap.size, 0, rfl, hx.size, hb.lt, fun j hj => ?_⟩, hx2⟩
  have hj : j < 4 := by simpa [sidesL] using hj
  rcases (by omega : j = 0 ∨ j = 1 ∨ j = 2 ∨ j = 3) with rfl | rfl | rfl | rfl <;> exact ⟨hb.cell _, hb.cell _⟩
theorem own_ne_lt {w : World} {base n sz : Nat} {e : TypeId} {v : Value} {xs : List Value} (h : w.ownsRow base e sz v n xs) {k : Nat} (hk : k < base) : some k ≠ v.ownBlock := fun e => by
  have := own_lt h k e.symm
  omega
/-- the first k of the nine cells around (x, y), without the middle one -/
def nearP (x y : Int) : Nat → List Cel
  | 0 => []
  | k + 1 => if k = 4 then nearP x y k else nearP x y k ++ [(x - 1 + ((k % 3 : Nat) : Int), y - 1 + ((k / 3 : Nat) : Int))]
theorem nearP_nine (x y : Int) : nearP x y 9 = nearL (x, y) := by
  simp [nearP, nearL]
  omega
theorem nearP_len (x y : Int) : ∀ k, (nearP x y k).length ≤ k
  | 0 => Nat.le_refl _
  | k + 1 => by
    have := nearP_len x y k
    unfold nearP
    split
    · omega
    · simp; omega
theorem nearP_skip (x y : Int) {k : Nat} (h : k = 4) : nearP x y (k + 1) = nearP x y k := by rw [nearP, if_pos h]
theorem nearP_push (x y : Int) {a b : Nat} (hb : b < 3) (h : ¬ (a = 1 ∧ b = 1)) : nearP x y (3 * a + b + 1) = nearP x y (3 * a + b) ++ [(x - 1 + (b : Int), y - 1 + (a : Int))] := by
  rw [nearP, if_neg (by omega)]
  rw [show (3 * a + b) % 3 = b by omega, show (3 * a + b) / 3 = a by omega]
set_option maxRecDepth 100000 in
set_option maxHeartbeats 4000000 in
theorem near_any (x y : Int) (w : World) (hc : Sml (x, y)) : Calls Tryd.prog 87 #[.agg #[.int .i64 x, .int .i64 y]] w (RetC (nearL (x, y)) w) := by
  obtain ⟨h1, h2, h3, h4⟩ := hc
  dsimp only at h1 h2 h3 h4
  have HB0 := Lib.hid (Bk.new 71 w #[.int .i64 x, .int .i64 y])
  have HE0 := Lib.hid (ext_alloc w (.cells #[.int .i64 x, .int .i64 y] 71))
  go_enter Tryd.func87, Tryd.ntmps87
  go_wp2
  go_loopg [4, 3] 3 (fun g i v wr => ∃ (a : Nat) (yy : Int), i = .int .i64 yy ∧ yy = y - 1 + (a : Int) ∧ a ≤ 3 ∧ g = 3 - a ∧ Vc (w.heap.size + 1) wr v (nearP x y (3 * a)) ∧ Bk 71 wr w.heap.size #[.int .i64 x, .int .i64 y] ∧ Below w.heap.size w wr)
  case atStart => exact ⟨0, y - 1, rfl, by omega, by omega, by omega, Vc.nil _ _, HB0.out, HE0.out⟩
  case round =>
    obtain ⟨a, yy, rfl, hyy, ha, hg, hv, hbk, hbl⟩ := hrel
    have HG := Lib.hid hg
    have HY := Lib.hid hyy
    have HV := Lib.hid hv
    have HBK := Lib.hid hbk
    have HBL := Lib.hid hbl
    have hy1 : -1001 ≤ yy ∧ yy ≤ 1002 := by omega
    obtain ⟨hy1, hy2⟩ := hy1
    clear hg hv hbl
    by_cases hlt : a < 3
    · have hle : yy ≤ y + 1 := by omega
      obtain ⟨f1, f2, f3⟩ := hbk.facts
      clear hyy hbk
      go_wp2
      go_loopg [5, 3] 3 (fun g i v wr => ∃ (b : Nat) (xx : Int), i = .int .i64 xx ∧ xx = x - 1 + (b : Int) ∧ b ≤ 3 ∧ g = 3 - b ∧ Vc (w.heap.size + 1) wr v (nearP x y (3 * a + b)) ∧ Bk 71 wr w.heap.size #[.int .i64 x, .int .i64 y] ∧ Below w.heap.size w wr)
      case atStart => exact ⟨0, x - 1, rfl, by omega, by omega, by omega, HV.out, HBK.out, HBL.out⟩
      case round =>
        obtain ⟨b, xx, rfl, hxx, hb, hg2, hv2, hbk2, hbl2⟩ := hrel
        have HG2 := Lib.hid hg2
        have HXX := Lib.hid hxx
        have HV2 := Lib.hid hv2
        have HBK2 := Lib.hid hbk2
        have HBL2 := Lib.hid hbl2
        have hx1 : -1001 ≤ xx ∧ xx ≤ 1002 := by omega
        obtain ⟨hx1, hx2⟩ := hx1
        clear hg2 hv2 hbl2 f1 f2 f3 HV HBK HBL
        obtain ⟨f1, f2, f3⟩ := hbk2.facts
        by_cases hltb : b < 3
        · have hle2 : xx ≤ x + 1 := by omega
          clear hxx hbk2
          have hn9 := nearP_len x y (3 * a + b)
          by_cases hm : a = 1 ∧ b = 1
          · have ex : (xx != x) = false := by have := HXX.out; simp; omega
            have ey : (yy != y) = false := by have := HY.out; simp; omega
            have HN := Lib.hid (nearP_skip x y (k := 3 * a + b) (by omega))
            go_wp2
            go_roundg (3 - (b + 1))
            case measure => have := HG2.out; omega
            case rel => exact ⟨b + 1, xx + 1, by go_num, by have := HXX.out; omega, by omega, rfl, by rw [show 3 * a + (b + 1) = 3 * a + b + 1 from rfl, HN.out]; exact HV2.out, HBK2.out, HBL2.out⟩
          · have HN := Lib.hid (nearP_push x y (a := a) hltb hm)
            have hbase : w.heap.size + 1 ≤ wr.heap.size := f3
            by_cases hx : xx = x
            · have ex : (xx != x) = false := by simp [hx]
              have ey : (yy != y) = true := by have := HY.out; have := HXX.out; simp; omega
              clear hx
              go_wp2_with (at_builtin; refine wpList_pushC _ rfl _ _ rfl (w.heap.size + 1) HV2.out (by rfl) (by rfl) rfl (by omega) hbase ?_; intro v5 w5 hv5 hb5 hk5 _; have HV5 := Lib.hid hv5; have HB5 := Lib.hid ((hk5 _ HBK2.out.lt (own_ne_lt HV2.out (by omega))).trans HBK2.out); have HBL5 := Lib.hid (HBL2.out.trans (hb5.mono (by omega))))
              go_roundg (3 - (b + 1))
              case measure => have := HG2.out; omega
              case rel => exact ⟨b + 1, xx + 1, by go_num, by have := HXX.out; omega, by omega, rfl, by rw [show 3 * a + (b + 1) = 3 * a + b + 1 from rfl, HN.out, ← HXX.out, ← HY.out]; exact HV5.out, HB5.out, HBL5.out⟩
            · have ex : (xx != x) = true := by simpa using hx
              clear hx
              go_wp2_with (at_builtin; refine wpList_pushC _ rfl _ _ rfl (w.heap.size + 1) HV2.out (by rfl) (by rfl) rfl (by omega) hbase ?_; intro v5 w5 hv5 hb5 hk5 _; have HV5 := Lib.hid hv5; have HB5 := Lib.hid ((hk5 _ HBK2.out.lt (own_ne_lt HV2.out (by omega))).trans HBK2.out); have HBL5 := Lib.hid (HBL2.out.trans (hb5.mono (by omega))))
              go_roundg (3 - (b + 1))
              case measure => have := HG2.out; omega
              case rel => exact ⟨b + 1, xx + 1, by go_num, by have := HXX.out; omega, by omega, rfl, by rw [show 3 * a + (b + 1) = 3 * a + b + 1 from rfl, HN.out, ← HXX.out, ← HY.out]; exact HV5.out, HB5.out, HBL5.out⟩
        · have hb3 : b = 3 := by omega
          have hle2 : ¬ xx ≤ x + 1 := by omega
          subst hb3
          clear hxx hbk2
          go_wp2
          go_roundg (3 - (a + 1))
          case measure => have := HG.out; omega
          case rel => exact ⟨a + 1, yy + 1, by go_num, by have := HY.out; omega, by omega, rfl, HV2.out, HBK2.out, HBL2.out⟩
    · have ha3 : a = 3 := by omega
      have hle : ¬ yy ≤ y + 1 := by omega
      subst ha3
      obtain ⟨f1, f2, f3⟩ := hbk.facts
      clear hyy hbk
      have hv9 := HV.out
      rw [show 3 * 3 = 9 from rfl, nearP_nine] at hv9
      clear HV
      obtain ⟨A, cap, rfl, k1, k2, k3⟩ := hv9.csl
      have HK := Lib.hid k3
      clear k3 hv9
      go_wp2
      go_ret
      refine ⟨A, cap, rfl, k1, by unfold maxLen at k2; omega, ?_, HBL.out⟩
      rcases HK.out with h | ⟨g, off, e1, e2, e3, e4⟩
      · exact .inl h
      · exact .inr ⟨g, off, e1, by omega, e3, e4⟩
end Go.Proofs.YtmgofdgbenfjmaaDoor
