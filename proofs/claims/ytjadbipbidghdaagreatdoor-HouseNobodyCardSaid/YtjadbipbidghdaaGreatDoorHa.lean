/- Rows of bytes whose contents are left open; checksum, putNumber walked. Conditions: the rows in memory. -/
import Derived.Test.YtjadbipbidghdaaGreatDoorWe
import Derived.Laws.AppendOwnNone
namespace Go.Proofs.YtjadbipbidghdaaGreatDoor
open Go.RowKit

theorem info_byt : (Tryz.prog.info? 5).map (fun i => (i.zero, i.size, i.bytes)) = some (some (.int .u8 0), 1, 1) := by kernel_rfl
/-- a row of n bytes from block B on -/
def By (B : Nat) (w : World) (v : Value) (n : Nat) : Prop := ∃ xs, w.ownsRow B 5 1 v n xs ∧ ∀ x ∈ xs, ∃ u : Int, x = .int .u8 u
/-- a slice of m bytes that can be read, below block B -/
def Rd (B : Nat) (w : World) (v : Value) (m : Nat) : Prop := (v = .slice none 0 0 ∧ m = 0) ∨ ∃ g off c, v = .slice (some ⟨g, off, none⟩) m c ∧ g < B ∧ g < w.heap.size ∧ ∀ j, j < m → ∃ u : Int, w.cell? ⟨g, off + j, none⟩ = some (.int .u8 u)
section
variable {B : Nat} {w w' : World} {v : Value} {n m : Nat}
theorem By.nil (B : Nat) (w : World) : By B w (.slice none 0 0) 0 := ⟨[], own_nil w B 5 1, fun _ h => by cases h⟩
theorem By.ext (h : By B w v n) (hb : Below w.heap.size w w') : By B w' v n := by obtain ⟨xs, h, hx⟩ := h; exact ⟨xs, own_ext h hb, hx⟩
theorem Rd.ext (h : Rd B w v m) (hb : Below B w w') : Rd B w' v m := by
  rcases h with h | ⟨g, off, c, h1, h2, h3, h4⟩
  · exact .inl h
  · exact .inr ⟨g, off, c, h1, h2, Nat.lt_of_lt_of_le h3 hb.size, fun j hj => by
      obtain ⟨u, hu⟩ := h4 j hj
      exact ⟨u, (hb.cell (p := ⟨g, off + j, none⟩) h2).trans hu⟩⟩
theorem By.sl (h : By B w v n) : ∃ A c, v = .slice A n c ∧ n ≤ c ∧ c ≤ maxLen := by
  obtain ⟨xs, ⟨h1, ⟨rfl, rfl⟩ | ⟨g, cap, cur, rfl, _, _, h2, h3, _⟩⟩, _⟩ := h
  · exact ⟨none, 0, rfl, Nat.le_refl _, by decide⟩
  · exact ⟨_, cap, rfl, h2, h3⟩
theorem By.base {B' : Nat} (h : By B w v n) (hb : B' ≤ B) : By B' w v n := by obtain ⟨xs, h, hx⟩ := h; exact ⟨xs, own_base h hb, hx⟩
theorem By.rd {B2 : Nat} (h : By B w v n) (hB : w.heap.size ≤ B2) : Rd B2 w v n := by
  obtain ⟨xs, h, hx⟩ := h
  obtain ⟨A, c, rfl, _, _, h3⟩ := own_cells h
  rcases h3 with h3 | ⟨g, rfl, _, hg, hc⟩
  · obtain ⟨_, ⟨e, _⟩ | ⟨g, cap, cur, e, _, hg, _⟩⟩ := h
    · rw [e, h3]; exact .inl ⟨rfl, rfl⟩
    · rw [e, h3]; exact .inr ⟨g, 0, cap, rfl, Nat.lt_of_lt_of_le (Array.getElem?_eq_some_iff.1 hg).1 hB, (Array.getElem?_eq_some_iff.1 hg).1, fun j hj => by omega⟩
  · refine .inr ⟨g, 0, c, rfl, by omega, hg, fun j hj => ?_⟩
    have hj2 : j < xs.length := by rw [h.1]; omega
    obtain ⟨u, hu⟩ := hx _ (List.getElem_mem hj2)
    exact ⟨u, by rw [Nat.zero_add]; exact hc j _ (by rw [List.getElem?_eq_getElem hj2, hu])⟩
end
/-- 'append(b, x)' of one byte -/
theorem wpList_push1 (w : World) {ops : Array Oper} {rest : List Oper} {o : Oper} {a : Act} {Q : Exit → Act → World → Prop} (hgd : o.guard = none) (s x : Operand)
    (ho : o.op = .call { callee := .builtin .append, args := #[s, x], argTypes := #[47, 47] })
    (B : Nat) {v : Value} {n : Nat} (hown : By B w v n) (hs : a.eval s = v) {u : Int}
    {b : Nat} (hx : a.eval x = .slice (some ⟨b, 0, none⟩) 1 1) (hB : w.heap.size = b) (hn : n ≤ 1000000) (hbase : B ≤ w.heap.size)
    (h : ∀ v' w', By B w' v' (n + 1) → Below B w w' → wpList Tryz.prog ops Q rest (a.put o.dst v') w') :
    wpList Tryz.prog ops Q (o :: rest) a (w.alloc (.cells #[.int .u8 u] 5)) := by
  obtain ⟨xs, hown, hxs⟩ := hown
  refine wpList_push w hgd s x _ ho B 5 (.int .u8 0) 1 1 Tryz.underlying47 info_byt rfl (by decide) hown hs (news := [.int .u8 u]) hx hB rfl (by intro x hx; simp at hx; subst hx; rfl) (by decide) (by unfold maxLen; omega) (by omega) hbase ?_
  intro v' w' h2 h3 _ _ _ _
  exact h v' w' ⟨_, h2, fun x hx => (List.mem_append.1 hx).elim (hxs x) fun hx => by simp at hx; exact ⟨u, hx⟩⟩ h3
set_option maxRecDepth 100000 in
set_option maxHeartbeats 4000000 in
theorem putnum_any (B : Nat) (v : Value) (n : Nat) (x : Int) (k : Nat) (w : World) (h : By B w v n) (hB : B ≤ w.heap.size) (hn : n ≤ 100000) (hk : k ≤ 8) (hx : -9223372036854775808 ≤ x ∧ x ≤ 9223372036854775807) :
    Calls Tryz.prog 99 #[v, .int .i64 x, .int .i64 (k : Int)] w fun e w' => ∃ v', e = .returned v' ∧ By B w' v' (n + k) ∧ Below B w w' := by
  obtain ⟨A0, c0, rfl, k1, k2⟩ := h.sl
  have HB := Lib.hid h
  obtain ⟨hx1, hx2⟩ := hx
  clear h
  go_enter Tryz.func99, Tryz.ntmps99
  go_wp2_with (fail)
  go_loopg [7, 0] k (fun gg z v wr => ∃ i : Nat, z = .int .i64 ((i : Int) - 1) ∧ i ≤ k ∧ gg = i ∧ By B wr v (n + (k - i)) ∧ Below B w wr)
  case atStart => exact ⟨k, rfl, Nat.le_refl _, rfl, by rw [Nat.sub_self]; exact HB.out, Below.refl _ _⟩
  case round =>
    obtain ⟨i, rfl, hi, hgg, hb, hw⟩ := hrel
    have HG := Lib.hid hgg
    have HBY := Lib.hid hb
    have HW := Lib.hid hw
    obtain ⟨A1, c1, hv1, k3, k4⟩ := hb.sl
    subst hv1
    have hbs : B ≤ wr.heap.size := Nat.le_trans hB hw.size
    clear hgg hb hw HB
    by_cases h0 : i = 0
    · subst h0
      have hii : ¬ (0 : Int) ≤ (0 : Int) - 1 := by omega
      have HF := Lib.hid (show By B wr (.slice A1 (n + (k - 0)) c1) (n + k) from HBY.out)
      go_wp2
      go_ret
      exact ⟨_, rfl, HF.out, HW.out⟩
    · obtain ⟨j, rfl⟩ : ∃ j, i = j + 1 := ⟨i - 1, by omega⟩
      have hj : ((j + 1 : Nat) : Int) - 1 = (j : Int) := by omega
      rw [hj]
      obtain ⟨q, hq⟩ : ∃ q, q = 8 * j := ⟨_, rfl⟩
      have hj2 : (8 : Int) * (j : Int) = (q : Int) := by omega
      have hq64 : q ≤ 64 := by omega
      clear hq
      have hji : 0 ≤ (j : Int) := by omega
      have HS := Lib.hid (show n + (k - (j + 1)) + 1 = n + (k - j) by omega)
      go_wp2_with (at_builtin; refine wpList_push1 _ rfl _ _ rfl B HBY.out (by rfl) (by rfl) rfl (by omega) hbs ?_; intro v5 w5 hv5 hb5; have HV5 := Lib.hid hv5; have HB5 := Lib.hid (HW.out.trans hb5); clear hv5 hb5)
      go_roundg j
      case measure => have := HG.out; omega
      case rel => exact ⟨j, by go_num, by omega, rfl, by rw [← HS.out]; exact HV5.out, HB5.out⟩
set_option maxRecDepth 100000 in
set_option maxHeartbeats 4000000 in
theorem checksum_any (B : Nat) (v : Value) (m : Nat) (w : World) (h : Rd B w v m) (hm : m ≤ 100000) :
    Calls Tryz.prog 102 #[v] w fun e w' => (∃ x : Int, e = .returned (.int .i64 x) ∧ -9223372036854775808 ≤ x ∧ x ≤ 9223372036854775807) ∧ w' = w := by
  obtain ⟨A, c, rfl⟩ : ∃ A c, v = .slice A m c := by
    rcases h with ⟨rfl, rfl⟩ | ⟨g, off, c, rfl, _⟩
    · exact ⟨none, 0, rfl⟩
    · exact ⟨_, c, rfl⟩
  have HR := Lib.hid h
  clear h
  go_enter Tryz.func102, Tryz.ntmps102
  go_wp2_with (fail)
  go_loopg [8, 3] m (fun gg z v wr => ∃ (i : Nat) (x : Int), z = .int .i64 i ∧ i ≤ m ∧ gg = m - i ∧ v = .int .u32 x ∧ wr = w)
  case atStart => exact ⟨0, _, rfl, by omega, by omega, rfl, rfl⟩
  case round =>
    obtain ⟨i, x, rfl, hi, hgg, rfl, rfl⟩ := hrel
    have HG := Lib.hid hgg
    clear hgg
    by_cases hlt : i < m
    · obtain ⟨g, off, c', he, hg1, hg2, hcl⟩ : ∃ g off c', Value.slice A m c = .slice (some ⟨g, off, none⟩) m c' ∧ g < B ∧ g < wr.heap.size ∧ ∀ j, j < m → ∃ u : Int, wr.cell? ⟨g, off + j, none⟩ = some (.int .u8 u) := by
        rcases HR.out with ⟨_, h⟩ | h
        · omega
        · exact h
      cases he
      obtain ⟨u, hu⟩ := hcl i hlt
      clear hcl
      go_wp2_with (fail)
      obtain ⟨V, hV⟩ : ∃ V, V = wr := ⟨_, rfl⟩
      go_loopg [16, 3] 8 (fun gg z v w' => ∃ (j : Nat) (y : Int), z = .int .i64 j ∧ j ≤ 8 ∧ gg = 8 - j ∧ v = .int .u32 y ∧ w' = wr)
      case atStart => exact ⟨0, _, rfl, by omega, by omega, rfl, rfl⟩
      case round =>
        obtain ⟨j, y, rfl, hj, hgg, rfl, rfl⟩ := hrel
        have HG2 := Lib.hid hgg
        clear hgg hV
        by_cases hj8 : j < 8
        · have hj8i : (j : Int) < 8 := by omega
          go_wp2
          · go_roundg (8 - (j + 1))
            case measure => have := HG2.out; omega
            case rel => exact ⟨j + 1, _, by go_num, by omega, rfl, rfl, rfl⟩
          · go_roundg (8 - (j + 1))
            case measure => have := HG2.out; omega
            case rel => exact ⟨j + 1, _, by go_num, by omega, rfl, rfl, rfl⟩
        · have hj8i : ¬ (j : Int) < 8 := by omega
          go_wp2
          go_roundg (m - (i + 1))
          case measure => have := HG.out; omega
          case rel => exact ⟨i + 1, _, by go_num, by omega, rfl, rfl, rfl⟩
    · obtain rfl : i = m := by omega
      go_wp2
      go_ret
      refine ⟨⟨_, rfl, ?_⟩, rfl⟩
      unfold wrap64
      omega
/-- 'append(b, p...)' -/
theorem wpList_app (w : World) {ops : Array Oper} {rest : List Oper} {o : Oper} {a : Act} {Q : Exit → Act → World → Prop} (hgd : o.guard = none) (s x : Operand)
    (ho : o.op = .call { callee := .builtin .append, args := #[s, x], argTypes := #[47, 47] })
    (B B2 : Nat) {v : Value} {n : Nat} (hown : By B w v n) (hs : a.eval s = v) {p : Value} {m : Nat} (hp : Rd B2 w p m) (hx : a.eval x = p) (hn : n ≤ 1000000) (hm : m ≤ 1000000) (hbase : B ≤ w.heap.size)
    (h : ∀ v' w', By B w' v' (n + m) → Below B w w' → (∀ k, k < w.heap.size → v.ownBlock ≠ some k → w'.heap[k]? = w.heap[k]?) → wpList Tryz.prog ops Q rest (a.put o.dst v') w') :
    wpList Tryz.prog ops Q (o :: rest) a w := by
  obtain ⟨xs, hown, hxs⟩ := hown
  obtain ⟨i, hi, hz, hsz, hby⟩ := info_parts info_byt
  rcases hp with ⟨rfl, rfl⟩ | ⟨g, off, c, rfl, hg1, hg2, hcl⟩
  · exact wpList_append_own_none hgd s x _ ho B 5 i 1 Tryz.underlying47 hi v n xs hs hown hx (h v w ⟨xs, hown, hxs⟩ (Below.refl _ _) fun _ _ _ => rfl)
  · have hall : ∀ k, k ≤ m → ∃ us : List Value, us.length = k ∧ (∀ j u, us[j]? = some u → w.cell? ⟨g, off + j, none⟩ = some u) ∧ ∀ x ∈ us, ∃ u : Int, x = .int .u8 u := by
      intro k
      induction k with
      | zero => exact fun _ => ⟨[], rfl, (fun j u hu => by simp at hu), (fun u hu => by cases hu)⟩
      | succ k ih =>
        intro hk
        obtain ⟨us, h1, h2, h3⟩ := ih (by omega)
        obtain ⟨u, hu⟩ := hcl k (by omega)
        refine ⟨us ++ [.int .u8 u], by simp [h1], fun j u' hj => ?_, fun u' hu' => ?_⟩
        · by_cases e : j < us.length
          · rw [List.getElem?_append_left e] at hj
            exact h2 j u' hj
          · have e2 : j = k := by
              have := (List.getElem?_eq_some_iff.1 hj).1
              simp at this; omega
            subst e2
            rw [List.getElem?_append_right (by omega), h1, Nat.sub_self] at hj
            simp at hj
            rw [← hj]; exact hu
        · rcases List.mem_append.1 hu' with hu' | hu'
          · exact h3 u' hu'
          · simp at hu'; exact ⟨u, hu'⟩
    obtain ⟨us, h1, h2, h3⟩ := hall m (Nat.le_refl _)
    refine wpList_append_own w hgd s x _ ho B 5 i (.int .u8 0) 1 1 Tryz.underlying47 hi hz hsz hby rfl (by decide) v n xs hs hown ⟨g, off, none⟩ m c us hx (by omega) (fun j u hu => ?_) (fun x hx => by obtain ⟨u, rfl⟩ := h3 x hx; rfl) (by unfold maxLen; omega) (by omega) hbase fun v' w' hv hgr _ => ?_
    · have e : (⟨g, off, none⟩ : Addr).add j = ⟨g, off + j, none⟩ := by
        simp only [Addr.add]
        split <;> simp_all
      rw [e]; exact h2 j u hu
    · exact h v' w' ⟨_, hv, fun x hx => (List.mem_append.1 hx).elim (hxs x) (h3 x)⟩ ⟨hgr.os, hgr.tape, hgr.output, hgr.size, fun k hk => hgr.block k (by omega) fun e => by have := (own_lt hown k e.symm).1; omega⟩ fun k hk hn => hgr.block k hk fun e => hn e.symm
set_option maxRecDepth 100000 in
set_option maxHeartbeats 4000000 in
theorem frame_any (B : Nat) (v p : Value) (n m : Nat) (w : World) (h : By B w v n) (hp : Rd B w p m) (hB : B ≤ w.heap.size) (hn : n ≤ 10000) (hm : m ≤ 10000) :
    Calls Tryz.prog 54 #[v, p] w fun e w' => ∃ v', e = .returned v' ∧ By B w' v' (n + m + 8) ∧ Below B w w' := by
  have HN := Lib.hid (putnum_any B v n (m : Int) 4 w h hB (by omega) (by omega) (by omega))
  have HC := Lib.hid (fun W (hW : Below B w W) => checksum_any B p m W (hp.ext hW) (by omega))
  have HP := Lib.hid (fun W (hW : Below B w W) => hp.ext hW)
  have HM := Lib.hid (fun v W x (hv : By B W v (n + 4 + m)) (hW : Below B w W) hx => putnum_any B v (n + 4 + m) x 4 W hv (Nat.le_trans hB hW.size) (by omega) (by omega) hx)
  obtain ⟨A0, c0, rfl, _, _⟩ := h.sl
  obtain ⟨A1, c1, rfl⟩ : ∃ A1 c1, p = .slice A1 m c1 := by
    rcases hp with ⟨rfl, rfl⟩ | ⟨g, off, c, rfl, _⟩
    · exact ⟨none, 0, rfl⟩
    · exact ⟨_, c, rfl⟩
  have HS := Lib.hid (show n + 4 + m + 4 = n + m + 8 by omega)
  clear h hp
  go_enter Tryz.func54, Tryz.ntmps54
  go_wp2_with (first
    | (go_at_call_of 99 (Value.int .i64 (m : Int)); refine (HN.out).mono ?_; rintro e w1 ⟨v1, rfl, hv1, hb1⟩; have HV1 := Lib.hid hv1; have HB1 := Lib.hid hb1; have hs1 := Nat.le_trans hB hb1.size; clear hv1 hb1)
    | (at_builtin; refine wpList_app _ rfl _ _ rfl B B HV1.out (by rfl) (HP.out _ HB1.out) (by rfl) (by omega) (by omega) hs1 ?_; intro v2 w2 hv2 hb2 _; have HV2 := Lib.hid hv2; have HB2 := Lib.hid (HB1.out.trans hb2); clear hv2 hb2)
    | (go_at_call 102; refine (HC.out _ HB2.out).mono ?_; rintro e w3 ⟨⟨x, rfl, hx⟩, rfl⟩; have HX := Lib.hid hx; clear hx)
    | (go_at_call 99; refine (HM.out _ _ _ HV2.out HB2.out HX.out).mono ?_; rintro e w4 ⟨v4, rfl, hv4, hb4⟩; have HV4 := Lib.hid hv4; have HB4 := Lib.hid (HB2.out.trans hb4); clear hv4 hb4))
  go_ret
  exact ⟨_, rfl, by rw [← HS.out]; exact HV4.out, HB4.out⟩
end Go.Proofs.YtjadbipbidghdaaGreatDoor
