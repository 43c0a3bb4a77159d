/- Texts joined: Tu, Dr, Mi, Mr. Conditions: see each. -/
import Derived.Test.YtmgofdgbenfjmaaDoorGs
import Derived.Lib.SlBytesRow
import Derived.Deep.CutBlock
namespace Go.Proofs.YtmgofdgbenfjmaaDoor
open Go.RowKit

def cellsV (n : Nat) (d : Nat → Value) : Array Value := ((List.range n).map d).toArray
theorem cellsV_get {n : Nat} {d : Nat → Value} {i : Nat} (h : i < n) : (cellsV n d)[i]? = some (d i) := by simp [cellsV, h]
def updV (d : Nat → Value) (i : Nat) (v : Value) : Nat → Value := fun k => if k = i then v else d k
theorem cellsV_set {n : Nat} {d : Nat → Value} {i : Nat} {v : Value} : (cellsV n d).setIfInBounds i v = cellsV n (updV d i v) := by
  unfold cellsV
  rw [List.setIfInBounds_toArray]
  congr 1
  apply List.ext_getElem
  · simp
  · intro k h1 h2
    rw [List.getElem_set]
    simp only [List.getElem_map, List.getElem_range]
    unfold updV
    by_cases hk : i = k
    · subst hk; simp
    · rw [if_neg hk, if_neg (fun h => hk h.symm)]
theorem cellsV_congr {n : Nat} {d e : Nat → Value} (h : ∀ i, i < n → d i = e i) : cellsV n d = cellsV n e := by
  unfold cellsV
  congr 1
  apply List.map_congr_left
  intro a ha
  exact h a (List.mem_range.1 ha)
theorem made_cells (z : Value) (n : Nat) : madeCells #[z] n = cellsV n fun _ => z := by
  apply Array.ext'
  rw [toList_madeCells_one]
  simp [cellsV]
  apply List.ext_getElem <;> simp
theorem info_string : (Tryd.prog.info? 9).map (fun i => (i.zero, i.size, i.bytes)) = some (some (.string ⟨#[]⟩), 1, 16) := by kernel_rfl
theorem info_byte : (Tryd.prog.info? 5).map (fun i => (i.zero, i.size, i.bytes)) = some (some (.int .u8 0), 1, 1) := by kernel_rfl
theorem run_strs (n : Nat) (h : n ≤ 1000000) (W : World) : (Instr.makeSlice 22 (.int .i64 (n : Int)) (.int .i64 (n : Int))).run Tryd.prog W = .ok (.slice (some ⟨W.heap.size, 0, none⟩) n n) (W.alloc (.cells (cellsV n fun _ => .string ⟨#[]⟩) 9)) := by
  obtain ⟨i, hi, hz, hsz, hby⟩ := info_parts info_string
  have hr := run_make (P := Tryd.prog) W 22 9 i (.string ⟨#[]⟩) Tryd.underlying22 hi hz .i64 .i64 n n (by omega) (by omega) (by rw [hby]; omega) (by omega)
  rw [hr, hsz, Nat.mul_one, Int.toNat_natCast]
  rw [show (Value.string ⟨#[]⟩).cells = #[Value.string ⟨#[]⟩] from rfl, made_cells]
theorem run_bytes0 (n : Nat) (h : n ≤ 1000000) (W : World) : (Instr.makeSlice 101 (.int .i64 (n : Int)) (.int .i64 (n : Int))).run Tryd.prog W = .ok (.slice (some ⟨W.heap.size, 0, none⟩) n n) (W.alloc (.cells (cellsV n fun _ => .int .u8 0) 5)) := by
  obtain ⟨i, hi, hz, hsz, hby⟩ := info_parts info_byte
  have hr := run_make (P := Tryd.prog) W 101 5 i (.int .u8 0) Tryd.underlying101 hi hz .i64 .i64 n n (by omega) (by omega) (by rw [hby]; omega) (by omega)
  rw [hr, hsz, Nat.mul_one, Int.toNat_natCast]
  rw [show (Value.int .u8 0).cells = #[Value.int .u8 0] from rfl, made_cells]
/-- block b holds n values, and nothing else -/
def OwV (T : TypeId) (b n : Nat) (d : Nat → Value) (w : World) : Prop := Bk T w b (cellsV n d)
section
variable {T : TypeId} {b n : Nat} {d e : Nat → Value} {w w' : World}
theorem OwV.lt (h : OwV T b n d w) : b < w.heap.size := lt_of_block h
theorem OwV.cell (h : OwV T b n d w) {i : Nat} (hi : i < n) : w.cell? ⟨b, i, none⟩ = some (d i) := (Bk.cell h i).trans (cellsV_get hi)
theorem OwV.frozen (h : OwV T b n d w) (i : Nat) : w.frozen? ⟨b, i, none⟩ = false := Bk.frozen h i
theorem OwV.set (h : OwV T b n d w) (i : Nat) (v : Value) : OwV T b n (updV d i v) (w.setCell ⟨b, i, none⟩ v) := by
  have h1 := Bk.set h i v
  rw [cellsV_set] at h1
  exact h1
theorem OwV.ext (h : OwV T b n d w) (hb : Below w.heap.size w w') : OwV T b n d w' := Bk.ext h hb
theorem OwV.set_ne (h : OwV T b n d w) {k j : Nat} (hk : b ≠ k) (y : Value) : OwV T b n d (w.setCell ⟨k, j, none⟩ y) := Bk.set_ne h hk y
theorem OwV.congr (h : OwV T b n d w) (hd : ∀ i, i < n → d i = e i) : OwV T b n e w := by
  unfold OwV
  rw [← cellsV_congr hd]
  exact h
theorem OwV.new (T : TypeId) (w : World) (n : Nat) (d : Nat → Value) : OwV T w.heap.size n d (w.alloc (.cells (cellsV n d) T)) := Bk.new T w _
end
/-- a row of bytes -/
def rowF (n : Nat) (f : Nat → Nat) : ByteArray := ⟨((List.range n).map fun x => UInt8.ofNat (f x)).toArray⟩
theorem rowF_size (n : Nat) (f : Nat → Nat) : (rowF n f).size = n := by simp [rowF, ByteArray.size]
theorem rowF_at {n : Nat} {f : Nat → Nat} {i : Nat} (h : i < (rowF n f).size) : (rowF n f)[i] = UInt8.ofNat (f i) := by
  have e : (rowF n f)[i] = (rowF n f).data[i]'(by exact h) := rfl
  rw [e]; simp [rowF]
theorem rowF_byte {n : Nat} {f : Nat → Nat} {i : Nat} (h : i < n) (hf : f i < 256) : byteAt (rowF n f) i = f i := by
  have h2 : i < (rowF n f).size := by rw [rowF_size]; exact h
  unfold byteAt
  rw [dif_pos h2, rowF_at]
  simp [UInt8.toNat_ofNat']
  omega
theorem rowF_congr {n : Nat} {f g : Nat → Nat} (h : ∀ i, i < n → f i = g i) : rowF n f = rowF n g := by
  unfold rowF
  congr 2
  apply List.map_congr_left
  intro a ha
  rw [h a (List.mem_range.1 ha)]
/-- a skin of a function -/
def skF (w h : Nat) (c : Nat → Nat → Nat) : List ByteArray := (List.range h).map fun y => rowF w fun x => c x y
theorem skF_len (w h : Nat) (c : Nat → Nat → Nat) : (skF w h c).length = h := by simp [skF]
theorem skF_at {w h : Nat} {c : Nat → Nat → Nat} {y : Nat} (hy : y < (skF w h c).length) : (skF w h c)[y] = rowF w fun x => c x y := by simp [skF]
theorem skF_congr {w h : Nat} {c d : Nat → Nat → Nat} (hcd : ∀ x y, x < w → y < h → c x y = d x y) : skF w h c = skF w h d := by
  unfold skF
  apply List.map_congr_left
  intro y hy
  exact rowF_congr fun x hx => hcd x y hx (List.mem_range.1 hy)
theorem row_conv {B n : Nat} {f : Nat → Nat} {W : World} (h : OwV 5 B n (fun x => .int .u8 (f x : Int)) W) (hf : ∀ i, i < n → f i < 256) : (convert 101 9 (.slice (some ⟨B, 0, none⟩) n n)).run Tryd.prog W = .ok (.string (rowF n f)) W := by
  have hb : Lib.Bytes W B 0 (rowF n f) := fun i hi => by
    have hin : i < n := by rw [rowF_size] at hi; exact hi
    rw [Nat.zero_add, h.cell hin, rowF_at]
    congr 2
    simp [UInt8.toNat_ofNat']
    have := hf i hin
    omega
  have hr := Lib.run_convert_whole (P := Tryd.prog) W 101 5 9 Tryd.underlying101 Tryd.underlying5 Tryd.underlying9 B 0 (rowF n f) hb n
  rw [rowF_size] at hr
  exact hr
def emp : Value := .string ⟨#[]⟩
/-- what turned's and drawn's callers get -/
def RetSk (W : World) (s : List ByteArray) (e : Ending) (W' : World) : Prop :=
  Below W.heap.size W W' ∧ ∃ A cap, e = .returned (.slice A s.length cap) ∧ s.length ≤ cap ∧ cap ≤ 9223372036854775807 ∧ TSl W' A s
set_option maxRecDepth 100000 in
set_option maxHeartbeats 4000000 in
theorem turned_any (w h : Nat) (K : FuncId) (caps : Array Value) (c : Nat → Nat → Nat) (W : World) (hw : w ≤ 1000) (hh : h ≤ 1000) (hE : ∀ args V, (callFunc K args).run Tryd.prog V = .ok (.enter K args) V)
    (hK : ∀ V, Below W.heap.size W V → ∀ x y : Nat, x < w → y < h → Calls Tryd.prog K (#[.int .i64 (x : Int), .int .i64 (y : Int)] ++ caps) V fun e w' => e = .returned (.int .u8 (c x y : Int)) ∧ Below V.heap.size V w') (hc : ∀ x y, x < w → y < h → c x y < 256) :
    Calls Tryd.prog 78 #[.int .i64 (w : Int), .int .i64 (h : Int), .func (.func K) #[] caps] W (RetSk W (skF w h c)) := by
  have hms := run_strs h (by omega)
  have hmb := run_bytes0 w (by omega)
  have HK := Lib.hid hK
  have HCB := Lib.hid hc
  have HX0 := Lib.hid (ext_alloc W (.cells (cellsV h fun _ => .string ⟨#[]⟩) 9))
  have HO0 := Lib.hid (OwV.new 9 W h (fun _ => .string ⟨#[]⟩))
  clear hK hc
  go_enter Tryd.func78, Tryd.ntmps78
  go_wp2
  clear hms
  go_loopg [15] h (fun gg i wr => ∃ y : Nat, i = .int .i64 y ∧ y ≤ h ∧ gg = h - y ∧ Below W.heap.size W wr ∧ OwV 9 W.heap.size h (fun j => if j < y then .string (rowF w fun x => c x j) else .string ⟨#[]⟩) wr)
  case atStart => exact ⟨0, rfl, by omega, by omega, HX0.out, HO0.out.congr (fun i _ => by simp)⟩
  case round =>
    obtain ⟨y, rfl, hy, hg, hb, ho⟩ := hrel
    have HG := Lib.hid hg
    have HB := Lib.hid hb
    have HO := Lib.hid ho
    clear hg hb ho HX0 HO0
    by_cases hlt : y < h
    · have HR0 := Lib.hid (OwV.new 5 wr w (fun _ => .int .u8 0))
      have HXR := Lib.hid (ext_alloc wr (.cells (cellsV w fun _ => .int .u8 0) 5))
      have HO1 := Lib.hid (HO.out.ext HXR.out)
      have HB1 := Lib.hid (bext HB.out HXR.out HB.out.size)
      have hBg : W.heap.size < wr.heap.size := HO.out.lt
      go_upto_region 7 with (fail)
      obtain ⟨B, hB⟩ : ∃ B, B = wr.heap.size := ⟨_, rfl⟩
      obtain ⟨X, hX⟩ : ∃ X, X = wr.alloc (.cells (cellsV w fun _ => .int .u8 0) 5) := ⟨_, rfl⟩
      rw [← hB, ← hX]
      rw [← hB, ← hX] at HR0
      rw [← hX] at HO1 HB1
      rw [← hB] at hBg
      have HLT := Lib.hid hlt
      clear hB hX HXR
      go_loopg [22] w (fun gg i wr => ∃ q : Nat, i = .int .i64 q ∧ q ≤ w ∧ gg = w - q ∧ Below W.heap.size W wr ∧ OwV 9 W.heap.size h (fun j => if j < y then .string (rowF w fun x => c x j) else .string ⟨#[]⟩) wr ∧ OwV 5 B w (fun x => .int .u8 ((if x < q then c x y else 0 : Nat) : Int)) wr)
      case atStart => exact ⟨0, rfl, by omega, by omega, HB1.out, HO1.out, HR0.out.congr (fun i _ => by simp)⟩
      case round =>
        obtain ⟨q, rfl, hq, hg2, hb2, ho2, hr2⟩ := hrel
        have HG2 := Lib.hid hg2
        have HB2 := Lib.hid hb2
        have HO2 := Lib.hid ho2
        have HR2 := Lib.hid hr2
        clear hg2 hb2 ho2 hr2 HB1 HO1 HR0 HB HO
        by_cases hqw : q < w
        · have HCL := Lib.hid (HK.out _ HB2.out q y hqw HLT.out)
          go_wp2_with (refine (HCL.out).mono ?_; rintro e w9 ⟨rfl, hx9⟩; have HB9 := Lib.hid (bext HB2.out hx9 HB2.out.size); have HO9 := Lib.hid (HO2.out.ext hx9); have HR9 := Lib.hid (HR2.out.ext hx9); clear hx9; have r1 := HR9.out.cell hqw; have r2 := HR9.out.frozen q; have r3 := HR9.out.lt)
          have HR10 := Lib.hid (show OwV 5 B w (fun x => .int .u8 ((if x < q + 1 then c x y else 0 : Nat) : Int)) (w9.setCell ⟨B, q, none⟩ (.int .u8 (c q y : Int))) from (HR9.out.set q (.int .u8 (c q y : Int))).congr (fun i hi => by
            unfold updV
            by_cases e : i = q
            · subst e; rw [if_pos rfl, if_pos (by omega)]
            · rw [if_neg e]
              dsimp only
              by_cases h2 : i < q
              · rw [if_pos h2, if_pos (by omega)]
              · rw [if_neg h2, if_neg (by omega)]))
          have HO10 := Lib.hid (show OwV 9 W.heap.size h (fun j => if j < y then .string (rowF w fun x => c x j) else .string ⟨#[]⟩) (w9.setCell ⟨B, q, none⟩ (.int .u8 (c q y : Int))) from HO9.out.set_ne (by omega) _)
          have HB10 := Lib.hid (show Below W.heap.size W (w9.setCell ⟨B, q, none⟩ (.int .u8 (c q y : Int))) from HB9.out.setCell (by show W.heap.size ≤ B; omega) _)
          go_roundg (w - (q + 1))
          case measure => have := HG2.out; omega
          case rel => exact ⟨q + 1, by go_num, by omega, rfl, HB10.out, HO10.out, HR10.out⟩
        · obtain rfl : q = w := by omega
          have HRF := Lib.hid (show OwV 5 B q (fun x => .int .u8 (c x y : Int)) wr from HR2.out.congr (fun i hi => by rw [if_pos hi]))
          have hcv := row_conv HRF.out (fun i hi => HCB.out i y hi HLT.out)
          have s1 := HO2.out.cell HLT.out
          have s2 := HO2.out.frozen y
          have s3 := HO2.out.lt
          have hyh : (y : Int) < (h : Int) := by have := HLT.out; omega
          obtain ⟨rw', hrw⟩ : ∃ rw', rw' = rowF q (fun x => c x y) := ⟨_, rfl⟩
          rw [← hrw] at hcv
          have HO10 := Lib.hid (show OwV 9 W.heap.size h (fun j => if j < y + 1 then .string (rowF q fun x => c x j) else .string ⟨#[]⟩) (wr.setCell ⟨W.heap.size, y, none⟩ (.string rw')) from (HO2.out.set y (.string rw')).congr (fun i hi => by
            unfold updV
            by_cases e : i = y
            · subst e; rw [if_pos rfl, if_pos (by omega), hrw]
            · rw [if_neg e]
              dsimp only
              by_cases h2 : i < y
              · rw [if_pos h2, if_pos (by omega)]
              · rw [if_neg h2, if_neg (by omega)]))
          have HB10 := Lib.hid (show Below W.heap.size W (wr.setCell ⟨W.heap.size, y, none⟩ (.string rw')) from HB2.out.setCell (Nat.le_refl _) _)
          clear hrw
          go_wp2
          go_roundg (h - (y + 1))
          case measure => have := HG.out; have := HLT.out; omega
          case rel => exact ⟨y + 1, by go_num, by have := HLT.out; omega, rfl, HB10.out, HO10.out⟩
    · obtain rfl : y = h := by omega
      go_wp2
      go_ret
      refine ⟨HB.out, some ⟨W.heap.size, 0, none⟩, y, by rw [skF_len]; rfl, by rw [skF_len]; exact Nat.le_refl _, by omega, ?_⟩
      refine .inr ⟨W.heap.size, 0, rfl, HO.out.lt, fun j hj => ?_⟩
      have hjy : j < y := by rw [skF_len] at hj; exact hj
      rw [Nat.zero_add, HO.out.cell hjy, if_pos hjy, skF_at]

/-- a row of strings of the call's own that grows -/
def Vt (base : Nat) (w : World) (v : Value) (l : List ByteArray) : Prop := w.ownsRow base 9 1 v l.length (l.map Value.string)
theorem Vt.nil (base : Nat) (w : World) : Vt base w (.slice none 0 0) [] := own_nil w base 9 1
theorem Vt.tsl {base : Nat} {w : World} {v : Value} {l : List ByteArray} (h : Vt base w v l) : ∃ A cap, v = .slice A l.length cap ∧ l.length ≤ cap ∧ cap ≤ maxLen ∧ TSl w A l := by
  obtain ⟨A, cap, hv, h1, h2, h3⟩ := own_cells h
  refine ⟨A, cap, hv, h1, h2, ?_⟩
  rcases h3 with h3 | ⟨g, rfl, hb, hg, hc⟩
  · exact .inl (List.eq_nil_of_length_eq_zero h3)
  · exact .inr ⟨g, 0, rfl, hg, fun j hj => by rw [Nat.zero_add]; exact hc j _ (by simp [hj])⟩
/-- 'append(out, s)' of one string -/
theorem wpList_pushT (w : World) {ops : Array Oper} {rest : List Oper} {o : Oper} {a : Act} {Q : Exit → Act → World → Prop} (hgd : o.guard = none) (s x : Operand)
    (ho : o.op = .call { callee := .builtin .append, args := #[s, x], argTypes := #[22, 22] })
    (base : Nat) {v : Value} {l : List ByteArray} (hown : Vt base w v l) (hs : a.eval s = v) {r : ByteArray}
    {B : Nat} (hx : a.eval x = .slice (some ⟨B, 0, none⟩) 1 1) (hB : w.heap.size = B) (hn : l.length ≤ 1000000) (hbase : base ≤ w.heap.size)
    (h : ∀ v' w', Vt base w' v' (l ++ [r]) → Below base w w' → (∀ k, k < w.heap.size → some k ≠ v.ownBlock → w'.heap[k]? = w.heap[k]?) → wpList Tryd.prog ops Q rest (a.put o.dst v') w') :
    wpList Tryd.prog ops Q (o :: rest) a (w.alloc (.cells #[.string r] 9)) := by
  refine wpList_push w hgd s x _ ho base 9 _ 1 16 Tryd.underlying22 info_string rfl (by decide) hown hs (news := [.string r]) hx hB rfl (by intro x hx; simp at hx; subst hx; rfl) (by decide) (by unfold maxLen; omega) (by omega) hbase ?_
  intro v' w' h2 h3 h4 _ _ _
  refine h v' w' ?_ h3 h4
  have e : l.map Value.string ++ [Value.string r] = (l ++ [r]).map Value.string := by rw [List.map_append]; rfl
  have e2 : (l ++ [r]).length = l.length + 1 := by simp
  unfold Vt
  rw [← e, e2]
  exact h2
/-- a grid's cells, row by row: h rows, and x cells of the next one -/
def gridP (w : Nat) (f : Nat → Nat → Int) (h x : Nat) : List Int := ((List.range h).flatMap fun y => (List.range w).map fun x => f x y) ++ (List.range x).map fun x => f x h
theorem gridP_cell (w : Nat) (f : Nat → Nat → Int) (h x : Nat) : gridP w f h (x + 1) = gridP w f h x ++ [f x h] := by
  unfold gridP
  rw [List.range_succ, List.map_append, List.append_assoc]; rfl
theorem gridP_row (w : Nat) (f : Nat → Nat → Int) (h : Nat) : gridP w f h w = gridP w f (h + 1) 0 := by
  unfold gridP
  rw [List.range_succ, List.flatMap_append]
  simp
theorem gridP_none (w : Nat) (f : Nat → Nat → Int) : gridP w f 0 0 = [] := by simp [gridP]
theorem gridP_len (w : Nat) (f : Nat → Nat → Int) (h x : Nat) : (gridP w f h x).length = h * w + x := by
  unfold gridP
  rw [List.length_append]
  have : ∀ l : List Nat, (l.flatMap fun y => (List.range w).map fun x => f x y).length = l.length * w := by
    intro l
    induction l with
    | nil => simp
    | cons a l ih => rw [List.flatMap_cons, List.length_append, ih, List.length_cons, Nat.succ_mul]; simp; omega
  rw [this]; simp
theorem gridP_at (w : Nat) (f : Nat → Nat → Int) : ∀ (h : Nat) (x y : Nat), x < w → y < h → (gridP w f h 0)[y * w + x]? = some (f x y)
  | 0, x, y, _, hy => absurd hy (by omega)
  | h + 1, x, y, hx, hy => by
    rw [← gridP_row]
    have hl := gridP_len w f h 0
    have e : gridP w f h w = gridP w f h 0 ++ (List.range w).map fun x => f x h := by unfold gridP; simp
    rw [e]
    by_cases hyh : y < h
    · have h1 : y * w + x < h * w := by
        have := Nat.mul_le_mul_right w (show y + 1 ≤ h by omega)
        rw [Nat.succ_mul] at this
        omega
      rw [List.getElem?_append_left (by omega)]
      exact gridP_at w f h x y hx hyh
    · obtain rfl : y = h := by omega
      rw [List.getElem?_append_right (by omega), hl]
      rw [show y * w + x - (y * w + 0) = x by omega]
      simp [hx]
/-- the byte of a cell -/
def cellB (l : List ByteArray) (x y : Nat) : Nat := match l[y]? with | some r => byteAt r x | none => 48
theorem cellB_at {l : List ByteArray} {x y : Nat} (hy : y < l.length) : cellB l x y = byteAt l[y] x := by unfold cellB; rw [List.getElem?_eq_getElem hy]
theorem cellB_rg {l : List ByteArray} (hok : SkOk l) (x y : Nat) : 48 ≤ cellB l x y ∧ cellB l x y ≤ 57 := by
  unfold cellB
  by_cases hy : y < l.length
  · rw [List.getElem?_eq_getElem hy]; exact byte_range (hok.row hy) x
  · rw [List.getElem?_eq_none (by omega)]
    show 48 ≤ 48 ∧ 48 ≤ 57
    decide
theorem gr_cell {l : List ByteArray} {x y : Nat} (hx : x < wid l) (hy : y < l.length) : gr l (x : Int) (y : Int) = (cellB l x y : Int) - 48 := by
  unfold gr
  rw [if_neg (by omega), Int.toNat_natCast, Int.toNat_natCast, List.getElem?_eq_getElem hy, cellB_at hy]
theorem gr_cellN {l : List ByteArray} (hok : SkOk l) {x y : Nat} (hx : x < wid l) (hy : y < l.length) : 48 + (gr l (x : Int) (y : Int)).toNat = cellB l x y := by
  rw [gr_cell hx hy]
  have := cellB_rg hok x y
  omega
theorem gr_rg {l : List ByteArray} (hok : SkOk l) (x y : Int) : 0 ≤ gr l x y ∧ gr l x y ≤ 9 := by
  unfold gr
  split
  · omega
  · rename_i h
    by_cases hy : y.toNat < l.length
    · rw [List.getElem?_eq_getElem hy]
      have := byte_range (hok.row hy) x.toNat
      simp only
      omega
    · rw [List.getElem?_eq_none (by omega)]; simp
theorem wid_skF {w h : Nat} {c : Nat → Nat → Nat} (hh : 1 ≤ h) : wid (skF w h c) = w := by
  obtain ⟨k, rfl⟩ : ∃ k, h = k + 1 := ⟨h - 1, by omega⟩
  unfold skF
  rw [List.range_succ_eq_map]
  show (rowF w _).size = w
  exact rowF_size _ _
theorem skF_ok {w h : Nat} {c : Nat → Nat → Nat} (hw : 1 ≤ w ∧ w ≤ 48) (hh : 1 ≤ h ∧ h ≤ 48) (hc : ∀ x y, x < w → y < h → 48 ≤ c x y ∧ c x y ≤ 57) : SkOk (skF w h c) := by
  refine ⟨by rw [skF_len]; omega, by rw [skF_len]; omega, by rw [wid_skF hh.1]; omega, by rw [wid_skF hh.1]; omega, fun r hr => ?_⟩
  rw [wid_skF hh.1]
  obtain ⟨y, hy, rfl⟩ := List.getElem_of_mem hr
  rw [skF_at hy]
  rw [skF_len] at hy
  rw [row_all (rowF_size _ _)]
  intro x hx
  rw [rowF_size] at hx
  have := hc x y hx hy
  rw [rowF_byte hx (by omega)]
  exact this
theorem skF_sz {w h : Nat} {c : Nat → Nat → Nat} (hw : w ≤ 48) : TSz (skF w h c) := by
  intro r hr
  obtain ⟨y, hy, rfl⟩ := List.getElem_of_mem hr
  rw [skF_at hy, rowF_size]; omega
theorem beq_self_str (s : ByteArray) : (s.toList == s.toList) = true := by simp
set_option maxHeartbeats 1000000 in
theorem equal_strs (A B : Option Addr) (c c' : Nat) (l : List ByteArray) (w : World) (hl : l.length ≤ 9223372036854775807) (hA : TSl w A l) (hB : TSl w B l) :
    Calls Tryd.prog 29 #[.slice A l.length c, .slice B l.length c'] w fun e w' => e = .returned (.bool true) ∧ Below w.heap.size w w' := by
  have HA := Lib.hid hA
  have HB := Lib.hid hB
  clear hA hB
  go_enter Tryd.func29, Tryd.ntmps29
  go_wp2
  go_loopg [13] l.length (fun g i wr => ∃ k : Nat, i = .int .i64 k ∧ k ≤ l.length ∧ g = l.length - k ∧ Below w.heap.size w wr)
  case atStart => exact ⟨0, rfl, by omega, by omega, Below.refl _ _⟩
  case round =>
    obtain ⟨k, rfl, hk, hg, hbl⟩ := hrel
    have HG := Lib.hid hg
    clear hg
    by_cases hlt : k < l.length
    · have hf := HA.out.ext hbl
      have hf' := HB.out.ext hbl
      rcases hf with hf | ⟨b, off, rfl, hblt, hc⟩
      · rw [hf] at hlt; simp at hlt
      · rcases hf' with hf' | ⟨b', off', rfl, hblt', hc'⟩
        · rw [hf'] at hlt; simp at hlt
        · have c1 := hc k hlt
          have c2 := hc' k hlt
          generalize l[k] = y at *
          have i0 : (0 : Int) ≤ (k : Int) := by omega
          have i1 : (k : Int) < (l.length : Int) := by omega
          have hbs := beq_self_str y
          clear hc hc'
          go_wp2
          go_quiet (fail)
          go_wp2
          go_roundg (l.length - (k + 1))
          case measure => have := HG.out; omega
          case rel => exact ⟨k + 1, by go_num, by omega, rfl, ext_trans hbl (ext_drewN _ _)⟩
    · go_wp2
      go_ret
      exact ⟨rfl, hbl⟩
theorem some_nil (W : World) (a : Addr) (n c : Nat) : (binOp .eql 22 (.slice (some a) n c) (.slice none 0 0)).run Tryd.prog W = .ok (.bool false) W := by kernel_rfl
set_option maxRecDepth 100000 in
set_option maxHeartbeats 2000000 in
theorem clone_any (A : Option Addr) (cap : Nat) (l : List ByteArray) (w : World) (h1 : 1 ≤ l.length) (h48 : l.length ≤ 1000) (h : TSl w A l) :
    Calls Tryd.prog 77 #[.slice A l.length cap] w (RetSk w l) := by
  rcases h with h0 | ⟨b, off, rfl, hlt, hcl⟩
  · rw [h0] at h1; simp at h1
  have hsn := some_nil
  have hx := ext_alloc w (.cells #[] 9)
  have HX := Lib.hid hx
  have HOW := Lib.hid (show (w.alloc (.cells #[] 9)).ownsRow w.heap.size 9 1 (.slice (some ⟨w.heap.size, 0, none⟩) 0 0) 0 [] from own_new (news := []) (m := 0) rfl (by decide) (Nat.le_refl _) rfl)
  have HN := Lib.hid (show ∀ (j : Nat) u, (l.map Value.string)[j]? = some u → (w.alloc (.cells #[] 9)).cell? ((⟨b, off, none⟩ : Addr).add j) = some u from fun j u hu => by
    have hj : j < l.length := by
      have := (List.getElem?_eq_some_iff.1 hu).1
      simpa using this
    have e : (⟨b, off, none⟩ : Addr).add j = ⟨b, off + j, none⟩ := by
      simp only [Addr.add]
      split <;> simp_all
    rw [e, hx.cell (p := ⟨b, off + j, none⟩) hlt, hcl j hj]
    rw [List.getElem?_map, List.getElem?_eq_getElem hj] at hu
    exact hu)
  obtain ⟨i, hi, hz, hsz, hby⟩ := info_parts info_string
  have HI := Lib.hid (And.intro hi (And.intro hz (And.intro hsz hby)))
  clear hx hcl hi hz hsz hby
  go_enter Tryd.func77, Tryd.ntmps77
  go_wp2_with (at_builtin; refine wpList_append_own _ rfl _ _ 22 rfl w.heap.size 9 i (.string ⟨#[]⟩) 1 16 Tryd.underlying22 HI.out.1 HI.out.2.1 HI.out.2.2.1 HI.out.2.2.2 rfl (by decide) _ 0 [] (by rfl) HOW.out ⟨b, off, none⟩ l.length cap (l.map Value.string) (by rfl) (by simp) HN.out (by intro u hu; obtain ⟨s, _, rfl⟩ := List.mem_map.1 hu; rfl) (by unfold maxLen; omega) (by omega) (by simp) ?_; intro v' w' hv hgr _; have HV := Lib.hid hv; have HGR := Lib.hid hgr; clear hv hgr)
  have hv := HV.out
  rw [Nat.zero_add, List.nil_append] at hv
  obtain ⟨A2, cap2, hv2, k1, k2, k3⟩ := Vt.tsl (l := l) hv
  subst hv2
  go_ret
  refine ⟨?_, A2, cap2, rfl, k1, by unfold maxLen at k2; omega, k3⟩
  exact ((Below.refl _ w).alloc (Nat.le_refl _) _).grown HGR.out (by simp) (fun k hk => by injection hk with hk; simp at hk; omega)
set_option maxRecDepth 100000 in
set_option maxHeartbeats 2000000 in
theorem mirror_cell (x y : Nat) (p q : Nat) (A : Option Addr) (cap : Nat) (l : List ByteArray) (W : World) (hok : SkOk l) (h : TSl W A l) (hp : W.cell? ⟨p, 0, none⟩ = some (.slice A l.length cap)) (hq : W.cell? ⟨q, 0, none⟩ = some (.int .i64 (wid l))) (hx : x < wid l) (hy : y < l.length) :
    Calls Tryd.prog 80 #[.int .i64 (x : Int), .int .i64 (y : Int), .pointer (some ⟨p, 0, none⟩), .pointer (some ⟨q, 0, none⟩)] W fun e w' => e = .returned (.int .u8 (cellB l (wid l - 1 - x) y : Int)) ∧ Below W.heap.size W w' := by
  have hw48 := hok.2.2.2.1
  have hl48 := hok.2.1
  rcases h with h0 | ⟨b, off, rfl, hblt, hcl⟩
  · rw [h0] at hy; simp at hy
  have c1 := hcl y hy
  have hs := (hok.row hy).1
  have HCB := Lib.hid (cellB_at (x := wid l - 1 - x) hy)
  obtain ⟨r, hr⟩ : ∃ r, r = l[y] := ⟨_, rfl⟩
  rw [← hr] at c1 hs HCB
  have hyl : (y : Int) < (l.length : Int) := by omega
  obtain ⟨n, hn⟩ : ∃ n, n = wid l := ⟨_, rfl⟩
  rw [← hn] at hq hx hw48 hs HCB ⊢
  obtain ⟨m, hm⟩ : ∃ m, m = n - 1 - x := ⟨_, rfl⟩
  have e1 : IntKind.i64.wrap ((n : Int) - 1) = (n : Int) - 1 := IntWalk.i64_in _ ⟨by omega, by omega⟩
  have e2 : (n : Int) - 1 - (x : Int) = (m : Int) := by omega
  have hmr : m < r.size := by omega
  have hmr2 : (m : Int) < (r.size : Int) := by omega
  rw [← hm] at HCB ⊢
  have HB := Lib.hid (show byteAt r m = r[m].toNat from dif_pos hmr)
  obtain ⟨z, hz⟩ : ∃ z, z = cellB l m y := ⟨_, rfl⟩
  have HZ := Lib.hid hz
  rw [← hz]
  clear hcl hr hn hm hz hs
  go_enter Tryd.func80, Tryd.ntmps80
  go_upto_region 1 with (fail)
  go_quiet (fail)
  go_wp2
  go_ret
  refine ⟨?_, ext_drewN _ _⟩
  rw [HZ.out, HCB.out, HB.out]
  rfl

/-- a skin, or an error -/
def RetS2 (w : World) (ok : Prop) (er : Int) (s : List ByteArray) (e : Ending) (w' : World) : Prop :=
  Below w.heap.size w w' ∧ ((¬ ok ∧ e = .returned (.tuple #[.slice none 0 0, .int .i64 er])) ∨
    (ok ∧ ∃ A cap, e = .returned (.tuple #[.slice A s.length cap, .int .i64 0]) ∧ s.length ≤ cap ∧ cap ≤ 9223372036854775807 ∧ TSl w' A s))
/-- the mirrored skin -/
def mirP (l : List ByteArray) : List ByteArray := skF (wid l) l.length fun x y => cellB l (wid l - 1 - x) y
theorem first_row {l : List ByteArray} (hok : SkOk l) {b off : Nat} {W : World} (hcl : ∀ j (h : j < l.length), W.cell? ⟨b, off + j, none⟩ = some (.string l[j])) : ∃ r0 : ByteArray, W.cell? ⟨b, off, none⟩ = some (.string r0) ∧ r0.size = wid l := by
  have h1 := hok.1
  have c0 := hcl 0 (by omega)
  rw [Nat.add_zero] at c0
  exact ⟨_, c0, (hok.row (show 0 < l.length by omega)).1⟩
set_option maxRecDepth 100000 in
set_option maxHeartbeats 4000000 in
theorem mirror_any (A : Option Addr) (cap : Nat) (l : List ByteArray) (w : World) (hc : l.length ≤ cap) (hcm : cap ≤ 9223372036854775807) (h : TSl w A l) (hz : TSz l) :
    Calls Tryd.prog 39 #[.slice A l.length cap] w (RetS2 w (SkOk l) 2 (mirP l)) := by
  have hmf : ∀ (fn : Fn) (first cap : Array Value) (w : World), (Instr.makeFunc fn first cap).run Tryd.prog w = .ok (.func fn first cap) w := fun _ _ _ _ => rfl
  have hx0 := ext_alloc w (.cells #[.slice A l.length cap] 22)
  have HX0 := Lib.hid hx0
  have HB0 := Lib.hid (Bk.new 22 w #[.slice A l.length cap])
  have HV := Lib.hid (valid_any A cap l _ hc hcm (h.ext hx0) hz)
  by_cases hok : SkOk l
  · rw [decide_eq_true hok] at HV
    have HOK := Lib.hid hok
    have HT := Lib.hid h
    rcases h with h0 | ⟨b, off, rfl, hblt, hcl⟩
    · have h1 := hok.1; rw [h0] at h1; simp at h1
    have HC := Lib.hid (show ∀ W, Below w.heap.size w W → b < W.heap.size ∧ ∃ r0 : ByteArray, W.cell? ⟨b, off, none⟩ = some (.string r0) ∧ r0.size = wid l from fun W hW => ⟨Nat.lt_of_lt_of_le hblt hW.size, first_row hok (fun j hj => (hW.cell (p := ⟨b, off + j, none⟩) hblt).trans (hcl j hj))⟩)
    have hl1 := hok.1
    have hl48 := hok.2.1
    have hw48 := hok.2.2.2.1
    clear hok hcl hblt hx0 hz
    go_enter Tryd.func39, Tryd.ntmps39
    go_upto_region 3 with (go_at_call 42; refine (HV.out).mono ?_; rintro e w1 ⟨rfl, hx1⟩; have HB1 := Lib.hid (HB0.out.ext hx1); have BB1 := Lib.hid (bext HX0.out hx1 HX0.out.size); clear hx1; obtain ⟨f1, f2, f3⟩ := HB1.out.facts)
    obtain ⟨hblt, r0, c0, hr0⟩ := HC.out _ BB1.out
    go_upto_region 4 with (fail)
    have HX2 := Lib.hid (ext_alloc w1 (.cells #[.int .i64 (wid l)] 3))
    have HB2 := Lib.hid (HB1.out.ext HX2.out)
    have HQ := Lib.hid (Bk.new 3 w1 #[.int .i64 (wid l)])
    have BB2 := Lib.hid (bext BB1.out HX2.out BB1.out.size)
    obtain ⟨X, hX⟩ : ∃ X, X = w1.alloc (.cells #[.int .i64 (wid l)] 3) := ⟨_, rfl⟩
    obtain ⟨q, hq⟩ : ∃ q, q = w1.heap.size := ⟨_, rfl⟩
    rw [← hX] at HB2 HQ BB2
    rw [← hq] at HQ
    have hg : True := trivial
    first
      | rw [← hq, ← hX]
      | (rw [hr0, ← hq, ← hX])
    clear hX hq c0 hblt f1 f2 f3 hg
    obtain ⟨f1, f2, f3⟩ := HB2.out.facts
    obtain ⟨q1, q2, q3⟩ := HQ.out.facts
    have HTU := Lib.hid (turned_any (wid l) l.length 80 #[.pointer (some ⟨w.heap.size, 0, none⟩), .pointer (some ⟨q, 0, none⟩)] (fun x y => cellB l (wid l - 1 - x) y) X (by omega) (by omega) (fun _ _ => rfl)
      (fun V hV x y hx hy => mirror_cell x y w.heap.size q (some ⟨b, off, none⟩) cap l V HOK.out (HT.out.ext (bext BB2.out hV BB2.out.size)) ((HB2.out.ext hV).cell 0) ((HQ.out.ext hV).cell 0) hx hy)
      (fun x y _ _ => by have := cellB_rg HOK.out (wid l - 1 - x) y; omega))
    unfold RetSk at HTU
    obtain ⟨ms, hms⟩ : ∃ ms, ms = mirP l := ⟨_, rfl⟩
    have HMS := Lib.hid hms
    rw [show skF (wid l) l.length (fun x y => cellB l (wid l - 1 - x) y) = ms from hms.symm] at HTU
    clear hms
    go_wp2_with (go_at_call 78; refine (HTU.out).mono ?_; rintro e w5 ⟨hx5, A5, cap5, rfl, k1, k2, k3⟩)
    refine bodyPost_ret (v := .tuple #[.slice A5 ms.length cap5, .int .i64 0]) (by simp [results, Tryd.results39, go_sem]) rfl ?_
    have hm2 := HMS.out
    subst hm2
    exact ⟨bext BB2.out hx5 BB2.out.size, .inr ⟨HOK.out, A5, cap5, rfl, k1, k2, k3⟩⟩
  · rw [decide_eq_false hok] at HV
    have HOK := Lib.hid hok
    clear hok h hz hx0
    go_enter Tryd.func39, Tryd.ntmps39
    go_wp2_with (go_at_call 42; refine (HV.out).mono ?_; rintro e w1 ⟨rfl, hx1⟩; obtain ⟨f1, f2, f3⟩ := (HB0.out.ext hx1).facts)
    refine bodyPost_ret (v := .tuple #[.slice none 0 0, .int .i64 2]) (by simp [results, Tryd.results39, go_sem]) rfl ?_
    exact ⟨bext HX0.out hx1 HX0.out.size, .inl ⟨HOK.out, rfl⟩⟩
end Go.Proofs.YtmgofdgbenfjmaaDoor
