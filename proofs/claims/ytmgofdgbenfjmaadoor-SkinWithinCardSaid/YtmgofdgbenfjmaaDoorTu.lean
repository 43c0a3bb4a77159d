/- Rows of any one-cell values; turned walked. Conditions: the closure answers as c. -/
import Derived.Test.YtmgofdgbenfjmaaDoorGs
import Derived.Lib.SlBytesRow
namespace Go.Proofs.YtmgofdgbenfjmaaDoor
open Go.RowKit

def cellsV (n : Nat) (d : Nat → Value) : Array Value := ((List.range n).map d).toArray
theorem cellsV_get {n : Nat} {d : Nat → Value} {i : Nat} (h : i < n) : (cellsV n d)[i]? = some (d i) := by simp [cellsV, h]
def updV (d : Nat → Value) (i : Nat) (v : Value) : Nat → Value := fun k => if k = i then v else d k
theorem cellsV_set {n : Nat} {d : Nat → Value} {i : Nat} {v : Value} : (cellsV n d).setIfInBounds i v = cellsV n (updV d i v) := by
  unfold cellsV
  rw [List.setIfInBounds_toArray]
  congr 1
  apply List.ext_getElem
  · simp
  · intro k h1 h2
    rw [List.getElem_set]
    simp only [List.getElem_map, List.getElem_range]
    unfold updV
    by_cases hk : i = k
    · subst hk; simp
    · rw [if_neg hk, if_neg (fun h => hk h.symm)]
theorem cellsV_congr {n : Nat} {d e : Nat → Value} (h : ∀ i, i < n → d i = e i) : cellsV n d = cellsV n e := by
  unfold cellsV
  congr 1
  apply List.map_congr_left
  intro a ha
  exact h a (List.mem_range.1 ha)
theorem made_cells (z : Value) (n : Nat) : madeCells #[z] n = cellsV n fun _ => z := by
  apply Array.ext'
  rw [toList_madeCells_one]
  simp [cellsV]
  apply List.ext_getElem <;> simp
theorem info_string : (Tryd.prog.info? 9).map (fun i => (i.zero, i.size, i.bytes)) = some (some (.string ⟨#[]⟩), 1, 16) := by kernel_rfl
theorem info_byte : (Tryd.prog.info? 5).map (fun i => (i.zero, i.size, i.bytes)) = some (some (.int .u8 0), 1, 1) := by kernel_rfl
theorem run_strs (n : Nat) (h : n ≤ 1000000) (W : World) : (Instr.makeSlice 22 (.int .i64 (n : Int)) (.int .i64 (n : Int))).run Tryd.prog W = .ok (.slice (some ⟨W.heap.size, 0, none⟩) n n) (W.alloc (.cells (cellsV n fun _ => .string ⟨#[]⟩) 9)) := by
  obtain ⟨i, hi, hz, hsz, hby⟩ := info_parts info_string
  have hr := run_make (P := Tryd.prog) W 22 9 i (.string ⟨#[]⟩) Tryd.underlying22 hi hz .i64 .i64 n n (by omega) (by omega) (by rw [hby]; omega) (by omega)
  rw [hr, hsz, Nat.mul_one, Int.toNat_natCast]
  rw [show (Value.string ⟨#[]⟩).cells = #[Value.string ⟨#[]⟩] from rfl, made_cells]
theorem run_bytes0 (n : Nat) (h : n ≤ 1000000) (W : World) : (Instr.makeSlice 101 (.int .i64 (n : Int)) (.int .i64 (n : Int))).run Tryd.prog W = .ok (.slice (some ⟨W.heap.size, 0, none⟩) n n) (W.alloc (.cells (cellsV n fun _ => .int .u8 0) 5)) := by
  obtain ⟨i, hi, hz, hsz, hby⟩ := info_parts info_byte
  have hr := run_make (P := Tryd.prog) W 101 5 i (.int .u8 0) Tryd.underlying101 hi hz .i64 .i64 n n (by omega) (by omega) (by rw [hby]; omega) (by omega)
  rw [hr, hsz, Nat.mul_one, Int.toNat_natCast]
  rw [show (Value.int .u8 0).cells = #[Value.int .u8 0] from rfl, made_cells]
/-- block b holds n values, and nothing else -/
def OwV (T : TypeId) (b n : Nat) (d : Nat → Value) (w : World) : Prop := Bk T w b (cellsV n d)
section
variable {T : TypeId} {b n : Nat} {d e : Nat → Value} {w w' : World}
theorem OwV.lt (h : OwV T b n d w) : b < w.heap.size := lt_of_block h
theorem OwV.cell (h : OwV T b n d w) {i : Nat} (hi : i < n) : w.cell? ⟨b, i, none⟩ = some (d i) := (Bk.cell h i).trans (cellsV_get hi)
theorem OwV.frozen (h : OwV T b n d w) (i : Nat) : w.frozen? ⟨b, i, none⟩ = false := Bk.frozen h i
theorem OwV.set (h : OwV T b n d w) (i : Nat) (v : Value) : OwV T b n (updV d i v) (w.setCell ⟨b, i, none⟩ v) := by
  have h1 := Bk.set h i v
  rw [cellsV_set] at h1
  exact h1
theorem OwV.ext (h : OwV T b n d w) (hb : Below w.heap.size w w') : OwV T b n d w' := Bk.ext h hb
theorem OwV.set_ne (h : OwV T b n d w) {k j : Nat} (hk : b ≠ k) (y : Value) : OwV T b n d (w.setCell ⟨k, j, none⟩ y) := Bk.set_ne h hk y
theorem OwV.congr (h : OwV T b n d w) (hd : ∀ i, i < n → d i = e i) : OwV T b n e w := by
  unfold OwV
  rw [← cellsV_congr hd]
  exact h
theorem OwV.new (T : TypeId) (w : World) (n : Nat) (d : Nat → Value) : OwV T w.heap.size n d (w.alloc (.cells (cellsV n d) T)) := Bk.new T w _
end
/-- a row of bytes -/
def rowF (n : Nat) (f : Nat → Nat) : ByteArray := ⟨((List.range n).map fun x => UInt8.ofNat (f x)).toArray⟩
theorem rowF_size (n : Nat) (f : Nat → Nat) : (rowF n f).size = n := by simp [rowF, ByteArray.size]
theorem rowF_at {n : Nat} {f : Nat → Nat} {i : Nat} (h : i < (rowF n f).size) : (rowF n f)[i] = UInt8.ofNat (f i) := by
  have e : (rowF n f)[i] = (rowF n f).data[i]'(by exact h) := rfl
  rw [e]; simp [rowF]
theorem rowF_byte {n : Nat} {f : Nat → Nat} {i : Nat} (h : i < n) (hf : f i < 256) : byteAt (rowF n f) i = f i := by
  have h2 : i < (rowF n f).size := by rw [rowF_size]; exact h
  unfold byteAt
  rw [dif_pos h2, rowF_at]
  simp [UInt8.toNat_ofNat']
  omega
theorem rowF_congr {n : Nat} {f g : Nat → Nat} (h : ∀ i, i < n → f i = g i) : rowF n f = rowF n g := by
  unfold rowF
  congr 2
  apply List.map_congr_left
  intro a ha
  rw [h a (List.mem_range.1 ha)]
/-- a skin of a function -/
def skF (w h : Nat) (c : Nat → Nat → Nat) : List ByteArray := (List.range h).map fun y => rowF w fun x => c x y
theorem skF_len (w h : Nat) (c : Nat → Nat → Nat) : (skF w h c).length = h := by simp [skF]
theorem skF_at {w h : Nat} {c : Nat → Nat → Nat} {y : Nat} (hy : y < (skF w h c).length) : (skF w h c)[y] = rowF w fun x => c x y := by simp [skF]
theorem skF_congr {w h : Nat} {c d : Nat → Nat → Nat} (hcd : ∀ x y, x < w → y < h → c x y = d x y) : skF w h c = skF w h d := by
  unfold skF
  apply List.map_congr_left
  intro y hy
  exact rowF_congr fun x hx => hcd x y hx (List.mem_range.1 hy)
theorem row_conv {B n : Nat} {f : Nat → Nat} {W : World} (h : OwV 5 B n (fun x => .int .u8 (f x : Int)) W) (hf : ∀ i, i < n → f i < 256) : (convert 101 9 (.slice (some ⟨B, 0, none⟩) n n)).run Tryd.prog W = .ok (.string (rowF n f)) W := by
  have hb : Lib.Bytes W B 0 (rowF n f) := fun i hi => by
    have hin : i < n := by rw [rowF_size] at hi; exact hi
    rw [Nat.zero_add, h.cell hin, rowF_at]
    congr 2
    simp [UInt8.toNat_ofNat']
    have := hf i hin
    omega
  have hr := Lib.run_convert_whole (P := Tryd.prog) W 101 5 9 Tryd.underlying101 Tryd.underlying5 Tryd.underlying9 B 0 (rowF n f) hb n
  rw [rowF_size] at hr
  exact hr
def emp : Value := .string ⟨#[]⟩
/-- what turned's and drawn's callers get -/
def RetSk (W : World) (s : List ByteArray) (e : Ending) (W' : World) : Prop :=
  Below W.heap.size W W' ∧ ∃ A cap, e = .returned (.slice A s.length cap) ∧ s.length ≤ cap ∧ cap ≤ 9223372036854775807 ∧ TSl W' A s
set_option maxRecDepth 100000 in
set_option maxHeartbeats 4000000 in
theorem turned_any (w h : Nat) (K : FuncId) (caps : Array Value) (c : Nat → Nat → Nat) (W : World) (hw : w ≤ 1000) (hh : h ≤ 1000) (hE : ∀ args V, (callFunc K args).run Tryd.prog V = .ok (.enter K args) V)
    (hK : ∀ V, Below W.heap.size W V → ∀ x y : Nat, x < w → y < h → Calls Tryd.prog K (#[.int .i64 (x : Int), .int .i64 (y : Int)] ++ caps) V fun e w' => e = .returned (.int .u8 (c x y : Int)) ∧ Below V.heap.size V w') (hc : ∀ x y, x < w → y < h → c x y < 256) :
    Calls Tryd.prog 78 #[.int .i64 (w : Int), .int .i64 (h : Int), .func (.func K) #[] caps] W (RetSk W (skF w h c)) := by
  have hms := run_strs h (by omega)
  have hmb := run_bytes0 w (by omega)
  have HK := Lib.hid hK
  have HCB := Lib.hid hc
  have HX0 := Lib.hid (ext_alloc W (.cells (cellsV h fun _ => .string ⟨#[]⟩) 9))
  have HO0 := Lib.hid (OwV.new 9 W h (fun _ => .string ⟨#[]⟩))
  clear hK hc
  go_enter Tryd.func78, Tryd.ntmps78
  go_wp2
  clear hms
  go_loopg [15] h (fun gg i wr => ∃ y : Nat, i = .int .i64 y ∧ y ≤ h ∧ gg = h - y ∧ Below W.heap.size W wr ∧ OwV 9 W.heap.size h (fun j => if j < y then .string (rowF w fun x => c x j) else .string ⟨#[]⟩) wr)
  case atStart => exact ⟨0, rfl, by omega, by omega, HX0.out, HO0.out.congr (fun i _ => by simp)⟩
  case round =>
    obtain ⟨y, rfl, hy, hg, hb, ho⟩ := hrel
    have HG := Lib.hid hg
    have HB := Lib.hid hb
    have HO := Lib.hid ho
    clear hg hb ho HX0 HO0
    by_cases hlt : y < h
    · have HR0 := Lib.hid (OwV.new 5 wr w (fun _ => .int .u8 0))
      have HXR := Lib.hid (ext_alloc wr (.cells (cellsV w fun _ => .int .u8 0) 5))
      have HO1 := Lib.hid (HO.out.ext HXR.out)
      have HB1 := Lib.hid (bext HB.out HXR.out HB.out.size)
      have hBg : W.heap.size < wr.heap.size := HO.out.lt
      go_upto_region 7 with (fail)
      obtain ⟨B, hB⟩ : ∃ B, B = wr.heap.size := ⟨_, rfl⟩
      obtain ⟨X, hX⟩ : ∃ X, X = wr.alloc (.cells (cellsV w fun _ => .int .u8 0) 5) := ⟨_, rfl⟩
      rw [← hB, ← hX]
      rw [← hB, ← hX] at HR0
      rw [← hX] at HO1 HB1
      rw [← hB] at hBg
      have HLT := Lib.hid hlt
      clear hB hX HXR
      go_loopg [22] w (fun gg i wr => ∃ q : Nat, i = .int .i64 q ∧ q ≤ w ∧ gg = w - q ∧ Below W.heap.size W wr ∧ OwV 9 W.heap.size h (fun j => if j < y then .string (rowF w fun x => c x j) else .string ⟨#[]⟩) wr ∧ OwV 5 B w (fun x => .int .u8 ((if x < q then c x y else 0 : Nat) : Int)) wr)
      case atStart => exact ⟨0, rfl, by omega, by omega, HB1.out, HO1.out, HR0.out.congr (fun i _ => by simp)⟩
      case round =>
        obtain ⟨q, rfl, hq, hg2, hb2, ho2, hr2⟩ := hrel
        have HG2 := Lib.hid hg2
        have HB2 := Lib.hid hb2
        have HO2 := Lib.hid ho2
        have HR2 := Lib.hid hr2
        clear hg2 hb2 ho2 hr2 HB1 HO1 HR0 HB HO
        by_cases hqw : q < w
        · have HCL := Lib.hid (HK.out _ HB2.out q y hqw HLT.out)
          go_wp2_with (refine (HCL.out).mono ?_; rintro e w9 ⟨rfl, hx9⟩; have HB9 := Lib.hid (bext HB2.out hx9 HB2.out.size); have HO9 := Lib.hid (HO2.out.ext hx9); have HR9 := Lib.hid (HR2.out.ext hx9); clear hx9; have r1 := HR9.out.cell hqw; have r2 := HR9.out.frozen q; have r3 := HR9.out.lt)
          have HR10 := Lib.hid (show OwV 5 B w (fun x => .int .u8 ((if x < q + 1 then c x y else 0 : Nat) : Int)) (w9.setCell ⟨B, q, none⟩ (.int .u8 (c q y : Int))) from (HR9.out.set q (.int .u8 (c q y : Int))).congr (fun i hi => by
            unfold updV
            by_cases e : i = q
            · subst e; rw [if_pos rfl, if_pos (by omega)]
            · rw [if_neg e]
              dsimp only
              by_cases h2 : i < q
              · rw [if_pos h2, if_pos (by omega)]
              · rw [if_neg h2, if_neg (by omega)]))
          have HO10 := Lib.hid (show OwV 9 W.heap.size h (fun j => if j < y then .string (rowF w fun x => c x j) else .string ⟨#[]⟩) (w9.setCell ⟨B, q, none⟩ (.int .u8 (c q y : Int))) from HO9.out.set_ne (by omega) _)
          have HB10 := Lib.hid (show Below W.heap.size W (w9.setCell ⟨B, q, none⟩ (.int .u8 (c q y : Int))) from HB9.out.setCell (by show W.heap.size ≤ B; omega) _)
          go_roundg (w - (q + 1))
          case measure => have := HG2.out; omega
          case rel => exact ⟨q + 1, by go_num, by omega, rfl, HB10.out, HO10.out, HR10.out⟩
        · obtain rfl : q = w := by omega
          have HRF := Lib.hid (show OwV 5 B q (fun x => .int .u8 (c x y : Int)) wr from HR2.out.congr (fun i hi => by rw [if_pos hi]))
          have hcv := row_conv HRF.out (fun i hi => HCB.out i y hi HLT.out)
          have s1 := HO2.out.cell HLT.out
          have s2 := HO2.out.frozen y
          have s3 := HO2.out.lt
          have hyh : (y : Int) < (h : Int) := by have := HLT.out; omega
          obtain ⟨rw', hrw⟩ : ∃ rw', rw' = rowF q (fun x => c x y) := ⟨_, rfl⟩
          rw [← hrw] at hcv
          have HO10 := Lib.hid (show OwV 9 W.heap.size h (fun j => if j < y + 1 then .string (rowF q fun x => c x j) else .string ⟨#[]⟩) (wr.setCell ⟨W.heap.size, y, none⟩ (.string rw')) from (HO2.out.set y (.string rw')).congr (fun i hi => by
            unfold updV
            by_cases e : i = y
            · subst e; rw [if_pos rfl, if_pos (by omega), hrw]
            · rw [if_neg e]
              dsimp only
              by_cases h2 : i < y
              · rw [if_pos h2, if_pos (by omega)]
              · rw [if_neg h2, if_neg (by omega)]))
          have HB10 := Lib.hid (show Below W.heap.size W (wr.setCell ⟨W.heap.size, y, none⟩ (.string rw')) from HB2.out.setCell (Nat.le_refl _) _)
          clear hrw
          go_wp2
          go_roundg (h - (y + 1))
          case measure => have := HG.out; have := HLT.out; omega
          case rel => exact ⟨y + 1, by go_num, by have := HLT.out; omega, rfl, HB10.out, HO10.out⟩
    · obtain rfl : y = h := by omega
      go_wp2
      go_ret
      refine ⟨HB.out, some ⟨W.heap.size, 0, none⟩, y, by rw [skF_len]; rfl, by rw [skF_len]; exact Nat.le_refl _, by omega, ?_⟩
      refine .inr ⟨W.heap.size, 0, rfl, HO.out.lt, fun j hj => ?_⟩
      have hjy : j < y := by rw [skF_len] at hj; exact hj
      rw [Nat.zero_add, HO.out.cell hjy, if_pos hjy, skF_at]
end Go.Proofs.YtmgofdgbenfjmaaDoor
