/- drawn walked (the reference's). Conditions: the cells are a grid's, each a grade. -/
import Derived.Test.YtdkoomcgnaokgaaDoorTu
namespace Go.Proofs.YtdkoomcgnaokgaaDoor
open Go.RowKit

/-- a row of strings of the call's own that grows -/
def Vt (base : Nat) (w : World) (v : Value) (l : List ByteArray) : Prop := w.ownsRow base 9 1 v l.length (l.map Value.string)
theorem Vt.nil (base : Nat) (w : World) : Vt base w (.slice none 0 0) [] := own_nil w base 9 1
theorem Vt.tsl {base : Nat} {w : World} {v : Value} {l : List ByteArray} (h : Vt base w v l) : ∃ A cap, v = .slice A l.length cap ∧ l.length ≤ cap ∧ cap ≤ maxLen ∧ TSl w A l := by
  obtain ⟨A, cap, hv, h1, h2, h3⟩ := own_cells h
  refine ⟨A, cap, hv, h1, h2, ?_⟩
  rcases h3 with h3 | ⟨g, rfl, hb, hg, hc⟩
  · exact .inl (List.eq_nil_of_length_eq_zero h3)
  · exact .inr ⟨g, 0, rfl, hg, fun j hj => by rw [Nat.zero_add]; exact hc j _ (by simp [hj])⟩
/-- 'append(out, s)' of one string -/
theorem wpList_pushT (w : World) {ops : Array Oper} {rest : List Oper} {o : Oper} {a : Act} {Q : Exit → Act → World → Prop} (hgd : o.guard = none) (s x : Operand)
    (ho : o.op = .call { callee := .builtin .append, args := #[s, x], argTypes := #[22, 22] })
    (base : Nat) {v : Value} {l : List ByteArray} (hown : Vt base w v l) (hs : a.eval s = v) {r : ByteArray}
    {B : Nat} (hx : a.eval x = .slice (some ⟨B, 0, none⟩) 1 1) (hB : w.heap.size = B) (hn : l.length ≤ 1000000) (hbase : base ≤ w.heap.size)
    (h : ∀ v' w', Vt base w' v' (l ++ [r]) → Below base w w' → (∀ k, k < w.heap.size → some k ≠ v.ownBlock → w'.heap[k]? = w.heap[k]?) → wpList Tryd.prog ops Q rest (a.put o.dst v') w') :
    wpList Tryd.prog ops Q (o :: rest) a (w.alloc (.cells #[.string r] 9)) := by
  refine wpList_push w hgd s x _ ho base 9 _ 1 16 Tryd.underlying22 info_string rfl (by decide) hown hs (news := [.string r]) hx hB rfl (by intro x hx; simp at hx; subst hx; rfl) (by decide) (by unfold maxLen; omega) (by omega) hbase ?_
  intro v' w' h2 h3 h4 _ _ _
  refine h v' w' ?_ h3 h4
  have e : l.map Value.string ++ [Value.string r] = (l ++ [r]).map Value.string := by rw [List.map_append]; rfl
  have e2 : (l ++ [r]).length = l.length + 1 := by simp
  unfold Vt
  rw [← e, e2]
  exact h2
/-- a grid's cells, row by row: h rows, and x cells of the next one -/
def gridP (w : Nat) (f : Nat → Nat → Int) (h x : Nat) : List Int := ((List.range h).flatMap fun y => (List.range w).map fun x => f x y) ++ (List.range x).map fun x => f x h
theorem gridP_cell (w : Nat) (f : Nat → Nat → Int) (h x : Nat) : gridP w f h (x + 1) = gridP w f h x ++ [f x h] := by
  unfold gridP
  rw [List.range_succ, List.map_append, List.append_assoc]; rfl
theorem gridP_row (w : Nat) (f : Nat → Nat → Int) (h : Nat) : gridP w f h w = gridP w f (h + 1) 0 := by
  unfold gridP
  rw [List.range_succ, List.flatMap_append]
  simp
theorem gridP_none (w : Nat) (f : Nat → Nat → Int) : gridP w f 0 0 = [] := by simp [gridP]
theorem gridP_len (w : Nat) (f : Nat → Nat → Int) (h x : Nat) : (gridP w f h x).length = h * w + x := by
  unfold gridP
  rw [List.length_append]
  have : ∀ l : List Nat, (l.flatMap fun y => (List.range w).map fun x => f x y).length = l.length * w := by
    intro l
    induction l with
    | nil => simp
    | cons a l ih => rw [List.flatMap_cons, List.length_append, ih, List.length_cons, Nat.succ_mul]; simp; omega
  rw [this]; simp
theorem gridP_at (w : Nat) (f : Nat → Nat → Int) : ∀ (h : Nat) (x y : Nat), x < w → y < h → (gridP w f h 0)[y * w + x]? = some (f x y)
  | 0, x, y, _, hy => absurd hy (by omega)
  | h + 1, x, y, hx, hy => by
    rw [← gridP_row]
    have hl := gridP_len w f h 0
    have e : gridP w f h w = gridP w f h 0 ++ (List.range w).map fun x => f x h := by unfold gridP; simp
    rw [e]
    by_cases hyh : y < h
    · have h1 : y * w + x < h * w := by
        have := Nat.mul_le_mul_right w (show y + 1 ≤ h by omega)
        rw [Nat.succ_mul] at this
        omega
      rw [List.getElem?_append_left (by omega)]
      exact gridP_at w f h x y hx hyh
    · obtain rfl : y = h := by omega
      rw [List.getElem?_append_right (by omega), hl]
      rw [show y * w + x - (y * w + 0) = x by omega]
      simp [hx]
set_option maxRecDepth 100000 in
set_option maxHeartbeats 4000000 in
theorem drawn_any (w h : Nat) (f : Nat → Nat → Int) (C : Option Addr) (cc : Nat) (W : World) (hw : w ≤ 48) (hh : h ≤ 48) (hf : ∀ x y, x < w → y < h → 0 ≤ f x y ∧ f x y ≤ 9) (hC : ISl W C (gridP w f h 0)) :
    Calls Tryd.prog 63 #[.int .i64 (w : Int), .int .i64 (h : Int), .slice C (gridP w f h 0).length cc] W (RetSk W (skF w h fun x y => 48 + (f x y).toNat)) := by
  have hmb := run_bytes0 w (by omega)
  have HC := Lib.hid hC
  have HF := Lib.hid hf
  have HLN := Lib.hid (gridP_len w f h 0)
  have HAT := Lib.hid (fun x y hx hy => gridP_at w f h x y hx hy)
  obtain ⟨gl, hgl⟩ : ∃ gl, gl = gridP w f h 0 := ⟨_, rfl⟩
  rw [← hgl] at HC HLN HAT ⊢
  clear hC hf hgl
  go_enter Tryd.func63, Tryd.ntmps63
  go_wp2
  go_loopg [12, 7] h (fun gg i v wr => ∃ y : Nat, i = .int .i64 y ∧ y ≤ h ∧ gg = h - y ∧ Below W.heap.size W wr ∧ Vt W.heap.size wr v (skF w y fun x y => 48 + (f x y).toNat))
  case atStart => exact ⟨0, rfl, by omega, by omega, Below.refl _ _, by simpa [skF] using Vt.nil _ _⟩
  case round =>
    obtain ⟨y, rfl, hy, hg, hb, hv⟩ := hrel
    have HG := Lib.hid hg
    have HB := Lib.hid hb
    have HV := Lib.hid hv
    clear hg hb hv
    by_cases hlt : y < h
    · have HR0 := Lib.hid (OwV.new 5 wr w (fun _ => .int .u8 0))
      have HXR := Lib.hid (ext_alloc wr (.cells (cellsV w fun _ => .int .u8 0) 5))
      have HB1 := Lib.hid (bext HB.out HXR.out HB.out.size)
      have HV1 := Lib.hid (own_ext HV.out HXR.out)
      have hBw : W.heap.size ≤ wr.heap.size := HB.out.size
      go_upto_region 7 with (fail)
      obtain ⟨B, hB⟩ : ∃ B, B = wr.heap.size := ⟨_, rfl⟩
      obtain ⟨X, hX⟩ : ∃ X, X = wr.alloc (.cells (cellsV w fun _ => .int .u8 0) 5) := ⟨_, rfl⟩
      rw [← hB, ← hX]
      rw [← hB, ← hX] at HR0
      rw [← hX] at HB1 HV1
      rw [← hB] at hBw
      have HLT := Lib.hid hlt
      clear hB hX HXR
      go_loopg [18] w (fun gg i wr => ∃ q : Nat, i = .int .i64 q ∧ q ≤ w ∧ gg = w - q ∧ Below W.heap.size W wr ∧ Vt W.heap.size wr u7 (skF w y fun x y => 48 + (f x y).toNat) ∧ OwV 5 B w (fun x => .int .u8 ((if x < q then 48 + (f x y).toNat else 0 : Nat) : Int)) wr)
      case atStart => exact ⟨0, rfl, by omega, by omega, HB1.out, HV1.out, HR0.out.congr (fun i _ => by simp)⟩
      case round =>
        obtain ⟨q, rfl, hq, hg2, hb2, hv2, hr2⟩ := hrel
        have HG2 := Lib.hid hg2
        have HB2 := Lib.hid hb2
        have HV2 := Lib.hid hv2
        have HR2 := Lib.hid hr2
        clear hg2 hb2 hv2 hr2 HB1 HV1 HR0 HB HV
        by_cases hqw : q < w
        · rcases HC.out with h0 | ⟨b, off, rfl, hblt, hcl⟩
          · have := HLN.out
            have h1 := HAT.out q y hqw HLT.out
            rw [h0] at h1; simp at h1
          · have hat := HAT.out q y hqw HLT.out
            have hfb := HF.out q y hqw HLT.out
            obtain ⟨yw, hyw⟩ : ∃ yw, yw = y * w := ⟨_, rfl⟩
            have hy2 : (y : Int) * (w : Int) = (yw : Int) := by rw [hyw]; push_cast; rfl
            have hyb : yw ≤ 48 * 48 := by rw [hyw]; exact Nat.mul_le_mul (by omega) hw
            rw [← hyw] at hat
            have hidx : yw + q < gl.length := (List.getElem?_eq_some_iff.1 hat).1
            have c1 := hcl (yw + q) hidx
            rw [(List.getElem?_eq_some_iff.1 hat).2] at c1
            have c1 := (HB2.out.cell (p := ⟨b, off + (yw + q), none⟩) hblt).trans c1
            have hb3 := Nat.lt_of_lt_of_le hblt HB2.out.size
            obtain ⟨m, hm⟩ : ∃ m, m = (f q y).toNat := ⟨_, rfl⟩
            have hfm : f q y = (m : Int) := by omega
            have hm9 : m ≤ 9 := by omega
            rw [hfm] at c1
            have HM := Lib.hid hm
            have hix2 : (yw : Int) + (q : Int) < (gl.length : Int) := by omega
            have hmod : (48 + (m : Int)) % 256 = 48 + (m : Int) := by omega
            have r1 := HR2.out.cell hqw
            have r2 := HR2.out.frozen q
            have r3 := HR2.out.lt
            have HR10 := Lib.hid (show OwV 5 B w (fun x => .int .u8 ((if x < q + 1 then 48 + (f x y).toNat else 0 : Nat) : Int)) (wr.setCell ⟨B, q, none⟩ (.int .u8 (48 + (m : Int)))) from (HR2.out.set q (.int .u8 (48 + (m : Int)))).congr (fun i hi => by
              unfold updV
              by_cases e : i = q
              · subst e; rw [if_pos rfl, if_pos (by omega), ← HM.out]; rfl
              · rw [if_neg e]
                dsimp only
                by_cases h2 : i < q
                · rw [if_pos h2, if_pos (by omega)]
                · rw [if_neg h2, if_neg (by omega)]))
            have HV10 := Lib.hid (show Vt W.heap.size (wr.setCell ⟨B, q, none⟩ (.int .u8 (48 + (m : Int)))) u7 (skF w y fun x y => 48 + (f x y).toNat) from own_set HV2.out (own_ne HV2.out HR2.out (by decide)))
            have HB10 := Lib.hid (show Below W.heap.size W (wr.setCell ⟨B, q, none⟩ (.int .u8 (48 + (m : Int)))) from HB2.out.setCell hBw _)
            clear hcl hat hfb hyw hidx hm hfm
            go_wp2
            go_roundg (w - (q + 1))
            case measure => have := HG2.out; omega
            case rel => exact ⟨q + 1, by go_num, by omega, rfl, HB10.out, HV10.out, HR10.out⟩
        · obtain rfl : q = w := by omega
          have HRF := Lib.hid (show OwV 5 B q (fun x => .int .u8 ((48 + (f x y).toNat : Nat) : Int)) wr from HR2.out.congr (fun i hi => by rw [if_pos hi]))
          have hcv := row_conv (f := fun x => 48 + (f x y).toNat) HRF.out (fun i hi => by have := HF.out i y hi HLT.out; omega)
          obtain ⟨rw', hrw⟩ : ∃ rw', rw' = rowF q (fun x => 48 + (f x y).toNat) := ⟨_, rfl⟩
          rw [← hrw] at hcv
          have hsl : (skF q y fun x y => 48 + (f x y).toNat).length ≤ 1000000 := by rw [skF_len]; omega
          have HE := Lib.hid (show skF q (y + 1) (fun x y => 48 + (f x y).toNat) = skF q y (fun x y => 48 + (f x y).toNat) ++ [rw'] from by
            rw [hrw]; unfold skF; rw [List.range_succ, List.map_append]; rfl)
          have hbs : W.heap.size ≤ wr.heap.size := HB2.out.size
          clear hrw
          go_wp2_with (at_builtin; refine wpList_pushT _ rfl _ _ rfl W.heap.size HV2.out (by rfl) (by rfl) rfl hsl hbs ?_; intro v5 w5 hv5 hb5 hk5; have HV5 := Lib.hid hv5; have HB5 := Lib.hid (HB2.out.trans hb5); clear hv5 hb5 hk5)
          go_roundg (h - (y + 1))
          case measure => have := HG.out; have := HLT.out; omega
          case rel => exact ⟨y + 1, by go_num, by have := HLT.out; omega, rfl, HB5.out, by rw [HE.out]; exact HV5.out⟩
    · obtain rfl : y = h := by omega
      obtain ⟨A2, cap2, hv2, k1, k2, k3⟩ := HV.out.tsl
      subst hv2
      have HP := Lib.hid k3
      have k2' : cap2 ≤ 9223372036854775807 := by unfold maxLen at k2; omega
      clear k2 k3
      go_wp2
      go_ret
      exact ⟨HB.out, A2, cap2, rfl, k1, k2', HP.out⟩
end Go.Proofs.YtdkoomcgnaokgaaDoor
