/- Grades walked, the program's and the reference's. Conditions: each string's length is an int. -/
import Derived.Test.YtmgofdgbenfjmaaDoorRg
import Derived.Test.YtmgofdgbenfjmaaDoorFl
import Derived.Lib.ConvBytes
namespace Go.Proofs.YtmgofdgbenfjmaaDoor
open Go.RowKit

/-- a row's bytes counted, q of them -/
def tlR (d : Nat → Int) (r : ByteArray) : Nat → (Nat → Int)
  | 0 => d
  | q + 1 => upd (tlR d r q) (byteAt r q - 48) (tlR d r q (byteAt r q - 48) + 1)
/-- k rows counted -/
def tlK (l : List ByteArray) : Nat → (Nat → Int)
  | 0 => fun _ => 0
  | k + 1 => match l[k]? with | some r => tlR (tlK l k) r r.size | none => tlK l k
theorem tlR_bd (d : Nat → Int) (r : ByteArray) (j : Nat) : ∀ q, d j ≤ tlR d r q j ∧ tlR d r q j ≤ d j + q
  | 0 => by simp [tlR]
  | q + 1 => by
    have h := tlR_bd d r j q
    unfold tlR upd
    split
    · rename_i e; subst e; push_cast; omega
    · push_cast; omega
theorem tlK_succ {l : List ByteArray} {k : Nat} (h : k < l.length) : tlK l (k + 1) = tlR (tlK l k) l[k] l[k].size := by
  rw [tlK, List.getElem?_eq_getElem h]
theorem tlK_bd {l : List ByteArray} (hok : SkOk l) (j : Nat) : ∀ k, 0 ≤ tlK l k j ∧ tlK l k j ≤ 48 * k
  | 0 => by simp [tlK]
  | k + 1 => by
    have h := tlK_bd hok j k
    by_cases hk : k < l.length
    · rw [tlK_succ hk]
      have h2 := tlR_bd (tlK l k) l[k] j l[k].size
      have h3 := (hok.row hk).1
      have h4 := hok.2.2.2.1
      push_cast
      omega
    · have e : tlK l (k + 1) = tlK l k := by rw [tlK, List.getElem?_eq_none (by omega)]
      rw [e]; push_cast; omega
theorem bw_ext (w : World) (e : TypeId) (s : ByteArray) : Below w.heap.size w (Lib.bytesWorld w e s) :=
  ⟨rfl, rfl, rfl, by rw [Lib.bytesWorld_size]; omega, fun k hk => Lib.bytesWorld_at_old w e s k hk⟩
theorem bw_cell (w : World) (e : TypeId) (s : ByteArray) (j : Nat) (hj : j < s.size) : (Lib.bytesWorld w e s).cell? ⟨w.heap.size, j, none⟩ = some (.int .u8 (byteAt s j : Int)) := by
  rw [Lib.bytesWorld_cell w e s j hj]
  have e1 : byteAt s j = s[j].toNat := dif_pos hj
  have e2 : s.data.toList.getD j 0 = s[j] := by
    rw [List.getD_eq_getElem?_getD]
    have e4 : s[j] = s.data[j]'(by exact hj) := rfl
    rw [e4]
    simp [hj]
  rw [e1, e2]
/-- what Grades answers -/
def RetGs (w : World) (l : List ByteArray) (e : Ending) (w' : World) : Prop :=
  Below w.heap.size w w' ∧ ((¬ SkOk l ∧ e = .returned (.tuple #[.slice none 0 0, .int .i64 2])) ∨
    (SkOk l ∧ ∃ g, e = .returned (.tuple #[.slice (some ⟨g, 0, none⟩) 10 10, .int .i64 0]) ∧ w.heap.size ≤ g ∧ ∃ T, Ow T g 10 (tlK l l.length) w'))
set_option maxRecDepth 100000 in
set_option maxHeartbeats 4000000 in
theorem grades_any (A : Option Addr) (cap : Nat) (l : List ByteArray) (w : World) (hc : l.length ≤ cap) (hcm : cap ≤ 9223372036854775807) (h : TSl w A l) (hz : TSz l) :
    Calls Tryd.prog 40 #[.slice A l.length cap] w (RetGs w l) := by
  have HV := Lib.hid (valid_any A cap l w hc hcm h hz)
  by_cases hok : SkOk l
  · rw [decide_eq_true hok] at HV
    have HOK := Lib.hid hok
    have HT := Lib.hid h
    have hl1 := hok.1
    have hl48 := hok.2.1
    rcases h with h0 | ⟨b, off, rfl, hlt, hcl⟩
    · rw [h0] at hl1; simp at hl1
    have HC := Lib.hid (show ∀ W, Below w.heap.size w W → b < W.heap.size ∧ ∀ j (hj : j < l.length), W.cell? ⟨b, off + j, none⟩ = some (.string l[j]) from fun W hW => ⟨Nat.lt_of_lt_of_le hlt hW.size, fun j hj => (hW.cell (p := ⟨b, off + j, none⟩) hlt).trans (hcl j hj)⟩)
    clear hok hcl hz
    go_enter Tryd.func40, Tryd.ntmps40
    go_upto_region 4 with (go_at_call 42; refine (HV.out).mono ?_; rintro e w1 ⟨rfl, hx1⟩)
    have HO0 := Lib.hid (Ow.new 122 w1 10 (fun _ => 0))
    have HX0 := Lib.hid (ext_trans hx1 (ext_alloc w1 (.cells (cellsOf 10 fun _ => 0) 122)))
    have hz10 : (#[.int .i64 0, .int .i64 0, .int .i64 0, .int .i64 0, .int .i64 0, .int .i64 0, .int .i64 0, .int .i64 0, .int .i64 0, .int .i64 0] : Array Value) = cellsOf 10 (fun _ => 0) := by kernel_rfl
    rw [hz10]
    obtain ⟨g, hg⟩ : ∃ g, g = w1.heap.size := ⟨_, rfl⟩
    have hgw : w.heap.size ≤ g := by rw [hg]; exact hx1.size
    obtain ⟨X, hX⟩ : ∃ X, X = w1.alloc (.cells (cellsOf 10 fun _ => 0) 122) := ⟨_, rfl⟩
    rw [← hg, ← hX]
    rw [← hg, ← hX] at HO0
    rw [← hX] at HX0
    clear hz10 hg hX hx1 hlt
    go_wp2
    go_loopg [14] l.length (fun gg i wr => ∃ k : Nat, i = .int .i64 k ∧ k ≤ l.length ∧ gg = l.length - k ∧ Below w.heap.size w wr ∧ Ow 122 g 10 (tlK l k) wr)
    case atStart => exact ⟨0, rfl, by omega, by omega, HX0.out, HO0.out⟩
    case round =>
      obtain ⟨k, rfl, hk, hg, hb, ho⟩ := hrel
      have HG := Lib.hid hg
      have HB := Lib.hid hb
      have HO := Lib.hid ho
      clear hg hb ho HX0 HO0
      by_cases hlt : k < l.length
      · obtain ⟨hblt, hcl⟩ := HC.out _ HB.out
        have c1 := hcl k hlt
        have HRW := Lib.hid (HOK.out.row hlt)
        have HKS := Lib.hid (tlK_succ hlt)
        have HBD := Lib.hid (fun j => tlK_bd HOK.out j k)
        obtain ⟨r, hr⟩ : ∃ r, r = l[k] := ⟨_, rfl⟩
        rw [← hr] at c1 HRW HKS
        clear hcl hr
        have hconv := Lib.run_convert_string_bytes (P := Tryd.prog) wr 9 101 5 r Tryd.underlying9 Tryd.underlying101 Tryd.underlying5
        have HW2 := Lib.hid (bw_ext wr 5 r)
        have HBC := Lib.hid (fun j hj => bw_cell wr 5 r j hj)
        obtain ⟨W2, hW2⟩ : ∃ W2, W2 = Lib.bytesWorld wr 5 r := ⟨_, rfl⟩
        rw [← hW2] at hconv HW2 HBC
        obtain ⟨cp, hcp⟩ : ∃ cp, cp = grownCap wr r.size 0 5 := ⟨_, rfl⟩
        rw [← hcp] at hconv
        obtain ⟨B, hB⟩ : ∃ B, B = wr.heap.size := ⟨_, rfl⟩
        have hBg : g < B := by have := HO.out.lt; omega
        have hB2 : B < W2.heap.size := by rw [hB, hW2, Lib.bytesWorld_size]; omega
        rw [← hB] at hconv HBC
        have HO2 := Lib.hid (HO.out.ext HW2.out)
        have HB2 := Lib.hid (bext HB.out HW2.out HB.out.size)
        clear hW2 hcp hB
        have hr48 : r.size ≤ 48 := by have h1 := HRW.out.1; have h2 := HOK.out.2.2.2.1; omega
        have hl48' : (k : Int) ≤ 48 := by omega
        go_upto_region 8 with (fail)
        clear hconv c1
        go_loopg [21] r.size (fun gg i wr => ∃ q : Nat, i = .int .i64 q ∧ q ≤ r.size ∧ gg = r.size - q ∧ But1 g W2 wr ∧ Ow 122 g 10 (tlR (tlK l k) r q) wr)
        case atStart => exact ⟨0, rfl, by omega, by omega, But1.refl _ _, HO2.out⟩
        case round =>
          obtain ⟨q, rfl, hq, hg2, hb2, ho2⟩ := hrel
          have HG2 := Lib.hid hg2
          have HBT := Lib.hid hb2
          have HO3 := Lib.hid ho2
          clear hg2 hb2 ho2 HO2
          by_cases hqs : q < r.size
          · have c2 := (cell_same (HBT.out.block B hB2 (by omega))).trans (HBC.out q hqs)
            have hrg := byte_range HRW.out q
            have hbd := HBD.out (byteAt r q - 48)
            have hbd2 := tlR_bd (tlK l k) r (byteAt r q - 48) q
            obtain ⟨m, hm⟩ : ∃ m, m = byteAt r q - 48 := ⟨_, rfl⟩
            obtain ⟨bv, hbv⟩ : ∃ bv : Int, bv = (byteAt r q : Int) := ⟨_, rfl⟩
            have HST := Lib.hid (show tlR (tlK l k) r (q + 1) = upd (tlR (tlK l k) r q) m (tlR (tlK l k) r q m + 1) from by rw [hm]; rfl)
            rw [← hm] at hbd hbd2
            rw [← hbv] at c2
            have hmod : (bv - 48) % 256 = (m : Int) := by omega
            have hm10 : m < 10 := by omega
            have hm10' : (m : Int) < 10 := by omega
            have q1 := HO3.out.cell hm10
            have q2 := HO3.out.frozen m
            have q3 := HO3.out.lt
            have hB3 : B < wr.heap.size := Nat.lt_of_lt_of_le hB2 HBT.out.size
            obtain ⟨tv, htv⟩ : ∃ tv, tv = tlR (tlK l k) r q m := ⟨_, rfl⟩
            rw [← htv] at q1 hbd2 HST
            have hv1 : 0 ≤ tv := by omega
            have hv2 : tv ≤ 3000 := by omega
            have HSO := Lib.hid (show Ow 122 g 10 (tlR (tlK l k) r (q + 1)) (wr.setCell ⟨g, m, none⟩ (.int .i64 (tv + 1))) from by rw [HST.out]; exact HO3.out.set m (tv + 1))
            have HSB := Lib.hid (show But1 g W2 (wr.setCell ⟨g, m, none⟩ (.int .i64 (tv + 1))) from HBT.out.trans ⟨rfl, rfl, rfl, by simp, fun k' _ hne => Below.heap_setCell _ _ _ _ hne⟩)
            clear hrg hbd hbd2 hm hbv htv
            go_wp2
            go_roundg (r.size - (q + 1))
            case measure => have := HG2.out; omega
            case rel => exact ⟨q + 1, by go_num, by omega, rfl, HSB.out, HSO.out⟩
          · obtain rfl : q = r.size := by omega
            have HE := Lib.hid (show Ow 122 g 10 (tlK l (k + 1)) wr from by rw [HKS.out]; exact HO3.out)
            have HBE := Lib.hid (show Below w.heap.size w wr from HB2.out.trans (HBT.out.below hgw HB2.out.size))
            go_wp2
            go_roundg (l.length - (k + 1))
            case measure => have := HG.out; omega
            case rel => exact ⟨k + 1, by go_num, by omega, rfl, HBE.out, HE.out⟩
      · obtain rfl : k = l.length := by omega
        go_wp2
        refine bodyPost_ret (v := .tuple #[.slice (some ⟨g, 0, none⟩) 10 10, .int .i64 0]) (by simp [results, Tryd.results40, go_sem]) rfl ?_
        exact ⟨HB.out, .inr ⟨HOK.out, g, rfl, hgw, _, HO.out⟩⟩
  · rw [decide_eq_false hok] at HV
    have HOK := Lib.hid hok
    clear hok h hz
    go_enter Tryd.func40, Tryd.ntmps40
    go_wp2_with (go_at_call 42; refine (HV.out).mono ?_; rintro e w1 ⟨rfl, hx1⟩)
    refine bodyPost_ret (v := .tuple #[.slice none 0 0, .int .i64 2]) (by simp [results, Tryd.results40, go_sem]) rfl ?_
    exact ⟨hx1, .inl ⟨HOK.out, rfl⟩⟩
theorem gr_at {l : List ByteArray} {k q : Nat} (hok : SkOk l) (hk : k < l.length) (hq : q < l[k].size) : gr l (q : Int) (k : Int) = (byteAt l[k] q : Int) - 48 := by
  have h := (hok.row hk).1
  unfold gr
  rw [if_neg (by omega), Int.toNat_natCast, Int.toNat_natCast, List.getElem?_eq_getElem hk]
end Go.Proofs.YtmgofdgbenfjmaaDoor
