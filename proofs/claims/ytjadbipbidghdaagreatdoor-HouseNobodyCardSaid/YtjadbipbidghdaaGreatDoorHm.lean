/- The library's contracts as the house's lines want them. Conditions: the table of powers of ten is laid; the greatest length of an index is laid. -/
import Derived.Test.YtjadbipbidghdaaGreatDoorHl
import Derived.Test.YtjadbipbidghdaaGreatDoorHa
import Derived.WalkSpells
import Derived.Lib.AtoiErrMem
import Derived.Lib.Strings
namespace Go.Proofs.YtjadbipbidghdaaGreatDoor
open Go.RowKit

/-- the table of powers of ten -/
def P10 (w : World) : Prop := Lib.TabIs Tryz.prog w "internal/strconv.uint64pow10" .u64 Lib.pow10Tab
theorem P10.block {w : World} (h : P10 w) : ∃ g, Tryz.prog.globalNamed "internal/strconv.uint64pow10" = some g ∧ g < w.heap.size := by
  unfold P10 Lib.TabIs World.var? at h
  cases hg : Tryz.prog.globalNamed "internal/strconv.uint64pow10" with
  | none => rw [hg] at h; cases h
  | some g =>
    refine ⟨g, rfl, ?_⟩
    rw [hg] at h
    rcases Nat.lt_or_ge g w.heap.size with hlt | hge
    · exact hlt
    · simp only [Option.bind_some] at h
      rw [Array.getElem?_eq_none hge] at h
      cases h
theorem P10.of {w w' : World} (h : P10 w) (hb : ∀ g, Tryz.prog.globalNamed "internal/strconv.uint64pow10" = some g → w'.heap[g]? = w.heap[g]?) : P10 w' := by
  obtain ⟨g, hg, _⟩ := h.block
  unfold P10 Lib.TabIs World.var? at h ⊢
  rw [hg] at h ⊢
  simp only [Option.bind_some] at h ⊢
  rw [hb g hg]
  exact h
theorem P10.ext {w w' : World} (h : P10 w) (hb : Below w.heap.size w w') : P10 w' := by
  obtain ⟨g, hg, hlt⟩ := h.block
  exact h.of fun g' hg' => by rw [hg] at hg'; injection hg' with e; rw [← e]; exact hb.block g hlt
theorem below_grow (w : World) (k : Nat) (os : Array Obj) : Below w.heap.size w (Sort.grow (w.drewN k) os) :=
  ⟨rfl, rfl, rfl, by simp [Sort.grow, World.drewN], fun j hj => by
    show (w.heap ++ os)[j]? = w.heap[j]?
    rw [Array.getElem?_append_left hj]⟩
/-- a digit -/
structure Dig (c : UInt8) (d : Nat) : Prop where
  ne : c ≠ 45
  dec : Lib.decDigits d = [c]
  ato : Lib.atoi [c] = some (d : Int)
  trm : Lib.trimS [c] [48, 49, 50, 51, 52, 53, 54, 55, 56, 57] = []
  le : d ≤ 9
theorem dig0 : Dig 48 0 := ⟨by decide, by kernel_rfl, by kernel_rfl, by kernel_rfl, by decide⟩
theorem dig1 : Dig 49 1 := ⟨by decide, by kernel_rfl, by kernel_rfl, by kernel_rfl, by decide⟩
theorem dig2 : Dig 50 2 := ⟨by decide, by kernel_rfl, by kernel_rfl, by kernel_rfl, by decide⟩
theorem dig5 : Dig 53 5 := ⟨by decide, by kernel_rfl, by kernel_rfl, by kernel_rfl, by decide⟩
theorem itoa_1 (c : UInt8) (d : Nat) (hd : Dig c d) (w : World) (ht : P10 w) : Calls Tryz.prog 22 #[.int .i64 (d : Int)] w fun e w' => e = .returned (.string ⟨#[c]⟩) ∧ Below w.heap.size w w' :=
  (Any.strconv_Itoa Tryz.l171 (d : Int) (by have := hd.le; omega) (by have := hd.le; omega) w ht).mono fun e w' ⟨he, k, os, hw⟩ => by
    refine ⟨?_, by rw [hw]; exact below_grow w k os⟩
    rw [he]
    unfold Lib.itoa
    rw [if_neg (by omega), Int.toNat_natCast, hd.dec]
theorem atoi_1 (c : UInt8) (d : Nat) (hd : Dig c d) (w : World) : Calls Tryz.prog 74 #[.string ⟨#[c]⟩] w fun e w' => e = .returned (.tuple #[.int .i64 (d : Int), .nilIface]) ∧ Below w.heap.size w w' :=
  (Any.strconv_Atoi Tryz.l172 ⟨#[c]⟩ (d : Int) (by show (1 : Nat) ≤ 18; omega) hd.ato w).mono fun e w' ⟨he, t, hw⟩ => ⟨he, by rw [hw]; exact Lib.bytesWorld_below _ _ _⟩
set_option maxRecDepth 100000 in
theorem trim_1 (c : UInt8) (d : Nat) (hd : Dig c d) (w : World) : Calls Tryz.prog 73 #[.string ⟨#[c]⟩, .string ⟨#[48, 49, 50, 51, 52, 53, 54, 55, 56, 57]⟩] w fun e w' => e = .returned (.string ⟨#[]⟩) ∧ Below w.heap.size w w' := by
  have h := Any.strings_Trim_laid Tryz.l160 (by kernel_rfl) ⟨#[c]⟩ ⟨#[48, 49, 50, 51, 52, 53, 54, 55, 56, 57]⟩ w (by show (1 : Nat) ≤ 9223372036854775807; omega) (by decide) (ascii_of_all (by decide))
  rw [show (⟨#[c]⟩ : ByteArray).data.toList = [c] from rfl, show (⟨#[48, 49, 50, 51, 52, 53, 54, 55, 56, 57]⟩ : ByteArray).data.toList = [48, 49, 50, 51, 52, 53, 54, 55, 56, 57] from rfl, hd.trm] at h
  exact h
theorem cutpre_1 (c : UInt8) (d : Nat) (hd : Dig c d) (w : World) : Calls Tryz.prog 72 #[.string ⟨#[c]⟩, .string ⟨#[45]⟩] w fun e w' => e = .returned (.tuple #[.string ⟨#[c]⟩, .bool false]) ∧ w' = w :=
  (Any.strings_CutPrefix Tryz.l103 ⟨#[c]⟩ ⟨#[45]⟩ w).mono fun e w' ⟨he, hw⟩ => by
    refine ⟨?_, hw⟩
    rw [he]
    have e2 : ([45] : List UInt8).isPrefixOf [c] = false := by
      simp [List.isPrefixOf]; exact fun h => hd.ne h.symm
    unfold Lib.trimPrefix Lib.hasPrefix
    show Ending.returned (.tuple #[.string ⟨(if ([45] : List UInt8).isPrefixOf [c] = true then [c].drop 1 else [c]).toArray⟩, .bool (([45] : List UInt8).isPrefixOf [c])]) = _
    rw [e2]; rfl
/-- the greatest length of an index -/
def MxI (w : World) : Prop := Tryz.l146_ren.g 1 < w.heap.size ∧ ∃ m, w.cell? ⟨Tryz.l146_ren.g 1, 0, none⟩ = some (.int .i64 m)
theorem MxI.ext {w w' : World} (h : MxI w) (hb : Below w.heap.size w w') : MxI w' := by
  obtain ⟨h1, m, hm⟩ := h
  exact ⟨Nat.lt_of_lt_of_le h1 hb.size, m, (hb.cell (p := ⟨Tryz.l146_ren.g 1, 0, none⟩) h1).trans hm⟩
theorem bk_newT (T : TypeId) (w : World) (cs : Array Value) : Bk T (w.alloc (.cells cs T (0, 0))) w.heap.size cs := Bk.new T w cs
theorem split_money (w : World) (hm : MxI w) : Calls Tryz.prog 33 #[.string ⟨#[109, 111, 110, 101, 121]⟩, .string ⟨#[32]⟩] w fun e w' => e = .returned (.slice (some ⟨w.heap.size, 0, none⟩) 1 1) ∧ Bk 9 w' w.heap.size #[.string ⟨#[109, 111, 110, 101, 121]⟩] ∧ Below w.heap.size w w' := by
  obtain ⟨h1, m, hm⟩ := hm
  refine (Any.strings_Split Tryz.l146 (by kernel_rfl) ⟨#[109, 111, 110, 101, 121]⟩ ⟨#[32]⟩ m w (by decide) hm (by decide)).mono ?_
  rintro e w' ⟨rfl, rfl⟩
  have he : Lib.splitB ⟨#[32]⟩ 0 (Lib.countB ⟨#[109, 111, 110, 101, 121]⟩ ⟨#[32]⟩) ⟨#[109, 111, 110, 101, 121]⟩ = [⟨#[109, 111, 110, 101, 121]⟩] := by kernel_rfl
  rw [he]
  exact ⟨rfl, Bk.new _ _ _, ext_alloc _ _⟩
theorem split_kind (w : World) (hm : MxI w) : Calls Tryz.prog 33 #[.string ⟨#[107, 105, 110, 100, 32, 50, 32, 49, 32, 49, 32, 53, 32, 48]⟩, .string ⟨#[32]⟩] w fun e w' => e = .returned (.slice (some ⟨w.heap.size, 0, none⟩) 6 6) ∧ Bk 9 w' w.heap.size #[.string ⟨#[107, 105, 110, 100]⟩, .string ⟨#[50]⟩, .string ⟨#[49]⟩, .string ⟨#[49]⟩, .string ⟨#[53]⟩, .string ⟨#[48]⟩] ∧ Below w.heap.size w w' := by
  obtain ⟨h1, m, hm⟩ := hm
  refine (Any.strings_Split Tryz.l146 (by kernel_rfl) ⟨#[107, 105, 110, 100, 32, 50, 32, 49, 32, 49, 32, 53, 32, 48]⟩ ⟨#[32]⟩ m w (by decide) hm (by decide)).mono ?_
  rintro e w' ⟨rfl, rfl⟩
  have he : Lib.splitB ⟨#[32]⟩ 0 (Lib.countB ⟨#[107, 105, 110, 100, 32, 50, 32, 49, 32, 49, 32, 53, 32, 48]⟩ ⟨#[32]⟩) ⟨#[107, 105, 110, 100, 32, 50, 32, 49, 32, 49, 32, 53, 32, 48]⟩ = [⟨#[107, 105, 110, 100]⟩, ⟨#[50]⟩, ⟨#[49]⟩, ⟨#[49]⟩, ⟨#[53]⟩, ⟨#[48]⟩] := by kernel_rfl
  rw [he]
  exact ⟨rfl, Bk.new _ _ _, ext_alloc _ _⟩
end Go.Proofs.YtjadbipbidghdaaGreatDoor
