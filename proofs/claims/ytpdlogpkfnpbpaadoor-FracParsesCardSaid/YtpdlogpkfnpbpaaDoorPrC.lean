/- The library's contracts as the walks of Print and Parse want them. Conditions: the table of powers of ten is laid. -/
import Derived.Test.YtpdlogpkfnpbpaaDoorPrL
import Derived.Test.YtpdlogpkfnpbpaaDoorPrP
import Derived.Test.YtpdlogpkfnpbpaaDoorWords
import Derived.WalkLawsBesides
import Derived.WalkSpells
import Derived.Lib.Hide
import Derived.Lib.IndexLaws
import Derived.Lib.Strings
import Derived.Lib.AtoiErrMem
import Derived.Shelf.RegionOpenPlain
namespace Go.Proofs.YtpdlogpkfnpbpaaDoor
open Go.RowKit

theorem pext_alloc (w : World) (o : Obj) : Below w.heap.size w (w.alloc o) := (Below.refl _ _).alloc (Nat.le_refl _) _
theorem pdrewN {B : Nat} {w0 w : World} (h : Below B w0 w) (n : Nat) : Below B w0 (w.drewN n) := ⟨h.os, h.tape, h.output, h.size, h.block⟩
theorem pext {B : Nat} {w0 w w' : World} (h : Below B w0 w) (hb : Below w.heap.size w w') (hB : B ≤ w.heap.size) : Below B w0 w' := h.trans (hb.mono hB)
/-- bytes as a string -/
def BS (l : List UInt8) : ByteArray := ⟨l.toArray⟩
theorem BS_list (l : List UInt8) : (BS l).data.toList = l := by simp [BS]
theorem BS_size (l : List UInt8) : (BS l).size = l.length := by simp [BS, ByteArray.size]
theorem BS_self (s : ByteArray) : BS s.data.toList = s := by simp [BS]
theorem BS_app (l m : List UInt8) : BS l ++ BS m = BS (l ++ m) := by
  apply ByteArray.ext
  rw [ByteArray.data_append]
  simp [BS]
theorem BS_inj {l m : List UInt8} (h : BS l = BS m) : l = m := by
  have := congrArg (fun s : ByteArray => s.data.toList) h
  simpa [BS_list] using this
/-- the table of powers of ten -/
def P10 (w : World) : Prop := Lib.TabIs Tryd.prog w "internal/strconv.uint64pow10" .u64 Lib.pow10Tab
theorem P10.block {w : World} (h : P10 w) : ∃ g, Tryd.prog.globalNamed "internal/strconv.uint64pow10" = some g ∧ g < w.heap.size := by
  unfold P10 Lib.TabIs World.var? at h
  cases hg : Tryd.prog.globalNamed "internal/strconv.uint64pow10" with
  | none => rw [hg] at h; cases h
  | some g =>
    refine ⟨g, rfl, ?_⟩
    rw [hg] at h
    rcases Nat.lt_or_ge g w.heap.size with hlt | hge
    · exact hlt
    · simp only [Option.bind_some] at h
      rw [Array.getElem?_eq_none hge] at h
      cases h
theorem P10.ext {w w' : World} (h : P10 w) (hb : Below w.heap.size w w') : P10 w' := by
  obtain ⟨g, hg, hlt⟩ := h.block
  unfold P10 Lib.TabIs World.var? at h ⊢
  rw [hg] at h ⊢
  simp only [Option.bind_some] at h ⊢
  rw [hb.block g hlt]
  exact h
theorem below_grow (w : World) (k : Nat) (os : Array Obj) : Below w.heap.size w (Sort.grow (w.drewN k) os) :=
  ⟨rfl, rfl, rfl, by simp [Sort.grow, World.drewN], fun j hj => by
    show (w.heap ++ os)[j]? = w.heap[j]?
    rw [Array.getElem?_append_left hj]⟩
theorem itoa_any (n : Nat) (w : World) (h : n ≤ 9223372036854775807) (ht : P10 w) : Calls Tryd.prog 11 #[.int .i64 (n : Int)] w fun e w' => e = .returned (.string (BS (Lib.decDigits n))) ∧ Below w.heap.size w w' :=
  (Any.strconv_Itoa Tryd.l171 (n : Int) (by omega) (by omega) w ht).mono fun e w' ⟨he, k, os, hw⟩ => by
    refine ⟨?_, by rw [hw]; exact below_grow w k os⟩
    rw [he]
    unfold Lib.itoa
    rw [if_neg (by omega), Int.toNat_natCast]; rfl
theorem atoi_any (l : List UInt8) (n : Nat) (w : World) (hl : l.length ≤ 18) (h : Lib.atoi l = some (n : Int)) : Calls Tryd.prog 35 #[.string (BS l)] w fun e w' => e = .returned (.tuple #[.int .i64 (n : Int), .nilIface]) ∧ Below w.heap.size w w' :=
  (Any.strconv_Atoi Tryd.l172 (BS l) (n : Int) (by rw [BS_size]; exact hl) (by rw [BS_list]; exact h) w).mono fun e w' ⟨he, t, hw⟩ => ⟨he, by rw [hw]; exact Lib.bytesWorld_below _ _ _⟩
def digs : List UInt8 := [48, 49, 50, 51, 52, 53, 54, 55, 56, 57]
set_option maxRecDepth 100000 in
theorem trim_any (l : List UInt8) (w : World) (hs : l.length ≤ 9223372036854775807) : Calls Tryd.prog 34 #[.string (BS l), .string ⟨#[48, 49, 50, 51, 52, 53, 54, 55, 56, 57]⟩] w fun e w' => e = .returned (.string (BS (Lib.trimS l digs))) ∧ Below w.heap.size w w' := by
  have h := Any.strings_Trim_laid Tryd.l160 (by kernel_rfl) (BS l) ⟨#[48, 49, 50, 51, 52, 53, 54, 55, 56, 57]⟩ w (by rw [BS_size]; exact hs) (by decide) (ascii_of_all (by decide))
  rw [BS_list] at h
  exact h
theorem cutpre_any (l : List UInt8) (w : World) : Calls Tryd.prog 14 #[.string (BS l), .string ⟨#[45]⟩] w fun e w' => e = .returned (.tuple #[.string (BS (sgnP l).2), .bool (sgnP l).1]) ∧ w' = w :=
  (Any.strings_CutPrefix Tryd.l103 (BS l) ⟨#[45]⟩ w).mono fun e w' ⟨he, hw⟩ => by
    refine ⟨?_, hw⟩
    rw [he, BS_list]
    unfold Lib.trimPrefix Lib.hasPrefix
    show Ending.returned (.tuple #[.string ⟨(if ([45] : List UInt8).isPrefixOf l = true then l.drop 1 else l).toArray⟩, .bool (([45] : List UInt8).isPrefixOf l)]) = _
    cases l with
    | nil => rfl
    | cons x m =>
      by_cases hx : x = 45
      · subst hx; simp [sgnP, List.isPrefixOf, BS]
      · have e1 : sgnP (x :: m) = (false, x :: m) := by
          unfold sgnP
          split
          · rename_i e; injection e with e1 _; exact absurd e1 hx
          · rfl
        have e2 : ([45] : List UInt8).isPrefixOf (x :: m) = false := by
          simp [List.isPrefixOf]; exact fun h => hx h.symm
        rw [e1, e2]; rfl
theorem index_mem {l : List UInt8} {c : UInt8} : 0 ≤ Lib.indexByte l c ↔ c ∈ l := by
  have hge := Lib.indexByte_ge l c
  constructor
  · intro h
    have := (Lib.indexByte_some (l := l) (c := c) (o := (Lib.indexByte l c).toNat) (by omega)).1
    exact List.mem_of_getElem? this
  · intro h
    by_cases h2 : Lib.indexByte l c = -1
    · obtain ⟨k, hk⟩ := List.getElem?_of_mem h
      exact absurd hk (Lib.indexByte_none h2 k)
    · omega
theorem contains_any (l : List UInt8) (w : World) : Calls Tryd.prog 16 #[.string (BS l), .string ⟨#[47]⟩] w fun e w' => e = .returned (.bool (decide (47 ∈ l))) ∧ w' = w :=
  (Any.strings_Contains_one Tryd.l144 (BS l) 47 w).mono fun e w' ⟨he, hw⟩ => by
    refine ⟨?_, hw⟩
    rw [he, BS_list]
    congr 3
    exact propext index_mem
theorem cut1_miss_ix {l : List UInt8} {c : UInt8} (h : Lib.indexByte l c = -1) : cut1 c l = (l, [], false) := cut1_miss fun hm => by have := index_mem.2 hm; omega
theorem cut1_hit_ix {l : List UInt8} {c : UInt8} {i : Nat} (h : Lib.indexByte l c = i) : cut1 c l = (l.take i, l.drop (i + 1), true) ∧ i + 1 ≤ l.length := by
  obtain ⟨h1, h2⟩ := Lib.indexByte_some h
  obtain ⟨hi, hc⟩ := List.getElem?_eq_some_iff.1 h1
  refine ⟨?_, hi⟩
  have e : l = l.take i ++ c :: l.drop (i + 1) := by
    rw [← hc, List.getElem_cons_drop, List.take_append_drop]
  conv => lhs; rw [e]
  refine cut1_hit fun hm => ?_
  obtain ⟨k, hk⟩ := List.getElem?_of_mem hm
  rw [List.getElem?_take] at hk
  split at hk
  · exact h2 k (by assumption) hk
  · cases hk
theorem extract_BS (l : List UInt8) (a b : Nat) : (BS l).extract a b = BS ((l.drop a).take (b - a)) := by
  apply ByteArray.ext
  apply Array.ext'
  simp [BS]
set_option maxHeartbeats 2000000 in
set_option maxRecDepth 100000 in
theorem slcut_any (c : UInt8) (l : List UInt8) (w : World) (hl : l.length ≤ 9223372036854775807) : Calls Tryd.prog 32 #[.string (BS l), .string ⟨#[c]⟩] w fun e w' => e = .returned (.tuple #[.string (BS (cut1 c l).1), .string (BS (cut1 c l).2.1), .bool (cut1 c l).2.2]) ∧ Below w.heap.size w w' := by
  have HI := Lib.hid (fun W => Any.stringslite_Index_one { Tryd.l144 with } (BS l) c W)
  rw [BS_list] at HI
  have hge := Lib.indexByte_ge l c
  by_cases h : Lib.indexByte l c = -1
  · rw [cut1_miss_ix h]
    rw [h] at HI
    obtain ⟨s, hs⟩ : ∃ s, s = BS l := ⟨_, rfl⟩
    rw [← hs] at HI ⊢
    clear h hge hs hl
    go_enter Tryd.func32, Tryd.ntmps32
    go_wp2_with (go_at_call 46; refine (HI.out _).mono ?_; rintro e w1 ⟨rfl, rfl⟩)
    refine bodyPost_ret (v := .tuple #[.string s, .string ⟨#[]⟩, .bool false]) (by simp [results, Tryd.results32, go_sem]) rfl ?_
    exact ⟨rfl, Below.refl _ _⟩
  · obtain ⟨i, hi⟩ : ∃ i : Nat, Lib.indexByte l c = i := ⟨(Lib.indexByte l c).toNat, by omega⟩
    obtain ⟨e1, e2⟩ := cut1_hit_ix hi
    rw [hi] at HI
    have x1 : (BS l).extract 0 i = BS (cut1 c l).1 := by rw [extract_BS, e1]; simp
    have x2 : (BS l).extract (i + 1) (BS l).size = BS (cut1 c l).2.1 := by
      rw [extract_BS, e1, BS_size]
      show BS _ = BS _
      rw [List.take_of_length_le (by rw [List.length_drop]; exact Nat.le_refl _)]
    have x3 : (cut1 c l).2.2 = true := by rw [e1]
    have hsz := BS_size l
    have HX1 := Lib.hid x1
    have HX2 := Lib.hid x2
    have HX3 := Lib.hid x3
    rw [HX3.out, ← HX1.out, ← HX2.out]
    obtain ⟨s, hs⟩ : ∃ s, s = BS l := ⟨_, rfl⟩
    rw [← hs] at HI hsz ⊢
    have c1 : (0 : Int) ≤ ↑i := by omega
    have c2 : (↑i : Int) ≤ ↑s.size := by omega
    have c3 : (0 : Int) ≤ ↑i + 1 := by omega
    have c4 : (↑i + 1 : Int) ≤ ↑s.size := by omega
    have c5 : i + 1 ≤ s.size := by omega
    have hs63 : s.size ≤ 9223372036854775807 := by omega
    clear hs hge h hi e1 e2 x1 x2 x3 hsz hl
    go_enter Tryd.func32, Tryd.ntmps32
    go_upto_region 3 with (go_at_call 46; refine (HI.out _).mono ?_; rintro e w1 ⟨rfl, rfl⟩)
    have mixed : Tryd.prog.follows Departure.mixedOrders = true := by kernel_rfl
    go_region_o
    go_wp2
    refine bodyPost_ret (v := .tuple #[.string (s.extract 0 i), .string (s.extract (i + 1) s.size), .bool true]) (by simp [results, Tryd.results32, go_sem]) rfl ?_
    exact ⟨rfl, ext_drew _⟩
theorem cut_any (c : UInt8) (l : List UInt8) (w : World) (hl : l.length ≤ 9223372036854775807) : Calls Tryd.prog 15 #[.string (BS l), .string ⟨#[c]⟩] w fun e w' => e = .returned (.tuple #[.string (BS (cut1 c l).1), .string (BS (cut1 c l).2.1), .bool (cut1 c l).2.2]) ∧ Below w.heap.size w w' := by
  have HC := Lib.hid (slcut_any c l w hl)
  clear hl
  go_enter Tryd.func15, Tryd.ntmps15
  go_wp2_with (go_at_call 32; refine (HC.out).mono ?_; rintro e w1 ⟨rfl, hx1⟩)
  refine bodyPost_ret (v := .tuple #[.string (BS (cut1 c l).1), .string (BS (cut1 c l).2.1), .bool (cut1 c l).2.2]) (by simp [results, Tryd.results15, go_sem]) rfl ?_
  exact ⟨rfl, hx1⟩
end Go.Proofs.YtpdlogpkfnpbpaaDoor
