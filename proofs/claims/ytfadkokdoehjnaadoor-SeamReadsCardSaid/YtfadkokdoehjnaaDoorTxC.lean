/- The library's contracts as the walks of Text and Read want them. Conditions: the table of powers of ten, the greatest length of an index and an error's value are laid. -/
import Derived.Test.YtfadkokdoehjnaaDoorTxL
import Derived.Test.YtfadkokdoehjnaaDoorTxP
namespace Go.Proofs.YtfadkokdoehjnaaDoor
open Go.RowKit

/-- the table of powers of ten -/
def P10 (w : World) : Prop := Lib.TabIs Tryd.prog w "internal/strconv.uint64pow10" .u64 Lib.pow10Tab
theorem P10.block {w : World} (h : P10 w) : ∃ g, Tryd.prog.globalNamed "internal/strconv.uint64pow10" = some g ∧ g < w.heap.size := by
  unfold P10 Lib.TabIs World.var? at h
  cases hg : Tryd.prog.globalNamed "internal/strconv.uint64pow10" with
  | none => rw [hg] at h; cases h
  | some g =>
    refine ⟨g, rfl, ?_⟩
    rw [hg] at h
    rcases Nat.lt_or_ge g w.heap.size with hlt | hge
    · exact hlt
    · simp only [Option.bind_some] at h
      rw [Array.getElem?_eq_none hge] at h
      cases h
theorem P10.ext {w w' : World} (h : P10 w) (hb : Below w.heap.size w w') : P10 w' := by
  obtain ⟨g, hg, hlt⟩ := h.block
  unfold P10 Lib.TabIs World.var? at h ⊢
  rw [hg] at h ⊢
  simp only [Option.bind_some] at h ⊢
  rw [hb.block g hlt]
  exact h
theorem below_grow (w : World) (k : Nat) (os : Array Obj) : Below w.heap.size w (Sort.grow (w.drewN k) os) :=
  ⟨rfl, rfl, rfl, by simp [Sort.grow, World.drewN], fun j hj => by
    show (w.heap ++ os)[j]? = w.heap[j]?
    rw [Array.getElem?_append_left hj]⟩
theorem itoa_any (n : Nat) (w : World) (h : n ≤ 9223372036854775807) (ht : P10 w) : Calls Tryd.prog 15 #[.int .i64 (n : Int)] w fun e w' => e = .returned (.string (BS (Lib.decDigits n))) ∧ Below w.heap.size w w' :=
  (Any.strconv_Itoa Tryd.l171 (n : Int) (by omega) (by omega) w ht).mono fun e w' ⟨he, k, os, hw⟩ => by
    refine ⟨?_, by rw [hw]; exact below_grow w k os⟩
    rw [he]
    unfold Lib.itoa
    rw [if_neg (by omega), Int.toNat_natCast]; rfl
/-- the greatest length of an index -/
def MxI (w : World) : Prop := Tryd.l146_ren.g 1 < w.heap.size ∧ ∃ m, w.cell? ⟨Tryd.l146_ren.g 1, 0, none⟩ = some (.int .i64 m)
theorem MxI.ext {w w' : World} (h : MxI w) (hb : Below w.heap.size w w') : MxI w' := by
  obtain ⟨h1, m, hm⟩ := h
  exact ⟨Nat.lt_of_lt_of_le h1 hb.size, m, (hb.cell (p := ⟨Tryd.l146_ren.g 1, 0, none⟩) h1).trans hm⟩
/-- the error of a bad number -/
def ErS (w : World) : Prop := Tryd.l172_ren.g 15 < w.heap.size ∧ ∃ ev, w.cell? ⟨Tryd.l172_ren.g 15, 0, none⟩ = some ev ∧ (ev = .nilIface ∨ ∃ te pe, ev = .iface te pe)
theorem ErS.ext {w w' : World} (h : ErS w) (hb : Below w.heap.size w w') : ErS w' := by
  obtain ⟨h1, m, hm, h2⟩ := h
  exact ⟨Nat.lt_of_lt_of_le h1 hb.size, m, (hb.cell (p := ⟨Tryd.l172_ren.g 15, 0, none⟩) h1).trans hm, h2⟩
theorem splitB_size (sep : ByteArray) : ∀ (k : Nat) (s : ByteArray), ∀ r ∈ Lib.splitB sep 0 k s, r.size ≤ s.size
  | 0, s, r, h => by rw [Lib.splitB_zero] at h; simp at h; rw [h]; exact Nat.le_refl _
  | k + 1, s, r, h => by
    rcases Lib.indexB_cases s sep with hm | ⟨i, hi, hr⟩
    · rw [Lib.splitB_miss _ _ _ _ hm] at h; simp at h; rw [h]; exact Nat.le_refl _
    · rw [Lib.splitB_hit _ _ _ _ i hi] at h
      rcases List.mem_cons.1 h with rfl | h
      · rw [ByteArray.size_extract]; omega
      · have := splitB_size sep k _ r h
        rw [ByteArray.size_extract] at this
        omega
/-- a slice of strings -/
def TSl (w : World) (A : Option Addr) (l : List ByteArray) : Prop :=
  l = [] ∨ ∃ b off, A = some ⟨b, off, none⟩ ∧ b < w.heap.size ∧ ∀ j (h : j < l.length), w.cell? ⟨b, off + j, none⟩ = some (.string l[j])
theorem TSl.ext {w w' : World} {A : Option Addr} {l : List ByteArray} (h : TSl w A l) (hb : Below w.heap.size w w') : TSl w' A l := by
  rcases h with h | ⟨b, off, hA, hlt, hc⟩
  · exact .inl h
  · exact .inr ⟨b, off, hA, Nat.lt_of_lt_of_le hlt hb.size, fun j hj => (hb.cell (p := ⟨b, off + j, none⟩) hlt).trans (hc j hj)⟩
theorem split_any (s : ByteArray) (w : World) (hs : s.size < 4294967281) (hm : MxI w) : Calls Tryd.prog 22 #[.string s, .string ⟨#[32]⟩] w fun e w' => Below w.heap.size w w' ∧ ∃ L : List ByteArray, e = .returned (.slice (some ⟨w.heap.size, 0, none⟩) L.length L.length) ∧ L.length ≤ s.size + 1 ∧ w.heap.size < w'.heap.size ∧ (∀ j (hj : j < L.length), w'.cell? ⟨w.heap.size, j, none⟩ = some (.string L[j])) ∧ L.map (·.data.toList) = Lib.split s.data.toList [32] ∧ ∀ r ∈ L, r.size ≤ s.size := by
  obtain ⟨h1, m, hm⟩ := hm
  refine (Any.strings_Split Tryd.l146 (by kernel_rfl) s ⟨#[32]⟩ m w hs hm (by decide)).mono ?_
  rintro e w' ⟨rfl, rfl⟩
  have hlen := Lib.splitB_all ⟨#[32]⟩ (by decide) 0 _ s rfl
  have hdat := Lib.splitB_data ⟨#[32]⟩ 0 (Lib.countB s ⟨#[32]⟩) s
  have hsz := Lib.countB_le ⟨#[32]⟩ (by decide) s.size s (Nat.le_refl _)
  refine ⟨ext_alloc _ _, Lib.splitB ⟨#[32]⟩ 0 (Lib.countB s ⟨#[32]⟩) s, by rw [hlen], by omega, (Bk.new _ w _).lt, fun j hj => ?_, ?_, ?_⟩
  · have e := (Bk.new (Tryd.l146_ren.t 9) w ((Lib.splitB ⟨#[32]⟩ 0 (Lib.countB s ⟨#[32]⟩) s).map Value.string).toArray).cell j
    refine e.trans ?_
    simp [hj]
  · rw [hdat]; rfl
  · exact splitB_size _ _ _
theorem join_any (A : Option Addr) (cap : Nat) (xs : List ByteArray) (w : World) (h : TSl w A xs) (hN : xs.length ≤ 140737488355328) (hcap : xs.length ≤ cap) (hlen : (Lib.join (xs.map (·.data.toList)) [32]).length ≤ 140737488355328) :
    Calls Tryd.prog 16 #[.slice A xs.length cap, .string ⟨#[32]⟩] w fun e w' => e = .returned (.string (BS (Lib.join (xs.map (·.data.toList)) [32]))) ∧ Below w.heap.size w w' := by
  rcases h with rfl | ⟨b, off, rfl, hblt, hc⟩
  · exact (Any.strings_Join_none Tryd.l156 Tryd.x156 A cap ⟨#[32]⟩ w).mono fun e w' ⟨he, hw⟩ => ⟨he, hw ▸ Below.refl _ _⟩
  · exact Any.strings_Join Tryd.l156 Tryd.x156 b off cap xs ⟨#[32]⟩ w (fun j x hx => by obtain ⟨hj, rfl⟩ := List.getElem?_eq_some_iff.1 hx; exact hc j hj) hblt hN hcap hlen
theorem cutM_suf (l : List UInt8) : (Lib.trimSuffix l [45], Lib.hasSuffix l [45]) = cutM l := by
  unfold cutM
  have h : Lib.hasSuffix l [45] = decide (l.getLast? = some 45) := by
    unfold Lib.hasSuffix
    rcases List.eq_nil_or_concat l with rfl | ⟨t, x, rfl⟩
    · rfl
    · simp [List.isSuffixOf, List.isPrefixOf]
      by_cases e : x = 45
      · subst e; rfl
      · rw [decide_eq_false e]; simpa using fun h => e h.symm
  have h2 : Lib.trimSuffix l [45] = if l.getLast? = some 45 then l.dropLast else l := by
    unfold Lib.trimSuffix
    rw [h]
    by_cases e : l.getLast? = some 45
    · simp [e, List.dropLast_eq_take]
    · simp [e]
  rw [h, h2]
  split
  · rename_i e; rw [decide_eq_true e]
  · rename_i e; rw [decide_eq_false e]
theorem cutsuf_any (s : ByteArray) (w : World) (hs : s.size ≤ 9223372036854775807) : Calls Tryd.prog 19 #[.string s, .string ⟨#[45]⟩] w fun e w' => e = .returned (.tuple #[.string (BS (cutM s.data.toList).1), .bool (cutM s.data.toList).2]) ∧ w' = w :=
  (Any.strings_CutSuffix Tryd.l104 s ⟨#[45]⟩ w hs).mono fun e w' ⟨he, hw⟩ => by
    refine ⟨?_, hw⟩
    rw [he]
    have h := cutM_suf s.data.toList
    have e1 : Lib.trimSuffix s.data.toList [45] = (cutM s.data.toList).1 := congrArg Prod.fst h
    have e2 : Lib.hasSuffix s.data.toList [45] = (cutM s.data.toList).2 := congrArg Prod.snd h
    show Ending.returned (.tuple #[.string ⟨(Lib.trimSuffix s.data.toList [45]).toArray⟩, .bool (Lib.hasSuffix s.data.toList [45])]) = _
    rw [e1, e2]; rfl
theorem index_any (s : ByteArray) (c : UInt8) (w : World) : Calls Tryd.prog 20 #[.string s, .string ⟨#[c]⟩] w fun e w' => e = .returned (.int .i64 (Lib.indexByte s.data.toList c)) ∧ w' = w :=
  Any.strings_Index_one Tryd.l143 s c w
theorem indexbyte_any (s : ByteArray) (c : UInt8) (w : World) : Calls Tryd.prog 23 #[.string s, .int .u8 (c.toNat : Int)] w fun e w' => e = .returned (.int .i64 (Lib.indexByte s.data.toList c)) ∧ w' = w :=
  (Any.strings_IndexByte Tryd.l137 s (c.toNat : Int) w).mono fun e w' ⟨he, hw⟩ => by
    refine ⟨?_, hw⟩
    rw [he]
    congr 4
    rw [Int.toNat_natCast]
    simp
theorem atoi_any (s : ByteArray) (n : Int) (w : World) (hl : s.size ≤ 18) (h : Lib.atoi s.data.toList = some n) : Calls Tryd.prog 21 #[.string s] w fun e w' => e = .returned (.tuple #[.int .i64 n, .nilIface]) ∧ Below w.heap.size w w' :=
  (Any.strconv_Atoi { Tryd.l172 with } s n hl h w).mono fun e w' ⟨he, t, hw⟩ => ⟨he, by rw [hw]; exact Lib.bytesWorld_below _ _ _⟩
theorem atoi_none (s : ByteArray) (w : World) (hl : s.size ≤ 18) (h : Lib.atoi s.data.toList = none) (he : ErS w) : Calls Tryd.prog 21 #[.string s] w fun e w' => ∃ T N, e = .returned (.tuple #[.int .i64 0, .iface T (.pointer (some ⟨N, 0, none⟩))]) ∧ Below w.heap.size w w' := by
  obtain ⟨_, ev, h1, h2⟩ := he
  exact (Any.strconv_Atoi_err Tryd.l172 s hl h ev w h1 h2).mono fun e w' ⟨N, h3, _, _, h4⟩ => ⟨_, N, h3, h4⟩
end Go.Proofs.YtfadkokdoehjnaaDoor
