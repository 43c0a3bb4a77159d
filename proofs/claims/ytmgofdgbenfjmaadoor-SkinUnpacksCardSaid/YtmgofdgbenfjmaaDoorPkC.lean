/- The library's contracts as the walks of Pack and Unpack want them. Conditions: the table of powers of ten is laid; the greatest length of an index is laid. -/
import Derived.Test.YtmgofdgbenfjmaaDoorPkL
import Derived.Test.YtmgofdgbenfjmaaDoorPkP
namespace Go.Proofs.YtmgofdgbenfjmaaDoor
open Go.RowKit

/-- the table of powers of ten -/
def P10 (w : World) : Prop := Lib.TabIs Tryd.prog w "internal/strconv.uint64pow10" .u64 Lib.pow10Tab
theorem P10.block {w : World} (h : P10 w) : ∃ g, Tryd.prog.globalNamed "internal/strconv.uint64pow10" = some g ∧ g < w.heap.size := by
  unfold P10 Lib.TabIs World.var? at h
  cases hg : Tryd.prog.globalNamed "internal/strconv.uint64pow10" with
  | none => rw [hg] at h; cases h
  | some g =>
    refine ⟨g, rfl, ?_⟩
    rw [hg] at h
    rcases Nat.lt_or_ge g w.heap.size with hlt | hge
    · exact hlt
    · simp only [Option.bind_some] at h
      rw [Array.getElem?_eq_none hge] at h
      cases h
theorem P10.ext {w w' : World} (h : P10 w) (hb : Below w.heap.size w w') : P10 w' := by
  obtain ⟨g, hg, hlt⟩ := h.block
  unfold P10 Lib.TabIs World.var? at h ⊢
  rw [hg] at h ⊢
  simp only [Option.bind_some] at h ⊢
  rw [hb.block g hlt]
  exact h
theorem below_grow (w : World) (k : Nat) (os : Array Obj) : Below w.heap.size w (Sort.grow (w.drewN k) os) :=
  ⟨rfl, rfl, rfl, by simp [Sort.grow, World.drewN], fun j hj => by
    show (w.heap ++ os)[j]? = w.heap[j]?
    rw [Array.getElem?_append_left hj]⟩
theorem itoa_any (n : Nat) (w : World) (h : n ≤ 9223372036854775807) (ht : P10 w) : Calls Tryd.prog 63 #[.int .i64 (n : Int)] w fun e w' => e = .returned (.string (BS (Lib.decDigits n))) ∧ Below w.heap.size w w' :=
  (Any.strconv_Itoa Tryd.l171 (n : Int) (by omega) (by omega) w ht).mono fun e w' ⟨he, k, os, hw⟩ => by
    refine ⟨?_, by rw [hw]; exact below_grow w k os⟩
    rw [he]
    unfold Lib.itoa
    rw [if_neg (by omega), Int.toNat_natCast]; rfl
/-- the greatest length of an index -/
def MxI (w : World) : Prop := Tryd.l146_ren.g 1 < w.heap.size ∧ ∃ m, w.cell? ⟨Tryd.l146_ren.g 1, 0, none⟩ = some (.int .i64 m)
theorem MxI.ext {w w' : World} (h : MxI w) (hb : Below w.heap.size w w') : MxI w' := by
  obtain ⟨h1, m, hm⟩ := h
  exact ⟨Nat.lt_of_lt_of_le h1 hb.size, m, (hb.cell (p := ⟨Tryd.l146_ren.g 1, 0, none⟩) h1).trans hm⟩
theorem splitB_size (sep : ByteArray) : ∀ (k : Nat) (s : ByteArray), ∀ r ∈ Lib.splitB sep 0 k s, r.size ≤ s.size
  | 0, s, r, h => by rw [Lib.splitB_zero] at h; simp at h; rw [h]; exact Nat.le_refl _
  | k + 1, s, r, h => by
    rcases Lib.indexB_cases s sep with hm | ⟨i, hi, hr⟩
    · rw [Lib.splitB_miss _ _ _ _ hm] at h; simp at h; rw [h]; exact Nat.le_refl _
    · rw [Lib.splitB_hit _ _ _ _ i hi] at h
      rcases List.mem_cons.1 h with rfl | h
      · rw [ByteArray.size_extract]; omega
      · have := splitB_size sep k _ r h
        rw [ByteArray.size_extract] at this
        omega
theorem split_any (s : ByteArray) (w : World) (hs : s.size < 4294967281) (hm : MxI w) : Calls Tryd.prog 66 #[.string s, .string ⟨#[47]⟩] w fun e w' => Below w.heap.size w w' ∧ ∃ L : List ByteArray, e = .returned (.slice (some ⟨w.heap.size, 0, none⟩) L.length L.length) ∧ L.length ≤ s.size + 1 ∧ w.heap.size < w'.heap.size ∧ (∀ j (hj : j < L.length), w'.cell? ⟨w.heap.size, j, none⟩ = some (.string L[j])) ∧ L.map (·.data.toList) = Lib.split s.data.toList [47] ∧ ∀ r ∈ L, r.size ≤ s.size := by
  obtain ⟨h1, m, hm⟩ := hm
  refine (Any.strings_Split Tryd.l146 (by kernel_rfl) s ⟨#[47]⟩ m w hs hm (by decide)).mono ?_
  rintro e w' ⟨rfl, rfl⟩
  have hlen := Lib.splitB_all ⟨#[47]⟩ (by decide) 0 _ s rfl
  have hdat := Lib.splitB_data ⟨#[47]⟩ 0 (Lib.countB s ⟨#[47]⟩) s
  have hsz := Lib.countB_le ⟨#[47]⟩ (by decide) s.size s (Nat.le_refl _)
  refine ⟨ext_alloc _ _, Lib.splitB ⟨#[47]⟩ 0 (Lib.countB s ⟨#[47]⟩) s, by rw [hlen], by omega, (Bk.new _ w _).lt, fun j hj => ?_, ?_, ?_⟩
  · have e := (Bk.new (Tryd.l146_ren.t 9) w ((Lib.splitB ⟨#[47]⟩ 0 (Lib.countB s ⟨#[47]⟩) s).map Value.string).toArray).cell j
    refine e.trans ?_
    simp [hj]
  · rw [hdat]; rfl
  · exact splitB_size _ _ _
theorem join_any (A : Option Addr) (cap : Nat) (xs : List ByteArray) (w : World) (h : TSl w A xs) (hN : xs.length ≤ 140737488355328) (hcap : xs.length ≤ cap) (hlen : (Lib.join (xs.map (·.data.toList)) [47]).length ≤ 140737488355328) :
    Calls Tryd.prog 64 #[.slice A xs.length cap, .string ⟨#[47]⟩] w fun e w' => e = .returned (.string (BS (Lib.join (xs.map (·.data.toList)) [47]))) ∧ Below w.heap.size w w' := by
  rcases h with rfl | ⟨b, off, rfl, hblt, hc⟩
  · exact (Any.strings_Join_none Tryd.l156 Tryd.x156 A cap ⟨#[47]⟩ w).mono fun e w' ⟨he, hw⟩ => ⟨he, hw ▸ Below.refl _ _⟩
  · exact Any.strings_Join Tryd.l156 Tryd.x156 b off cap xs ⟨#[47]⟩ w (fun j x hx => by obtain ⟨hj, rfl⟩ := List.getElem?_eq_some_iff.1 hx; exact hc j hj) hblt hN hcap hlen
theorem repeatL_one (x : UInt8) : ∀ c, Lib.repeatL [x] c = List.replicate c x
  | 0 => rfl
  | c + 1 => by rw [Lib.repeatL, repeatL_one x c]; rfl
theorem repeat_any (x : UInt8) (c : Nat) (w : World) (hc : c ≤ 1000) : Calls Tryd.prog 76 #[.string ⟨#[x]⟩, .int .i64 (c : Int)] w fun e w' => e = .returned (.string (BS (List.replicate c x))) ∧ Below w.heap.size w w' := by
  have h := Any.strings_Repeat Tryd.l105 Tryd.x105 ⟨#[x]⟩ c w (by omega) (by
    show 1 * c ≤ _
    omega)
  rw [show (⟨#[x]⟩ : ByteArray).data.toList = [x] from rfl, repeatL_one] at h
  exact h
theorem trimleft_any (s : ByteArray) (x : UInt8) (hx : x.toNat < 128) (w : World) : Calls Tryd.prog 65 #[.string s, .string ⟨#[x]⟩] w fun e w' => e = .returned (.string (BS (Lib.trimLeftB s.data.toList x))) ∧ w' = w :=
  Any.strings_TrimLeft_one Tryd.l161 s x hx w
end Go.Proofs.YtmgofdgbenfjmaaDoor
