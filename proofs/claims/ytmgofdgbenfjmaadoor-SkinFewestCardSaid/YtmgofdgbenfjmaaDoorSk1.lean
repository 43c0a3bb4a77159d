/- Texts joined: Sk, Gd. Conditions: see each. -/
import Derived.Test.YtmgofdgbenfjmaaDoorTm
namespace Go.Proofs.YtmgofdgbenfjmaaDoor
open Go.RowKit

open Go.RowKit Go.Shelf

/-- the width -/
def wid (l : List ByteArray) : Nat := match l with | [] => 0 | r :: _ => r.size
def digs : List UInt8 := [48, 49, 50, 51, 52, 53, 54, 55, 56, 57]
/-- a row of a skin -/
def RowOk (w : Nat) (r : ByteArray) : Prop := r.size = w ∧ ∀ x ∈ r.data.toList, x ∈ digs
instance (w : Nat) (r : ByteArray) : Decidable (RowOk w r) := by unfold RowOk; infer_instance
/-- a skin -/
def SkOk (l : List ByteArray) : Prop := 1 ≤ l.length ∧ l.length ≤ 48 ∧ 1 ≤ wid l ∧ wid l ≤ 48 ∧ ∀ r ∈ l, RowOk (wid l) r
instance (l : List ByteArray) : Decidable (SkOk l) := by unfold SkOk; infer_instance
theorem dropWhile_nil {p : UInt8 → Bool} : ∀ {l : List UInt8}, l.dropWhile p = [] ↔ ∀ x ∈ l, p x = true
  | [] => by simp
  | a :: l => by
    rw [List.dropWhile_cons]
    cases h : p a
    · simp [h]
    · simp [h, dropWhile_nil (l := l)]
theorem trim_nil {l cs : List UInt8} : Lib.trimS l cs = [] ↔ ∀ x ∈ l, x ∈ cs := by
  unfold Lib.trimS Lib.trimLeftS Lib.trimRightS
  rw [dropWhile_nil]
  constructor
  · intro h x hx
    have h2 : (l.reverse.dropWhile (cs.contains ·)) = [] := by
      cases hd : l.reverse.dropWhile (cs.contains ·) with
      | nil => rfl
      | cons a t =>
        have h3 := h a (by rw [hd]; simp)
        have h4 := List.head?_dropWhile_not (cs.contains ·) l.reverse
        rw [hd] at h4
        simp only [List.head?_cons] at h4
        rw [h3] at h4
        simp at h4
    have h5 := dropWhile_nil.1 h2 x (by simpa using hx)
    simpa using h5
  · intro h x hx
    have h2 : x ∈ l := by
      have h3 : x ∈ l.reverse.dropWhile (cs.contains ·) := by simpa using hx
      have h4 := (List.dropWhile_sublist (cs.contains ·)).subset h3
      simpa using h4
    simpa using h x h2
theorem row_no_size {w : Nat} {r : ByteArray} (h : r.size ≠ w) : ¬ RowOk w r := fun k => h k.1
theorem row_iff {w : Nat} {r : ByteArray} (h : r.size = w) : RowOk w r ↔ Lib.trimS r.data.toList digs = [] := by
  rw [trim_nil]; exact ⟨fun k => k.2, fun k => ⟨h, k⟩⟩
theorem bytes_empty {l : List UInt8} : (⟨l.toArray⟩ : ByteArray).toList.isEmpty = decide (l = []) := by
  rw [ByteArray.toList_eq]
  cases l with
  | nil => rfl
  | cons a t => rfl
set_option maxRecDepth 100000 in
theorem trim_any (s : ByteArray) (w : World) (hs : s.size ≤ 9223372036854775807) : Calls Tryd.prog 81 #[.string s, .string ⟨#[48, 49, 50, 51, 52, 53, 54, 55, 56, 57]⟩] w fun e w' => e = .returned (.string ⟨(Lib.trimS s.data.toList digs).toArray⟩) ∧ Below w.heap.size w w' :=
  Any.strings_Trim_laid Tryd.l160 (by kernel_rfl) s ⟨#[48, 49, 50, 51, 52, 53, 54, 55, 56, 57]⟩ w hs (by decide) (ascii_of_all (by decide))
def TSz (l : List ByteArray) : Prop := ∀ r ∈ l, r.size ≤ 9223372036854775807
set_option maxRecDepth 100000 in
set_option maxHeartbeats 4000000 in
theorem valid_any (A : Option Addr) (cap : Nat) (l : List ByteArray) (w : World) (hc : l.length ≤ cap) (_hcm : cap ≤ 9223372036854775807) (h : TSl w A l) (hz : TSz l) :
    Calls Tryd.prog 42 #[.slice A l.length cap] w fun e w' => e = .returned (.bool (decide (SkOk l))) ∧ Below w.heap.size w w' := by
  have HT := Lib.hid (fun (s : ByteArray) W (hs : s.size ≤ 9223372036854775807) => trim_any s W hs)
  rcases h with rfl | ⟨b, off, rfl, hlt, hcl⟩
  · rw [decide_eq_false (show ¬ SkOk [] from fun h => by have := h.1; simp at this)]
    go_enter Tryd.func42, Tryd.ntmps42
    go_wp2
    go_ret
    exact ⟨rfl, Below.refl _ _⟩
  · have HZ := Lib.hid hz
    have HC := Lib.hid (show ∀ W, Below w.heap.size w W → b < W.heap.size ∧ ∀ j (hj : j < l.length), W.cell? ⟨b, off + j, none⟩ = some (.string l[j]) from fun W hW => ⟨Nat.lt_of_lt_of_le hlt hW.size, fun j hj => (hW.cell (p := ⟨b, off + j, none⟩) hlt).trans (hcl j hj)⟩)
    by_cases h0 : l.length < 1
    · rw [decide_eq_false (show ¬ SkOk l from fun h => by have := h.1; omega)]
      have h1 : (l.length : Int) < 1 := by omega
      clear hcl hz
      go_enter Tryd.func42, Tryd.ntmps42
      go_wp2
      go_ret
      exact ⟨rfl, Below.refl _ _⟩
    · have h1 : ¬ (l.length : Int) < 1 := by omega
      by_cases h48 : 48 < l.length
      · rw [decide_eq_false (show ¬ SkOk l from fun h => by have := h.2.1; omega)]
        have h2 : (48 : Int) < (l.length : Int) := by omega
        clear hcl hz
        go_enter Tryd.func42, Tryd.ntmps42
        go_wp2
        go_ret
        exact ⟨rfl, Below.refl _ _⟩
      · have h2 : ¬ (48 : Int) < (l.length : Int) := by omega
        have c0 := hcl 0 (by omega)
        rw [Nat.add_zero] at c0
        obtain ⟨r0, hr0⟩ : ∃ r0, r0 = l[0]'(by omega) := ⟨_, rfl⟩
        rw [← hr0] at c0
        have hw : wid l = r0.size := by
          rw [hr0]
          cases l with
          | nil => simp at h0
          | cons a t => rfl
        have HW0 := Lib.hid hw
        have HC0 := Lib.hid (show ∀ W, Below w.heap.size w W → W.cell? ⟨b, off, none⟩ = some (.string r0) from fun W hW => (hW.cell (p := ⟨b, off, none⟩) hlt).trans c0)
        have hr0s : r0.size ≤ 9223372036854775807 := hz r0 (by rw [hr0]; exact List.getElem_mem _)
        clear hcl hz hr0
        by_cases h3 : r0.size < 1
        · rw [decide_eq_false (show ¬ SkOk l from fun h => by have := h.2.2.1; omega)]
          have h4 : (r0.size : Int) < 1 := by omega
          clear hw
          go_enter Tryd.func42, Tryd.ntmps42
          go_wp2
          go_ret
          exact ⟨rfl, Below.refl _ _⟩
        · have h4 : ¬ (r0.size : Int) < 1 := by omega
          by_cases h5 : 48 < r0.size
          · rw [decide_eq_false (show ¬ SkOk l from fun h => by have := h.2.2.2.1; omega)]
            have h6 : (48 : Int) < (r0.size : Int) := by omega
            clear hw
            go_enter Tryd.func42, Tryd.ntmps42
            go_wp2
            go_ret
            exact ⟨rfl, Below.refl _ _⟩
          · have h6 : ¬ (48 : Int) < (r0.size : Int) := by omega
            have HSK := Lib.hid (show (∀ j (hj : j < l.length), RowOk r0.size l[j]) ↔ SkOk l from by
              constructor
              · intro h
                refine ⟨by omega, by omega, by omega, by omega, fun r hr => ?_⟩
                obtain ⟨j, hj, rfl⟩ := List.getElem_of_mem hr
                rw [hw]; exact h j hj
              · intro h j hj
                have := h.2.2.2.2 _ (List.getElem_mem hj)
                rw [hw] at this; exact this)
            obtain ⟨sk, hsk⟩ : ∃ sk, sk = decide (SkOk l) := ⟨_, rfl⟩
            rw [← hsk]
            have HD := Lib.hid hsk
            clear hw hsk h0 h48 h3 h5
            go_enter Tryd.func42, Tryd.ntmps42
            go_wp2
            go_loopg [29] l.length (fun g i wr => ∃ k : Nat, i = .int .i64 k ∧ k ≤ l.length ∧ g = l.length - k ∧ Below w.heap.size w wr ∧ ∀ j (hj : j < l.length), j < k → RowOk r0.size l[j])
            case atStart => exact ⟨0, rfl, by omega, by omega, Below.refl _ _, fun j hj h => by omega⟩
            case round =>
              obtain ⟨k, rfl, hk, hg, hb, ha⟩ := hrel
              have HG := Lib.hid hg
              have HA := Lib.hid ha
              have HBL := Lib.hid hb
              clear hg ha c0
              by_cases hlt2 : k < l.length
              · obtain ⟨hblt, hcl⟩ := HC.out _ hb
                have c1 := hcl k hlt2
                have c0 := HC0.out _ hb
                have hsz : l[k].size ≤ 9223372036854775807 := HZ.out _ (List.getElem_mem hlt2)
                obtain ⟨r, hr⟩ : ∃ r, r = l[k] := ⟨_, rfl⟩
                have HRK := Lib.hid hr
                rw [← hr] at c1 hsz
                clear hcl hr hb
                by_cases hs : r.size = r0.size
                · have hs2 : ((r.size : Int) != (r0.size : Int)) = false := by simp [hs]
                  have HTR := Lib.hid (HT.out r wr hsz)
                  have HRI := Lib.hid (row_iff hs)
                  have HNE := Lib.hid (bytes_empty (l := Lib.trimS r.data.toList digs))
                  obtain ⟨R, hR⟩ : ∃ R : ByteArray, R = ⟨(Lib.trimS r.data.toList digs).toArray⟩ := ⟨_, rfl⟩
                  rw [← hR] at HTR HNE
                  clear hs hR
                  by_cases ht : Lib.trimS r.data.toList digs = []
                  · have hn : R.toList.isEmpty = true := by rw [HNE.out]; simpa using ht
                    have HOK := Lib.hid (HRI.out.2 ht)
                    clear ht
                    go_wp2_with (go_at_call 81; refine (HTR.out).mono ?_; rintro e w1 ⟨rfl, hx1⟩; have HB1 := Lib.hid (ext_trans HBL.out hx1); clear hx1)
                    go_roundg (l.length - (k + 1))
                    case measure => have := HG.out; omega
                    case rel => exact ⟨k + 1, by go_num, by omega, rfl, HB1.out, fun j hj h => by
                      by_cases e : j = k
                      · subst e; rw [← HRK.out]; exact HOK.out
                      · exact HA.out j hj (by omega)⟩
                  · have hn : R.toList.isEmpty = false := by rw [HNE.out]; simpa using ht
                    have HOK := Lib.hid (show sk = false from by
                      rw [HD.out]
                      refine decide_eq_false (fun h => ht (HRI.out.1 ?_))
                      rw [HRK.out]; exact HSK.out.2 h k hlt2)
                    clear ht
                    go_wp2_with (go_at_call 81; refine (HTR.out).mono ?_; rintro e w1 ⟨rfl, hx1⟩; have HB1 := Lib.hid (ext_trans HBL.out hx1); clear hx1)
                    go_ret
                    exact ⟨by rw [HOK.out]; rfl, HB1.out⟩
                · have hs2 : ((r.size : Int) != (r0.size : Int)) = true := by simp; omega
                  have HOK := Lib.hid (show sk = false from by
                    rw [HD.out]
                    refine decide_eq_false (fun h => hs ?_)
                    rw [HRK.out]; exact (HSK.out.2 h k hlt2).1)
                  clear hs
                  go_wp2
                  go_ret
                  exact ⟨by rw [HOK.out]; rfl, HBL.out⟩
              · have HOK := Lib.hid (show sk = true from by
                  rw [HD.out]
                  exact decide_eq_true (HSK.out.1 (fun j hj => HA.out j hj (by omega))))
                obtain rfl : k = l.length := by omega
                go_wp2
                go_ret
                exact ⟨by rw [HOK.out]; rfl, HBL.out⟩

def byteAt (r : ByteArray) (i : Nat) : Nat := if h : i < r.size then r[i].toNat else 48
theorem digs_range {b : UInt8} (h : b ∈ digs) : 48 ≤ b.toNat ∧ b.toNat ≤ 57 := by
  unfold digs at h
  simp only [List.mem_cons, List.mem_nil_iff, or_false] at h
  rcases h with rfl | rfl | rfl | rfl | rfl | rfl | rfl | rfl | rfl | rfl <;> decide
theorem byte_range {w : Nat} {r : ByteArray} (h : RowOk w r) (i : Nat) : 48 ≤ byteAt r i ∧ byteAt r i ≤ 57 := by
  unfold byteAt
  split
  · rename_i hi
    exact digs_range (h.2 _ (by
      have e : r[i] = r.data[i]'(by exact hi) := rfl
      rw [e]; exact Array.mem_toList_iff.2 (Array.getElem_mem _)))
  · decide
/-- the grade of a cell, 0 outside -/
def gr (l : List ByteArray) (x y : Int) : Int :=
  if y < 0 ∨ (l.length : Int) ≤ y ∨ x < 0 ∨ (wid l : Int) ≤ x then 0
  else match l[y.toNat]? with | some r => (byteAt r x.toNat : Int) - 48 | none => 0
theorem least_any (g : Int) (w : World) : Calls Tryd.prog 43 #[.int .i64 g] w fun e w' => e = .returned (.bool (decide (1 ≤ g ∧ g ≤ 9))) ∧ w' = w := by
  by_cases h1 : 1 ≤ g
  · by_cases h2 : g ≤ 9
    · rw [decide_eq_true (show 1 ≤ g ∧ g ≤ 9 from ⟨h1, h2⟩)]
      go_enter Tryd.func43, Tryd.ntmps43
      go_wp2
      go_ret
      exact ⟨rfl, rfl⟩
    · rw [decide_eq_false (show ¬ (1 ≤ g ∧ g ≤ 9) from fun h => h2 h.2)]
      go_enter Tryd.func43, Tryd.ntmps43
      go_wp2
      go_ret
      exact ⟨rfl, rfl⟩
  · rw [decide_eq_false (show ¬ (1 ≤ g ∧ g ≤ 9) from fun h => h1 h.1)]
    go_enter Tryd.func43, Tryd.ntmps43
    go_wp2
    go_ret
    exact ⟨rfl, rfl⟩
theorem SkOk.row {l : List ByteArray} (h : SkOk l) {k : Nat} (hk : k < l.length) : RowOk (wid l) l[k] := h.2.2.2.2 _ (List.getElem_mem hk)
set_option maxRecDepth 100000 in
set_option maxHeartbeats 4000000 in
theorem grade_any (A : Option Addr) (cap : Nat) (l : List ByteArray) (x y : Int) (w : World) (hok : SkOk l) (h : TSl w A l) :
    Calls Tryd.prog 45 #[.slice A l.length cap, .int .i64 x, .int .i64 y] w fun e w' => e = .returned (.int .i64 (gr l x y)) ∧ w' = w := by
  have h1 := hok.1
  have h48 := hok.2.1
  rcases h with rfl | ⟨b, off, rfl, hlt, hcl⟩
  · simp at h1
  by_cases hy : y < 0
  · rw [show gr l x y = 0 from if_pos (.inl hy)]
    clear hcl hok
    go_enter Tryd.func45, Tryd.ntmps45
    go_wp2
    go_ret
    exact ⟨rfl, rfl⟩
  · by_cases hy2 : (l.length : Int) ≤ y
    · rw [show gr l x y = 0 from if_pos (.inr (.inl hy2))]
      clear hcl hok
      go_enter Tryd.func45, Tryd.ntmps45
      go_wp2
      go_ret
      exact ⟨rfl, rfl⟩
    · by_cases hx : x < 0
      · rw [show gr l x y = 0 from if_pos (.inr (.inr (.inl hx)))]
        clear hcl hok
        go_enter Tryd.func45, Tryd.ntmps45
        go_wp2
        go_ret
        exact ⟨rfl, rfl⟩
      · obtain ⟨j, rfl⟩ := Int.eq_ofNat_of_zero_le (show 0 ≤ y by omega)
        obtain ⟨i, rfl⟩ := Int.eq_ofNat_of_zero_le (show 0 ≤ x by omega)
        have hj : j < l.length := by omega
        have c1 := hcl j hj
        have hrow := hok.row hj
        obtain ⟨r, hr⟩ : ∃ r, r = l[j] := ⟨_, rfl⟩
        rw [← hr] at c1 hrow
        have hs := hrow.1
        have hj1 : (0 : Int) ≤ (j : Int) := by omega
        have hj2 : (j : Int) < (l.length : Int) := by omega
        by_cases hx2 : (wid l : Int) ≤ (i : Int)
        · rw [show gr l (i : Int) (j : Int) = 0 from if_pos (.inr (.inr (.inr hx2)))]
          have hx3 : (r.size : Int) ≤ (i : Int) := by omega
          clear hcl hok hrow hs hx2 hr
          go_enter Tryd.func45, Tryd.ntmps45
          go_wp2
          go_ret
          exact ⟨rfl, rfl⟩
        · have hx3 : (i : Int) < (r.size : Int) := by omega
          have hx4 : i < r.data.size := by have : r.size = r.data.size := rfl; omega
          have HG := Lib.hid (show gr l (i : Int) (j : Int) = (byteAt r i : Int) - 48 from by
            unfold gr
            rw [if_neg (by omega), Int.toNat_natCast, Int.toNat_natCast, List.getElem?_eq_getElem hj, ← hr])
          have HD := Lib.hid (show 48 ≤ byteAt r i ∧ byteAt r i ≤ 57 from byte_range hrow i)
          obtain ⟨z, hz⟩ : ∃ z, z = gr l (i : Int) (j : Int) := ⟨_, rfl⟩
          have HZ := Lib.hid hz
          rw [← hz]
          clear hcl hok hrow hs hx2 hr hz
          go_enter Tryd.func45, Tryd.ntmps45
          go_wp2
          go_ret
          refine ⟨?_, rfl⟩
          have hd := HD.out
          have hg := HG.out
          have e : byteAt r i = r[i].toNat := dif_pos hx4
          rw [e] at hd hg
          have hm : ((r[i].toNat : Int) - 48) % 256 = (r[i].toNat : Int) - 48 := by omega
          have hf : (r[i].toNat : Int) - 48 = z := by rw [HZ.out, hg]
          rw [hf] at hm
          show Ending.returned (.int .i64 (((r[i].toNat : Int) - 48) % 256)) = _
          rw [hf, hm]
end Go.Proofs.YtmgofdgbenfjmaaDoor
