/- grade, least walked. Conditions: a skin. -/
import Derived.Test.YtmgofdgbenfjmaaDoorSk
namespace Go.Proofs.YtmgofdgbenfjmaaDoor
open Go.RowKit

def byteAt (r : ByteArray) (i : Nat) : Nat := if h : i < r.size then r[i].toNat else 48
theorem digs_range {b : UInt8} (h : b ∈ digs) : 48 ≤ b.toNat ∧ b.toNat ≤ 57 := by
  unfold digs at h
  simp only [List.mem_cons, List.mem_nil_iff, or_false] at h
  rcases h with rfl | rfl | rfl | rfl | rfl | rfl | rfl | rfl | rfl | rfl <;> decide
theorem byte_range {w : Nat} {r : ByteArray} (h : RowOk w r) (i : Nat) : 48 ≤ byteAt r i ∧ byteAt r i ≤ 57 := by
  unfold byteAt
  split
  · rename_i hi
    exact digs_range (h.2 _ (by
      have e : r[i] = r.data[i]'(by exact hi) := rfl
      rw [e]; exact Array.mem_toList_iff.2 (Array.getElem_mem _)))
  · decide
/-- the grade of a cell, 0 outside -/
def gr (l : List ByteArray) (x y : Int) : Int :=
  if y < 0 ∨ (l.length : Int) ≤ y ∨ x < 0 ∨ (wid l : Int) ≤ x then 0
  else match l[y.toNat]? with | some r => (byteAt r x.toNat : Int) - 48 | none => 0
theorem least_any (g : Int) (w : World) : Calls Tryd.prog 43 #[.int .i64 g] w fun e w' => e = .returned (.bool (decide (1 ≤ g ∧ g ≤ 9))) ∧ w' = w := by
  by_cases h1 : 1 ≤ g
  · by_cases h2 : g ≤ 9
    · rw [decide_eq_true (show 1 ≤ g ∧ g ≤ 9 from ⟨h1, h2⟩)]
      go_enter Tryd.func43, Tryd.ntmps43
      go_wp2
      go_ret
      exact ⟨rfl, rfl⟩
    · rw [decide_eq_false (show ¬ (1 ≤ g ∧ g ≤ 9) from fun h => h2 h.2)]
      go_enter Tryd.func43, Tryd.ntmps43
      go_wp2
      go_ret
      exact ⟨rfl, rfl⟩
  · rw [decide_eq_false (show ¬ (1 ≤ g ∧ g ≤ 9) from fun h => h1 h.1)]
    go_enter Tryd.func43, Tryd.ntmps43
    go_wp2
    go_ret
    exact ⟨rfl, rfl⟩
theorem SkOk.row {l : List ByteArray} (h : SkOk l) {k : Nat} (hk : k < l.length) : RowOk (wid l) l[k] := h.2.2.2.2 _ (List.getElem_mem hk)
set_option maxRecDepth 100000 in
set_option maxHeartbeats 4000000 in
theorem grade_any (A : Option Addr) (cap : Nat) (l : List ByteArray) (x y : Int) (w : World) (hok : SkOk l) (h : TSl w A l) :
    Calls Tryd.prog 45 #[.slice A l.length cap, .int .i64 x, .int .i64 y] w fun e w' => e = .returned (.int .i64 (gr l x y)) ∧ w' = w := by
  have h1 := hok.1
  have h48 := hok.2.1
  rcases h with rfl | ⟨b, off, rfl, hlt, hcl⟩
  · simp at h1
  by_cases hy : y < 0
  · rw [show gr l x y = 0 from if_pos (.inl hy)]
    clear hcl hok
    go_enter Tryd.func45, Tryd.ntmps45
    go_wp2
    go_ret
    exact ⟨rfl, rfl⟩
  · by_cases hy2 : (l.length : Int) ≤ y
    · rw [show gr l x y = 0 from if_pos (.inr (.inl hy2))]
      clear hcl hok
      go_enter Tryd.func45, Tryd.ntmps45
      go_wp2
      go_ret
      exact ⟨rfl, rfl⟩
    · by_cases hx : x < 0
      · rw [show gr l x y = 0 from if_pos (.inr (.inr (.inl hx)))]
        clear hcl hok
        go_enter Tryd.func45, Tryd.ntmps45
        go_wp2
        go_ret
        exact ⟨rfl, rfl⟩
      · obtain ⟨j, rfl⟩ := Int.eq_ofNat_of_zero_le (show 0 ≤ y by omega)
        obtain ⟨i, rfl⟩ := Int.eq_ofNat_of_zero_le (show 0 ≤ x by omega)
        have hj : j < l.length := by omega
        have c1 := hcl j hj
        have hrow := hok.row hj
        obtain ⟨r, hr⟩ : ∃ r, r = l[j] := ⟨_, rfl⟩
        rw [← hr] at c1 hrow
        have hs := hrow.1
        have hj1 : (0 : Int) ≤ (j : Int) := by omega
        have hj2 : (j : Int) < (l.length : Int) := by omega
        by_cases hx2 : (wid l : Int) ≤ (i : Int)
        · rw [show gr l (i : Int) (j : Int) = 0 from if_pos (.inr (.inr (.inr hx2)))]
          have hx3 : (r.size : Int) ≤ (i : Int) := by omega
          clear hcl hok hrow hs hx2 hr
          go_enter Tryd.func45, Tryd.ntmps45
          go_wp2
          go_ret
          exact ⟨rfl, rfl⟩
        · have hx3 : (i : Int) < (r.size : Int) := by omega
          have hx4 : i < r.data.size := by have : r.size = r.data.size := rfl; omega
          have HG := Lib.hid (show gr l (i : Int) (j : Int) = (byteAt r i : Int) - 48 from by
            unfold gr
            rw [if_neg (by omega), Int.toNat_natCast, Int.toNat_natCast, List.getElem?_eq_getElem hj, ← hr])
          have HD := Lib.hid (show 48 ≤ byteAt r i ∧ byteAt r i ≤ 57 from byte_range hrow i)
          obtain ⟨z, hz⟩ : ∃ z, z = gr l (i : Int) (j : Int) := ⟨_, rfl⟩
          have HZ := Lib.hid hz
          rw [← hz]
          clear hcl hok hrow hs hx2 hr hz
          go_enter Tryd.func45, Tryd.ntmps45
          go_wp2
          go_ret
          refine ⟨?_, rfl⟩
          have hd := HD.out
          have hg := HG.out
          have e : byteAt r i = r[i].toNat := dif_pos hx4
          rw [e] at hd hg
          have hm : ((r[i].toNat : Int) - 48) % 256 = (r[i].toNat : Int) - 48 := by omega
          have hf : (r[i].toNat : Int) - 48 = z := by rw [HZ.out, hg]
          rw [hf] at hm
          show Ending.returned (.int .i64 (((r[i].toNat : Int) - 48) % 256)) = _
          rw [hf, hm]
end Go.Proofs.YtmgofdgbenfjmaaDoor
