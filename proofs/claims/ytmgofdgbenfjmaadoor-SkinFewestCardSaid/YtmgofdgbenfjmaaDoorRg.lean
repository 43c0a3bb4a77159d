/- The reference's Valid and Grade walked. Conditions: each string's length is an int; a skin. -/
import Derived.Test.YtmgofdgbenfjmaaDoorSk1
namespace Go.Proofs.YtmgofdgbenfjmaaDoor
open Go.RowKit

theorem range_digs {b : UInt8} (h : 48 ≤ b.toNat ∧ b.toNat ≤ 57) : b ∈ digs := by
  unfold digs
  simp only [List.mem_cons, List.mem_nil_iff, or_false]
  have e : ∀ n : Nat, b.toNat = n → b = UInt8.ofNat n := fun n hn => by rw [← hn]; simp
  rcases (by omega : b.toNat = 48 ∨ b.toNat = 49 ∨ b.toNat = 50 ∨ b.toNat = 51 ∨ b.toNat = 52 ∨ b.toNat = 53 ∨ b.toNat = 54 ∨ b.toNat = 55 ∨ b.toNat = 56 ∨ b.toNat = 57) with h | h | h | h | h | h | h | h | h | h <;> rw [e _ h] <;> decide
theorem row_all {w : Nat} {r : ByteArray} (h : r.size = w) : RowOk w r ↔ ∀ j, j < r.size → 48 ≤ byteAt r j ∧ byteAt r j ≤ 57 := by
  constructor
  · intro hr j _
    exact byte_range hr j
  · intro hj
    refine ⟨h, fun x hx => ?_⟩
    obtain ⟨j, hj2, e⟩ := List.getElem_of_mem hx
    have hlt : j < r.size := by simpa using hj2
    have h2 := hj j hlt
    have e2 : byteAt r j = r[j].toNat := dif_pos hlt
    rw [e2] at h2
    have e3 : r[j] = x := by
      rw [← e]
      have e4 : r[j] = r.data[j]'(by exact hlt) := rfl
      rw [e4]; simp
    rw [e3] at h2
    exact range_digs h2
set_option maxRecDepth 100000 in
set_option maxHeartbeats 4000000 in
theorem rvalid_any (A : Option Addr) (cap : Nat) (l : List ByteArray) (w : World) (hc : l.length ≤ cap) (_hcm : cap ≤ 9223372036854775807) (h : TSl w A l) (hz : TSz l) :
    Calls Tryd.prog 38 #[.slice A l.length cap] w fun e w' => e = .returned (.bool (decide (SkOk l))) ∧ Below w.heap.size w w' := by
  rcases h with rfl | ⟨b, off, rfl, hlt, hcl⟩
  · rw [decide_eq_false (show ¬ SkOk [] from fun h => by have := h.1; simp at this)]
    go_enter Tryd.func38, Tryd.ntmps38
    go_wp2
    go_ret
    exact ⟨rfl, Below.refl _ _⟩
  · have HZ := Lib.hid hz
    have HC := Lib.hid (show ∀ W, Below w.heap.size w W → b < W.heap.size ∧ ∀ j (hj : j < l.length), W.cell? ⟨b, off + j, none⟩ = some (.string l[j]) from fun W hW => ⟨Nat.lt_of_lt_of_le hlt hW.size, fun j hj => (hW.cell (p := ⟨b, off + j, none⟩) hlt).trans (hcl j hj)⟩)
    by_cases h0 : l.length < 1
    · rw [decide_eq_false (show ¬ SkOk l from fun h => by have := h.1; omega)]
      have h1 : (l.length : Int) < 1 := by omega
      clear hcl hz
      go_enter Tryd.func38, Tryd.ntmps38
      go_wp2
      go_ret
      exact ⟨rfl, Below.refl _ _⟩
    · have h1 : ¬ (l.length : Int) < 1 := by omega
      by_cases h48 : 48 < l.length
      · rw [decide_eq_false (show ¬ SkOk l from fun h => by have := h.2.1; omega)]
        have h2 : (48 : Int) < (l.length : Int) := by omega
        clear hcl hz
        go_enter Tryd.func38, Tryd.ntmps38
        go_wp2
        go_ret
        exact ⟨rfl, Below.refl _ _⟩
      · have h2 : ¬ (48 : Int) < (l.length : Int) := by omega
        have c0 := hcl 0 (by omega)
        rw [Nat.add_zero] at c0
        obtain ⟨r0, hr0⟩ : ∃ r0, r0 = l[0]'(by omega) := ⟨_, rfl⟩
        rw [← hr0] at c0
        have hw : wid l = r0.size := by
          rw [hr0]
          cases l with
          | nil => simp at h0
          | cons a t => rfl
        have HW0 := Lib.hid hw
        have HC0 := Lib.hid (show ∀ W, Below w.heap.size w W → W.cell? ⟨b, off, none⟩ = some (.string r0) from fun W hW => (hW.cell (p := ⟨b, off, none⟩) hlt).trans c0)
        have hr0s : r0.size ≤ 9223372036854775807 := hz r0 (by rw [hr0]; exact List.getElem_mem _)
        clear hcl hz hr0
        by_cases h3 : r0.size < 1
        · rw [decide_eq_false (show ¬ SkOk l from fun h => by have := h.2.2.1; omega)]
          have h4 : (r0.size : Int) < 1 := by omega
          clear hw
          go_enter Tryd.func38, Tryd.ntmps38
          go_wp2
          go_ret
          exact ⟨rfl, Below.refl _ _⟩
        · have h4 : ¬ (r0.size : Int) < 1 := by omega
          by_cases h5 : 48 < r0.size
          · rw [decide_eq_false (show ¬ SkOk l from fun h => by have := h.2.2.2.1; omega)]
            have h6 : (48 : Int) < (r0.size : Int) := by omega
            clear hw
            go_enter Tryd.func38, Tryd.ntmps38
            go_wp2
            go_ret
            exact ⟨rfl, Below.refl _ _⟩
          · have h6 : ¬ (48 : Int) < (r0.size : Int) := by omega
            have HSK := Lib.hid (show (∀ j (hj : j < l.length), RowOk r0.size l[j]) ↔ SkOk l from by
              constructor
              · intro h
                refine ⟨by omega, by omega, by omega, by omega, fun r hr => ?_⟩
                obtain ⟨j, hj, rfl⟩ := List.getElem_of_mem hr
                rw [hw]; exact h j hj
              · intro h j hj
                have := h.2.2.2.2 _ (List.getElem_mem hj)
                rw [hw] at this; exact this)
            obtain ⟨sk, hsk⟩ : ∃ sk, sk = decide (SkOk l) := ⟨_, rfl⟩
            rw [← hsk]
            have HD := Lib.hid hsk
            clear hw hsk h0 h48 h3 h5
            go_enter Tryd.func38, Tryd.ntmps38
            go_wp2
            go_loopg [30] l.length (fun g i wr => ∃ k : Nat, i = .int .i64 k ∧ k ≤ l.length ∧ g = l.length - k ∧ Below w.heap.size w wr ∧ ∀ j (hj : j < l.length), j < k → RowOk r0.size l[j])
            case atStart => exact ⟨0, rfl, by omega, by omega, Below.refl _ _, fun j hj h => by omega⟩
            case round =>
              obtain ⟨k, rfl, hk, hg, hb, ha⟩ := hrel
              have HG := Lib.hid hg
              have HA := Lib.hid ha
              have HBL := Lib.hid hb
              clear hg ha c0
              by_cases hlt2 : k < l.length
              · obtain ⟨hblt, hcl⟩ := HC.out _ hb
                have c1 := hcl k hlt2
                have c0 := HC0.out _ hb
                have hsz : l[k].size ≤ 9223372036854775807 := HZ.out _ (List.getElem_mem hlt2)
                obtain ⟨r, hr⟩ : ∃ r, r = l[k] := ⟨_, rfl⟩
                have HRK := Lib.hid hr
                rw [← hr] at c1 hsz
                clear hcl hr hb
                by_cases hs : r.size = r0.size
                · have hs2 : ((r.size : Int) != (r0.size : Int)) = false := by simp [hs]
                  have HRI := Lib.hid (row_all hs)
                  have hr48 : r.size ≤ 48 := by omega
                  clear hs
                  go_wp2
                  go_loopg [43] r.size (fun g i wx => ∃ q : Nat, i = .int .i64 q ∧ q ≤ r.size ∧ g = r.size - q ∧ wx = wr ∧ ∀ j, j < q → 48 ≤ byteAt r j ∧ byteAt r j ≤ 57)
                  case atStart => exact ⟨0, rfl, by omega, by omega, rfl, fun j h => by omega⟩
                  case round =>
                    obtain ⟨q, rfl, hq, hg2, rfl, hall⟩ := hrel
                    have HG2 := Lib.hid hg2
                    have HAL := Lib.hid hall
                    clear hg2 hall
                    by_cases hqs : q < r.size
                    · have hbq : byteAt r q = r[q].toNat := dif_pos hqs
                      by_cases hd : 48 ≤ byteAt r q ∧ byteAt r q ≤ 57
                      · have HD2 := Lib.hid hd
                        rw [hbq] at hd
                        obtain ⟨d1, d2⟩ := hd
                        have e1 : ¬ ((r[q].toNat : Int) < 48) := by omega
                        have e2 : ¬ ((57 : Int) < (r[q].toNat : Int)) := by omega
                        clear hbq
                        go_wp2
                        go_roundg (r.size - (q + 1))
                        case measure => have := HG2.out; omega
                        case rel => exact ⟨q + 1, by go_num, by omega, rfl, rfl, fun j h => by
                          by_cases e : j = q
                          · subst e; exact HD2.out
                          · exact HAL.out j (by omega)⟩
                      · have HOK := Lib.hid (show sk = false from by
                          rw [HD.out]
                          refine decide_eq_false (fun h => hd (HRI.out.1 ?_ q hqs))
                          rw [HRK.out]; exact HSK.out.2 h k hlt2)
                        rw [hbq] at hd
                        clear hbq
                        by_cases e1 : (r[q].toNat : Int) < 48
                        · clear hd
                          go_wp2
                          go_ret
                          exact ⟨by rw [HOK.out]; rfl, HBL.out⟩
                        · have e2 : (57 : Int) < (r[q].toNat : Int) := by omega
                          clear hd
                          go_wp2
                          go_ret
                          exact ⟨by rw [HOK.out]; rfl, HBL.out⟩
                    · obtain rfl : q = r.size := by omega
                      have HOK := Lib.hid (HRI.out.2 (fun j h => HAL.out j h))
                      go_wp2
                      go_roundg (l.length - (k + 1))
                      case measure => have := HG.out; omega
                      case rel => exact ⟨k + 1, by go_num, by omega, rfl, HBL.out, fun j hj h => by
                        by_cases e : j = k
                        · subst e; rw [← HRK.out]; exact HOK.out
                        · exact HA.out j hj (by omega)⟩
                · have hs2 : ((r.size : Int) != (r0.size : Int)) = true := by simp; omega
                  have HOK := Lib.hid (show sk = false from by
                    rw [HD.out]
                    refine decide_eq_false (fun h => hs ?_)
                    rw [HRK.out]; exact (HSK.out.2 h k hlt2).1)
                  clear hs
                  go_wp2
                  go_ret
                  exact ⟨by rw [HOK.out]; rfl, HBL.out⟩
              · have HOK := Lib.hid (show sk = true from by
                  rw [HD.out]
                  exact decide_eq_true (HSK.out.1 (fun j hj => HA.out j hj (by omega))))
                obtain rfl : k = l.length := by omega
                go_wp2
                go_ret
                exact ⟨by rw [HOK.out]; rfl, HBL.out⟩
set_option maxRecDepth 100000 in
set_option maxHeartbeats 4000000 in
theorem rgrade_any (A : Option Addr) (cap : Nat) (l : List ByteArray) (x y : Int) (w : World) (hok : SkOk l) (h : TSl w A l) :
    Calls Tryd.prog 34 #[.slice A l.length cap, .int .i64 x, .int .i64 y] w fun e w' => e = .returned (.int .i64 (gr l x y)) ∧ w' = w := by
  have h1 := hok.1
  have h48 := hok.2.1
  rcases h with rfl | ⟨b, off, rfl, hlt, hcl⟩
  · simp at h1
  by_cases hy : y < 0
  · rw [show gr l x y = 0 from if_pos (.inl hy)]
    clear hcl hok
    go_enter Tryd.func34, Tryd.ntmps34
    go_wp2
    go_ret
    exact ⟨rfl, rfl⟩
  · by_cases hy2 : (l.length : Int) ≤ y
    · rw [show gr l x y = 0 from if_pos (.inr (.inl hy2))]
      clear hcl hok
      go_enter Tryd.func34, Tryd.ntmps34
      go_wp2
      go_ret
      exact ⟨rfl, rfl⟩
    · by_cases hx : x < 0
      · rw [show gr l x y = 0 from if_pos (.inr (.inr (.inl hx)))]
        clear hcl hok
        go_enter Tryd.func34, Tryd.ntmps34
        go_wp2
        go_ret
        exact ⟨rfl, rfl⟩
      · obtain ⟨j, rfl⟩ := Int.eq_ofNat_of_zero_le (show 0 ≤ y by omega)
        obtain ⟨i, rfl⟩ := Int.eq_ofNat_of_zero_le (show 0 ≤ x by omega)
        have hj : j < l.length := by omega
        have c1 := hcl j hj
        have c0 := hcl 0 (by omega)
        rw [Nat.add_zero] at c0
        have hr0 := (hok.row (show 0 < l.length by omega)).1
        obtain ⟨r0, hr00⟩ : ∃ r0, r0 = l[0]'(by omega) := ⟨_, rfl⟩
        rw [← hr00] at c0 hr0
        clear hr00
        have hrow := hok.row hj
        obtain ⟨r, hr⟩ : ∃ r, r = l[j] := ⟨_, rfl⟩
        rw [← hr] at c1 hrow
        have hs := hrow.1
        have hj1 : (0 : Int) ≤ (j : Int) := by omega
        have hj2 : (j : Int) < (l.length : Int) := by omega
        by_cases hx2 : (wid l : Int) ≤ (i : Int)
        · rw [show gr l (i : Int) (j : Int) = 0 from if_pos (.inr (.inr (.inr hx2)))]
          have hx3 : (r0.size : Int) ≤ (i : Int) := by omega
          clear hcl hok hrow hs hx2 hr hr0
          go_enter Tryd.func34, Tryd.ntmps34
          go_wp2
          go_ret
          exact ⟨rfl, rfl⟩
        · have hx3 : (i : Int) < (r.size : Int) := by omega
          have hx30 : (i : Int) < (r0.size : Int) := by omega
          have hx4 : i < r.data.size := by have : r.size = r.data.size := rfl; omega
          have HG := Lib.hid (show gr l (i : Int) (j : Int) = (byteAt r i : Int) - 48 from by
            unfold gr
            rw [if_neg (by omega), Int.toNat_natCast, Int.toNat_natCast, List.getElem?_eq_getElem hj, ← hr])
          have HD := Lib.hid (show 48 ≤ byteAt r i ∧ byteAt r i ≤ 57 from byte_range hrow i)
          obtain ⟨z, hz⟩ : ∃ z, z = gr l (i : Int) (j : Int) := ⟨_, rfl⟩
          have HZ := Lib.hid hz
          rw [← hz]
          clear hcl hok hrow hs hx2 hr hz hr0
          go_enter Tryd.func34, Tryd.ntmps34
          go_wp2
          go_ret
          refine ⟨?_, rfl⟩
          have hd := HD.out
          have hg := HG.out
          have e : byteAt r i = r[i].toNat := dif_pos hx4
          rw [e] at hd hg
          have hm : ((r[i].toNat : Int) - 48) % 256 = (r[i].toNat : Int) - 48 := by omega
          have hf : (r[i].toNat : Int) - 48 = z := by rw [HZ.out, hg]
          rw [hf] at hm
          show Ending.returned (.int .i64 (((r[i].toNat : Int) - 48) % 256)) = _
          rw [hf, hm]
end Go.Proofs.YtmgofdgbenfjmaaDoor
