/- The reference's Program walked. Conditions: the slice reads as a list of ops. -/
import Derived.Test.YtfadkokdoehjnaaDoorOpm
namespace Go.Proofs.YtfadkokdoehjnaaDoor
open Go.RowKit

/-- why an op is not valid -/
theorem op_bad {o : Opr} (h : ¬ OpOk o) : o.c < 0 ∨ 5 < o.c ∨ (0 ≤ o.c ∧ o.c ≤ 5 ∧ (o.g < 0 ∨ (0 ≤ o.g ∧ most o.c < o.g) ∨ (0 ≤ o.g ∧ o.g ≤ most o.c ∧ o.b = true ∧ o.c ≠ 3))) := by
  unfold OpOk at h
  by_cases h1 : o.c < 0
  · exact .inl h1
  by_cases h2 : 5 < o.c
  · exact .inr (.inl h2)
  refine .inr (.inr ⟨by omega, by omega, ?_⟩)
  by_cases h3 : o.g < 0
  · exact .inl h3
  by_cases h4 : most o.c < o.g
  · exact .inr (.inl ⟨by omega, h4⟩)
  refine .inr (.inr ⟨by omega, by omega, ?_⟩)
  cases hb : o.b
  · exact absurd ⟨by omega, by omega, by omega, by omega, fun h => by rw [hb] at h; cases h⟩ h
  · exact ⟨rfl, fun h5 => h ⟨by omega, by omega, by omega, by omega, fun _ => h5⟩⟩
theorem six {c : Int} (h1 : 0 ≤ c) (h2 : c ≤ 5) : c = 0 ∨ c = 1 ∨ c = 2 ∨ c = 3 ∨ c = 4 ∨ c = 5 := by omega
/-- the cell that the region reads -/
theorem most_cell {w : World} {g : Nat} (h : Bk 75 w g #[.int .i64 7, .int .i64 15, .int .i64 0, .int .i64 63, .int .i64 0, .int .i64 99]) {c : Int} (h1 : 0 ≤ c) (h2 : c ≤ 5) : w.cell? ⟨g, c.toNat, none⟩ = some (.int .i64 (most c)) := by
  rw [h.cell]
  rcases six h1 h2 with rfl | rfl | rfl | rfl | rfl | rfl <;> rfl

set_option maxRecDepth 100000 in
set_option maxHeartbeats 4000000 in
/-- the reference's 'Program' -/
theorem rprog_any (A : Option Addr) (cap : Nat) (l : List Opr) (w : World) (_hc : l.length ≤ cap) (_hcm : cap ≤ 9223372036854775807) (h : OSl w A l) :
    Calls Tryd.prog 17 #[.slice A l.length cap] w fun e w' => e = .returned (.bool (decide (PrOk l))) ∧ Below w.heap.size w w' := by
  have H := Lib.hid h
  clear h
  obtain ⟨z, hz⟩ : ∃ z, z = decide (PrOk l) := ⟨_, rfl⟩
  have HZ := Lib.hid hz
  rw [← hz]
  clear hz
  go_enter Tryd.func17, Tryd.ntmps17
  go_wp2
  go_loopg [8] l.length (fun g i wr => ∃ (k : Nat), i = .int .i64 k ∧ k ≤ l.length ∧ g = l.length - k ∧ Below w.heap.size w wr ∧ ∀ j (hj : j < l.length), j < k → OpOk l[j])
  case atStart => exact ⟨0, rfl, by omega, by omega, Below.refl _ _, fun j hj h => by omega⟩
  case round =>
    obtain ⟨k, rfl, hk, hg, hb, hv⟩ := hrel
    have HG := Lib.hid hg
    have HV := Lib.hid hv
    clear hg hv
    by_cases hlt : k < l.length
    · rcases H.out.ext hb with hf | ⟨b, off, rfl, hblt, hcl⟩
      · rw [hf] at hlt; simp at hlt
      · obtain ⟨d1, d2, d3⟩ := hcl k hlt
        have HST := Lib.hid (fun o ho => pr_step hlt (o := o) ho HV.out)
        have HNO := Lib.hid (fun o ho => pr_no hlt (o := o) ho)
        obtain ⟨m, hm⟩ : ∃ m, m = l[k] := ⟨_, rfl⟩
        rw [← hm] at d1 d2 d3
        have HST := Lib.hid (HST.out m hm)
        have HNO := Lib.hid (HNO.out m hm)
        clear hm hcl
        have HB1 := Lib.hid ((Bk.new 34 wr #[.int .i64 m.c, .int .i64 m.g, .bool m.b]).alloc (.cells #[.int .i64 7, .int .i64 15, .int .i64 0, .int .i64 63, .int .i64 0, .int .i64 99] 75))
        have hb2 := Bk.new 75 (wr.alloc (.cells #[.int .i64 m.c, .int .i64 m.g, .bool m.b] 34)) #[.int .i64 7, .int .i64 15, .int .i64 0, .int .i64 63, .int .i64 0, .int .i64 99]
        rw [World.size_alloc] at hb2
        have HB2 := Lib.hid hb2
        have HX := Lib.hid (bext hb (ext_trans (ext_alloc wr (.cells #[.int .i64 m.c, .int .i64 m.g, .bool m.b] 34)) (ext_alloc _ (.cells #[.int .i64 7, .int .i64 15, .int .i64 0, .int .i64 63, .int .i64 0, .int .i64 99] 75))) hb.size)
        clear hb2
        have HMC := Lib.hid (fun W h h1 h2 => most_cell (w := W) (g := wr.heap.size + 1) h (c := m.c) h1 h2)
        by_cases hok : OpOk m
        · have HOK := Lib.hid hok
          have HB := Lib.hid hok.2.2.2.2
          obtain ⟨o1, o2, o3, o4, _⟩ := hok
          obtain ⟨oc, og, ob⟩ := m
          dsimp only at d1 d2 d3 o1 o2 o3 o4
          obtain ⟨q, rfl⟩ := Int.eq_ofNat_of_zero_le o1
          obtain ⟨mo, hmo⟩ : ∃ mo, mo = most (q : Int) := ⟨_, rfl⟩
          rw [← hmo] at o4 HMC
          clear HNO hmo
          go_upto_region 5 with (fail)
          obtain ⟨W, hW⟩ : ∃ W, W = (wr.alloc (.cells #[.int .i64 (q : Int), .int .i64 og, .bool ob] 34)).alloc (.cells #[.int .i64 7, .int .i64 15, .int .i64 0, .int .i64 63, .int .i64 0, .int .i64 99] 75) := ⟨_, rfl⟩
          rw [← hW] at HX HB1 HB2 ⊢
          clear hW d1 d2 d3
          obtain ⟨e1, e2, e3⟩ := HB1.out.facts
          obtain ⟨f1, f2, f3⟩ := HB2.out.facts
          have hmc := HMC.out W HB2.out o1 o2
          rw [Int.toNat_natCast] at hmc
          clear f1
          have o5 : q < 6 := by omega
          have o6 : (q : Int) < 6 := by omega
          have hx := HX.out
          cases ob
          · go_quiet (fail)
            go_wp2
            go_roundg (l.length - (k + 1))
            case measure => have := HG.out; omega
            case rel => exact ⟨k + 1, by go_num, by omega, rfl, bdrewN HX.out _, HST.out HOK.out⟩
          · have h3 : q = 3 := by have := HB.out rfl; dsimp only at this; omega
            subst h3
            go_quiet (fail)
            go_wp2
            go_roundg (l.length - (k + 1))
            case measure => have := HG.out; omega
            case rel => exact ⟨k + 1, by go_num, by omega, rfl, bdrewN HX.out _, HST.out HOK.out⟩
        · have hn := HNO.out hok
          have HN := Lib.hid (show false = z from by rw [HZ.out, decide_eq_false hn])
          have hbad := op_bad hok
          clear HNO HST hok hn HZ HV
          obtain ⟨oc, og, ob⟩ := m
          dsimp only at d1 d2 d3 hbad
          go_upto_region 5 with (fail)
          obtain ⟨W, hW⟩ : ∃ W, W = (wr.alloc (.cells #[.int .i64 oc, .int .i64 og, .bool ob] 34)).alloc (.cells #[.int .i64 7, .int .i64 15, .int .i64 0, .int .i64 63, .int .i64 0, .int .i64 99] 75) := ⟨_, rfl⟩
          rw [← hW] at HX HB1 HB2 ⊢
          clear hW d1 d2 d3
          obtain ⟨e1, e2, e3⟩ := HB1.out.facts
          obtain ⟨f1, f2, f3⟩ := HB2.out.facts
          have hx := HX.out
          rcases hbad with h1 | h1 | ⟨h1, h2, h3⟩
          · go_quiet (fail)
            go_wp2
            go_ret
            exact ⟨ret_bool HN.out, bdrewN hx _⟩
          · have h2 : ¬ oc < 0 := by omega
            go_quiet (fail)
            go_wp2
            go_ret
            exact ⟨ret_bool HN.out, bdrewN hx _⟩
          · obtain ⟨q, rfl⟩ := Int.eq_ofNat_of_zero_le h1
            have o5 : q < 6 := by omega
            have o6 : (q : Int) < 6 := by omega
            rcases h3 with h3 | ⟨h3, h4⟩ | ⟨h3, h4, h5, h6⟩
            · go_quiet (fail)
              go_wp2
              go_ret
              exact ⟨ret_bool HN.out, bdrewN hx _⟩
            · have hmc := HMC.out W HB2.out h1 h2
              dsimp only at hmc
              rw [Int.toNat_natCast] at hmc
              clear f1
              obtain ⟨mo, hmo⟩ : ∃ mo, mo = most (q : Int) := ⟨_, rfl⟩
              rw [← hmo] at h4 hmc
              clear hmo HMC
              go_quiet (fail)
              go_wp2
              go_ret
              exact ⟨ret_bool HN.out, bdrewN hx _⟩
            · have hmc := HMC.out W HB2.out h1 h2
              dsimp only at hmc
              rw [Int.toNat_natCast] at hmc
              clear f1
              obtain ⟨mo, hmo⟩ : ∃ mo, mo = most (q : Int) := ⟨_, rfl⟩
              rw [← hmo] at h4 hmc
              subst h5
              clear hmo HMC
              have h7 : ¬ q = 3 := by omega
              go_quiet (fail)
              go_wp2
              all_goals first
                | (go_ret; exact ⟨ret_bool HN.out, bdrewN hx _⟩)
                | (rename_i hh; exact absurd hh.2 (by simp; omega))
    · obtain rfl : k = l.length := by omega
      have HN := Lib.hid (show true = z from by rw [HZ.out, decide_eq_true (pr_all HV.out)])
      go_wp2
      go_ret
      exact ⟨ret_bool HN.out, hb⟩
end Go.Proofs.YtfadkokdoehjnaaDoor
