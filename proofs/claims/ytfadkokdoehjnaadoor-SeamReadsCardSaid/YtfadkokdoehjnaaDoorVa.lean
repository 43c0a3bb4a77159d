/- Valid walked, the program's and the reference's. Conditions: the slice reads as a list of seams. -/
import Derived.Test.YtfadkokdoehjnaaDoorWd
namespace Go.Proofs.YtfadkokdoehjnaaDoor
open Go.RowKit

set_option maxRecDepth 100000 in
set_option maxHeartbeats 4000000 in
theorem valid_any (N : Int) (A : Option Addr) (cap : Nat) (l : List Sm) (w : World) (_hc : l.length ≤ cap) (_hcm : cap ≤ 9223372036854775807) (h : SSl w A l) :
    Calls Tryd.prog 37 #[.agg #[.int .i64 N, .slice A l.length cap]] w fun e w' => e = .returned (.bool (vldG N l)) ∧ Below w.heap.size w w' := by
  have H := Lib.hid h
  have HB0 := Lib.hid (Bk.new 46 w #[.int .i64 N, .slice A l.length cap])
  clear h
  by_cases hN : 1 ≤ N ∧ N ≤ 16 ∧ l.length ≤ 64
  · obtain ⟨n1, n2, n3⟩ := hN
    go_enter Tryd.func37, Tryd.ntmps37
    go_wp2
    go_loopg [22] l.length (fun g i wr => ∃ k : Nat, i = .int .i64 k ∧ k ≤ l.length ∧ g = l.length - k ∧ (∀ j (hj : j < l.length), j < k → SmOk N l[j]) ∧ Below w.heap.size w wr ∧ Bk 46 wr w.heap.size #[.int .i64 N, .slice A l.length cap])
    case atStart => exact ⟨0, rfl, by omega, by omega, fun j hj h => absurd h (by omega), ext_alloc _ _, HB0.out⟩
    case round =>
      obtain ⟨k, rfl, hk, hg, hall, hb, hbk⟩ := hrel
      have HG := Lib.hid hg
      have HALL := Lib.hid hall
      have HBK := Lib.hid hbk
      obtain ⟨f1, f2, f3⟩ := hbk.facts
      clear hg hall
      by_cases hlt : k < l.length
      · have hf := H.out.ext hb
        rcases hf with hf | ⟨b, off, rfl, hblt, hcl⟩
        · rw [hf] at hlt; simp at hlt
        · obtain ⟨c1, c2, c3, c4⟩ := hcl k hlt
          have HOK := Lib.hid (show ∀ s, s = l[k] → SmOk N s → ∀ j (hj : j < l.length), j < k + 1 → SmOk N l[j] from fun s hs ho j hj hjk => by
            by_cases hjk2 : j = k
            · subst hjk2; rw [← hs]; exact ho
            · exact HALL.out j hj (by omega))
          have HNO := Lib.hid (show ∀ s, s = l[k] → ¬ SmOk N s → vldG N l = false from fun s hs ho => vldG_no (fun h => ho (by rw [hs]; exact h.2.2.2 _ (List.getElem_mem hlt))))
          obtain ⟨s, hs⟩ : ∃ s, s = l[k] := ⟨_, rfl⟩
          rw [← hs] at c1 c2 c3 c4
          have HS := Lib.hid hs
          obtain ⟨a, b', n, t⟩ := s
          clear hs hcl hbk
          dsimp only at c1 c2 c3 c4
          have HB2 := Lib.hid (hb.alloc hb.size (.cells #[.int .i64 a, .int .i64 b', .int .i64 n, .int .i64 t] 43))
          have HBK2 := Lib.hid (HBK.out.alloc (.cells #[.int .i64 a, .int .i64 b', .int .i64 n, .int .i64 t] 43))
          go_upto_region 6 with (fail)
          go_cut [61] (fun z wx => z = .bool (!decide (SmOk N ⟨a, b', n, t⟩)) ∧ Below w.heap.size w wx ∧ Bk 46 wx w.heap.size #[.int .i64 N, .slice (some ⟨b, off, none⟩) l.length cap])
          case first =>
            have HD := Lib.hid (show ∀ x, (SmOk N ⟨a, b', n, t⟩ ↔ x = true) → decide (SmOk N ⟨a, b', n, t⟩) = x from fun x hx => by cases x <;> simp [hx])
            clear HALL HNO HOK HS
            go_wp2
            all_goals go_meet
            all_goals
              first
                | exact ⟨by rw [HD.out false ⟨fun h => (by unfold SmOk at h; dsimp only at h; omega), fun h => (by cases h)⟩]; rfl, HB2.out, HBK2.out⟩
                | (refine ⟨?_, HB2.out, HBK2.out⟩
                   congr 1
                   rw [Bool.eq_iff_iff]
                   simp only [Bool.or_eq_true, decide_eq_true_eq, Bool.not_eq_true', decide_eq_false_iff_not]
                   unfold SmOk
                   dsimp only
                   omega)
          case rest =>
            obtain ⟨rfl, hb3, hbk3⟩ := hcut
            by_cases hok : SmOk N ⟨a, b', n, t⟩
            · have hd : decide (SmOk N ⟨a, b', n, t⟩) = true := decide_eq_true hok
              have HN := Lib.hid (HOK.out _ HS.out hok)
              rw [hd]
              clear hok
              go_wp2
              go_roundg (l.length - (k + 1))
              case measure => have := HG.out; omega
              case rel => exact ⟨k + 1, by go_num, by omega, rfl, HN.out, hb3, hbk3⟩
            · have hd : decide (SmOk N ⟨a, b', n, t⟩) = false := decide_eq_false hok
              have HN := Lib.hid (HNO.out _ HS.out hok)
              rw [hd]
              clear hok
              go_wp2
              go_ret
              exact ⟨ret_bool HN.out.symm, hb3⟩
      · have HN := Lib.hid (show vldG N l = true from vldG_yes ⟨n1, n2, n3, fun s hs => by
          obtain ⟨j, hj, rfl⟩ := List.getElem_of_mem hs
          exact HALL.out j hj (by omega)⟩)
        go_wp2
        go_ret
        exact ⟨ret_bool HN.out.symm, hb⟩
  · have HN := Lib.hid (show vldG N l = false from vldG_no (fun h => hN ⟨h.1, h.2.1, h.2.2.1⟩))
    have HD := Lib.hid hN
    clear hN
    go_enter Tryd.func37, Tryd.ntmps37
    go_wp2
    all_goals
      first
        | (go_ret; exact ⟨ret_bool HN.out.symm, ext_alloc _ _⟩)
        | exact absurd (by omega) HD.out

end Go.Proofs.YtfadkokdoehjnaaDoor
