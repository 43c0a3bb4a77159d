/- round walked where some seam is in another class than the first joint. Conditions: a valid graph. -/
import Derived.Test.YtbhjhajnhpohlaaRoP
namespace Go.Proofs.Ytbhjhajnhpohlaa
open Go.RowKit

set_option maxRecDepth 100000 in
set_option maxHeartbeats 4000000 in
theorem round_none (n f : Nat) (A : Option Addr) (cap : Nat) (l : List Sm) (w : World) (hok : GOk n l) (hf : f < n) (hbad : ¬ Conn l f) (hc : l.length ≤ cap) (hcm : cap ≤ 9223372036854775807) (h : SSl w A l) :
    Calls Try.prog 77 #[.agg #[.int .i64 (n : Int), .slice A l.length cap], .int .i64 (f : Int)] w fun e w' => e = .returned (.tuple #[.slice none 0 0, .int .i64 7]) ∧ Below w.heap.size w w' := by
  have H := Lib.hid h
  have HOK := Lib.hid hok
  have HBAD := Lib.hid hbad
  have HCL := Lib.hid (fun W (h : SSl W A l) => classes_any n A cap l _ _ allK W hok hc hcm h (chk_round W l))
  have HB0 := Lib.hid (Bk.new 30 w #[.int .i64 (n : Int), .slice A l.length cap])
  have HE0 := Lib.hid (ext_alloc w (.cells #[.int .i64 (n : Int), .slice A l.length cap] 30))
  have l64 := hok.2.2.1
  have n2 : n ≤ 16 := by have := hok.2.1; omega
  clear h hok hbad
  go_enter Try.func77, Try.ntmps77
  go_wp2_with (go_at_call 74; refine (HCL.out _ (H.out.ext HE0.out)).mono ?_; rintro e w1 ⟨bc, rfl, hoc, hbc, hx1⟩; have S1 : RdS w n A l.length cap n bc (cls allK l l.length) (.slice none 0 0) [] w1 := ⟨ext_trans HE0.out hx1, HB0.out.ext hx1, by simpa using hbc, hoc, own_nil _ _ _ _⟩; have HS0 := Lib.hid S1; obtain ⟨f1, f2, f3⟩ := S1.2.1.facts; clear S1 hoc hbc hx1)
  go_loopg [22, 7] l.length (fun g i v wr => ∃ k : Nat, i = .int .i64 k ∧ k ≤ l.length ∧ g = l.length - k ∧ RdS w n A l.length cap n bc (cls allK l l.length) v (lnsN l k) wr ∧ ∀ q (hq : q < l.length), q < k → cls allK l l.length l[q].a.toNat = cls allK l l.length f)
  case atStart => exact ⟨0, rfl, by omega, by omega, HS0.out, fun q _ hq => by omega⟩
  case round =>
    obtain ⟨k, rfl, hk, hg, hs, hpr⟩ := hrel
    have HPR := Lib.hid hpr
    have HG := Lib.hid hg
    have HS := Lib.hid hs
    obtain ⟨f1, f2, f3⟩ := hs.2.1.facts
    have hb := hs.1
    clear hg hs HS0 hpr
    by_cases hlt : k < l.length
    · have hf' := H.out.ext hb
      rcases hf' with hf' | ⟨b, off, rfl, hblt, hcl⟩
      · rw [hf'] at hlt; simp at hlt
      · obtain ⟨c1, c2, c3, c4⟩ := hcl k hlt
        have hmem := List.getElem_mem hlt
        have hso := HOK.out.2.2.2 _ hmem
        by_cases hal : cls allK l l.length l[k].a.toNat = cls allK l l.length f
        · obtain ⟨s, hs⟩ : ∃ s, s = l[k] := ⟨_, rfl⟩
          have hln := lnsN_succ hlt hs
          have HPN := Lib.hid (show ∀ q (hq : q < l.length), q < k + 1 → cls allK l l.length l[q].a.toNat = cls allK l l.length f from fun q hq hqk => by
              by_cases e : q = k
              · subst e; exact hal
              · exact HPR.out q hq (by omega))
          rw [← hs] at c1 c2 c3 c4 hso hal
          obtain ⟨a, b', m, t⟩ := s
          dsimp only at c1 c2 c3 c4 hal hln
          obtain ⟨o1, o2, o3, o4, -, -, -, -⟩ := hso
          dsimp only at o1 o2 o3 o4
          obtain ⟨ja, rfl⟩ := Int.eq_ofNat_of_zero_le o1
          rw [Int.toNat_natCast] at hal
          have HLN := Lib.hid hln
          have q1 := HS.out.2.2.2.1.cell (i := ja) (by omega)
          have q2 := HS.out.2.2.2.1.cell (i := f) hf
          rw [hal] at q1
          have q3 := HS.out.2.2.2.1.lt
          have HS2 := Lib.hid (HS.out.ext (ext_alloc wr (.cells #[.int .i64 (ja : Int), .int .i64 b', .int .i64 m, .int .i64 t] 106)))
          have hlen := lnsN_len l k
          clear hs hcl hmem hal hln
          generalize cls allK l l.length f = x at *
          have hxx : (x != x) = false := by simp
          go_wp2
          go_quiet (fail)
          rename_i nq
          have HS3 := Lib.hid (HS2.out.ext (ext_drewN _ nq))
          obtain ⟨e1, e2, e3⟩ := ((Bk.new 106 wr #[.int .i64 (ja : Int), .int .i64 b', .int .i64 m, .int .i64 t]).ext (ext_drewN _ nq)).facts
          go_wp2_with (at_builtin; refine wpList_pushL _ rfl _ _ rfl (w.heap.size + 1) HS3.out.2.2.2.2 (by rfl) (by rfl) (by simp) ?hn5 ?hb5 ?_; (case hn5 => omega); (case hb5 => have := HS3.out.2.1.lt; omega); intro v5 w5 hv5 hb5 hk5; have S5 := HS3.out.push hv5 hb5 hk5; obtain ⟨A5, c5, rfl, -, -, -⟩ := hv5.lsl)
          go_roundg (l.length - (k + 1))
          case measure => have := HG.out; omega
          case rel => exact ⟨k + 1, by go_num, by omega, rfl, (by rw [HLN.out]; have h := S5; simp only [List.length_append, List.length_cons, List.length_nil, Nat.zero_add] at h; exact h), HPN.out⟩
        · obtain ⟨s, hs⟩ : ∃ s, s = l[k] := ⟨_, rfl⟩
          rw [← hs] at c1 c2 c3 c4 hso hal
          obtain ⟨a, b', m, t⟩ := s
          dsimp only at c1 c2 c3 c4 hal
          obtain ⟨o1, o2, o3, o4, -, -, -, -⟩ := hso
          dsimp only at o1 o2 o3 o4
          obtain ⟨ja, rfl⟩ := Int.eq_ofNat_of_zero_le o1
          rw [Int.toNat_natCast] at hal
          have q1 := HS.out.2.2.2.1.cell (i := ja) (by omega)
          have q2 := HS.out.2.2.2.1.cell (i := f) hf
          have q3 := HS.out.2.2.2.1.lt
          have HS2 := Lib.hid (HS.out.ext (ext_alloc wr (.cells #[.int .i64 (ja : Int), .int .i64 b', .int .i64 m, .int .i64 t] 106)))
          have hlen := lnsN_len l k
          clear hs hcl hmem
          generalize cls allK l l.length f = x at *
          generalize cls allK l l.length ja = y at *
          have hxx : (y != x) = true := by rw [bne_iff_ne]; exact hal
          clear hal
          go_wp2
          go_quiet (fail)
          rename_i nq
          have HS3 := Lib.hid (HS2.out.ext (ext_drewN _ nq))
          go_wp2
          go_ret2
          exact ⟨rfl, HS3.out.1⟩
    · obtain rfl : k = l.length := by omega
      exact absurd (fun s hs => by
        obtain ⟨q, hq, rfl⟩ := List.getElem_of_mem hs
        exact HPR.out q hq hq) HBAD.out
end Go.Proofs.Ytbhjhajnhpohlaa
