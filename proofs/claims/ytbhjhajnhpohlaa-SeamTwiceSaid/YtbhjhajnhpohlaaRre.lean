/- Round walked, the reference's: the other cases, and all together. Conditions: the slice reads as a list of seams. -/
import Derived.Test.YtbhjhajnhpohlaaRrd
namespace Go.Proofs.Ytbhjhajnhpohlaa
open Go.RowKit

set_option maxRecDepth 100000 in
set_option maxHeartbeats 4000000 in
theorem rRound_none (n f : Nat) (A : Option Addr) (cap : Nat) (l : List Sm) (w : World) (hok : GOk n l) (hf : f < n) (hbad : ¬ Conn l f) (hc : l.length ≤ cap) (hcm : cap ≤ 9223372036854775807) (h : SSl w A l) :
    Calls Try.prog 33 #[.agg #[.int .i64 (n : Int), .slice A l.length cap], .int .i64 (f : Int)] w fun e w' => e = .returned (.tuple #[.int .i64 0, .int .i64 7]) ∧ Below w.heap.size w w' := by
  have hv := fun W (h : SSl W A l) => rvalid_any n A cap l W hc hcm h
  rw [vldG_yes hok] at hv
  have HV := Lib.hid hv
  have HSH := Lib.hid (fun W (h : SSl W A l) => ways_any n A cap l W hok hc hcm h)
  have hn16 : n ≤ 16 := by have := hok.2.1; omega
  have H := Lib.hid h
  have HOK := Lib.hid hok
  have HBAD := Lib.hid hbad
  have HB0 := Lib.hid (Bk.new 24 w #[.int .i64 (n : Int), .slice A l.length cap])
  have HE0 := Lib.hid (ext_alloc w (.cells #[.int .i64 (n : Int), .slice A l.length cap] 24))
  have l64 := hok.2.2.1
  have hfn : (f : Int) < (n : Int) := by omega
  have hfn2 : ¬ (n : Int) ≤ (f : Int) := by omega
  clear h hok hbad hv
  go_enter Try.func33, Try.ntmps33
  go_wp2_with (first
    | (go_at_call 22; refine (HV.out _ (H.out.ext HE0.out)).mono ?_; rintro e w1 ⟨rfl, hx1⟩; have B1 := ext_trans HE0.out hx1; have G1 := HB0.out.ext hx1; obtain ⟨f1, f2, f3⟩ := G1.facts)
    | (go_at_call 57; refine (HSH.out _ (H.out.ext B1)).mono ?_; rintro e w2 ⟨rfl, B, hs2⟩; have B2 := Lib.hid (bext B1 hs2.1 B1.size); have G2 := Lib.hid (G1.ext hs2.1); clear f1 f2 f3; obtain ⟨f1, f2, f3⟩ := G2.out.facts; have HWY := Lib.hid hs2; clear hs2 B1 G1 hx1))
  obtain ⟨gw, hgw⟩ : ∃ gw, gw = w1.heap.size + 1 := ⟨_, rfl⟩
  have HGW := Lib.hid hgw
  rw [← hgw]
  clear hgw
  go_loopg [32] l.length (fun g i wr => ∃ k : Nat, i = .int .i64 k ∧ k ≤ l.length ∧ g = l.length - k ∧ Below w2.heap.size w2 wr ∧ ∀ q (hq : q < l.length), q < k → cls allK l l.length l[q].a.toNat = cls allK l l.length f)
  case atStart => exact ⟨0, rfl, by omega, by omega, Below.refl _ _, fun q _ hq => by omega⟩
  case round =>
    obtain ⟨k, rfl, hk, hg, hb, hpr⟩ := hrel
    have HPR := Lib.hid hpr
    have HG := Lib.hid hg
    have HBB := Lib.hid hb
    clear hg hpr
    by_cases hlt : k < l.length
    · rcases H.out.ext (bext B2.out hb B2.out.size) with hf' | ⟨b, off, rfl, hblt, hcl⟩
      · rw [hf'] at hlt; simp at hlt
      · obtain ⟨c1, c2, c3, c4⟩ := hcl k hlt
        have hso := HOK.out.2.2.2 _ (List.getElem_mem hlt)
        by_cases hal : cls allK l l.length l[k].a.toNat = cls allK l l.length f
        · obtain ⟨s, hs⟩ : ∃ s, s = l[k] := ⟨_, rfl⟩
          have HPN := Lib.hid (show ∀ q (hq : q < l.length), q < k + 1 → cls allK l l.length l[q].a.toNat = cls allK l l.length f from fun q hq hqk => by
              by_cases e : q = k
              · subst e; exact hal
              · exact HPR.out q hq (by omega))
          rw [← hs] at c1 c2 c3 c4 hso hal
          obtain ⟨a, b', m, t⟩ := s
          dsimp only at c1 c2 c3 c4 hal
          obtain ⟨o1, o2, o3, o4, -, -, -, -⟩ := hso
          dsimp only at o1 o2 o3 o4
          obtain ⟨ja, rfl⟩ := Int.eq_ofNat_of_zero_le o1
          rw [Int.toNat_natCast] at hal
          have hja : ja < n := by omega
          have hfar := cls_far HOK.out.2.2.2 hn16 hf hja hal.symm
          have hwy := HWY.out.ext hb
          have q0 := hwy.out (i := f) hf hf
          rw [← HGW.out] at q0
          have q1 := (hwy.2.2.2.1 f hf).2.cell (i := ja) hja
          have q2 := (hwy.2.2.2.1 f hf).2.lt
          have q3 : gw < wr.heap.size := by rw [HGW.out]; exact hwy.2.2.1.lt
          have hlo : 0 ≤ (tbl n l).L f ja := ((tbl_snd HOK.out.2.2.2).rng f ja).1
          obtain ⟨x, hx⟩ : ∃ x, x = (tbl n l).L f ja := ⟨_, rfl⟩
          rw [← hx] at q1 hfar hlo
          have hfar2 : ¬ 1099511627776 ≤ x := by unfold far at hfar; omega
          clear hs hcl hal hx hwy hfar
          go_wp2
          go_quiet (fail)
          rename_i nq
          go_wp2
          go_roundg (l.length - (k + 1))
          case measure => have := HG.out; omega
          case rel => exact ⟨k + 1, by go_num, by omega, rfl, bext (hb.alloc hb.size _) (ext_drewN _ nq) (by have := hb.size; simp; omega), HPN.out⟩
        · obtain ⟨s, hs⟩ : ∃ s, s = l[k] := ⟨_, rfl⟩
          rw [← hs] at c1 c2 c3 c4 hso hal
          obtain ⟨a, b', m, t⟩ := s
          dsimp only at c1 c2 c3 c4 hal
          obtain ⟨o1, o2, o3, o4, -, -, -, -⟩ := hso
          dsimp only at o1 o2 o3 o4
          obtain ⟨ja, rfl⟩ := Int.eq_ofNat_of_zero_le o1
          rw [Int.toNat_natCast] at hal
          have hja : ja < n := by omega
          have hfar : ¬ (tbl n l).L f ja < far := fun e => hal (far_cls HOK.out.2.2.2 e).symm
          have hrg := (tbl_snd HOK.out.2.2.2).rng f ja
          have hwy := HWY.out.ext hb
          have q0 := hwy.out (i := f) hf hf
          rw [← HGW.out] at q0
          have q1 := (hwy.2.2.2.1 f hf).2.cell (i := ja) hja
          have q2 := (hwy.2.2.2.1 f hf).2.lt
          have q3 : gw < wr.heap.size := by rw [HGW.out]; exact hwy.2.2.1.lt
          obtain ⟨x, hx⟩ : ∃ x, x = (tbl n l).L f ja := ⟨_, rfl⟩
          rw [← hx] at q1 hfar hrg
          have hfar2 : 1099511627776 ≤ x := by unfold far at hfar; omega
          clear hs hcl hal hx hwy hfar hrg
          go_wp2
          go_quiet (fail)
          rename_i nq
          go_wp2
          go_ret2
          exact ⟨rfl, bext B2.out (bext (hb.alloc hb.size _) (ext_drewN _ nq) (by have := hb.size; simp; omega)) B2.out.size⟩
    · obtain rfl : k = l.length := by omega
      exact absurd (fun s hs => by
        obtain ⟨q, hq, rfl⟩ := List.getElem_of_mem hs
        exact HPR.out q hq hq) HBAD.out
set_option maxRecDepth 100000 in
set_option maxHeartbeats 4000000 in
theorem rRound_any (N f : Int) (A : Option Addr) (cap : Nat) (l : List Sm) (w : World) (hc : l.length ≤ cap) (hcm : cap ≤ 9223372036854775807) (h : SSl w A l) :
    Calls Try.prog 33 #[.agg #[.int .i64 N, .slice A l.length cap], .int .i64 f] w (RetRd w N f l) := by
  by_cases hok : ROk N f l
  · obtain ⟨hg, hf0, hfN⟩ := hok
    obtain ⟨n, hn⟩ := Int.eq_ofNat_of_zero_le (show 0 ≤ N by have := hg.1; omega)
    subst hn
    obtain ⟨j, rfl⟩ := Int.eq_ofNat_of_zero_le hf0
    by_cases hcn : Conn l j
    · exact (rRound_yes n j A cap l w hg (by omega) hcn hc hcm h).mono fun e w' ⟨he, hb⟩ => ⟨hb, .inr (.inr ⟨⟨hg, hf0, hfN⟩, hcn, he⟩)⟩
    · exact (rRound_none n j A cap l w hg (by omega) hcn hc hcm h).mono fun e w' ⟨he, hb⟩ => ⟨hb, .inr (.inl ⟨⟨hg, hf0, hfN⟩, hcn, he⟩)⟩
  · have HV := Lib.hid (fun W (h : SSl W A l) => rvalid_any N A cap l W hc hcm h)
    have H := Lib.hid h
    have HB0 := Lib.hid (Bk.new 24 w #[.int .i64 N, .slice A l.length cap])
    have HE0 := Lib.hid (ext_alloc w (.cells #[.int .i64 N, .slice A l.length cap] 24))
    have HOK := Lib.hid hok
    clear h
    by_cases hg : GOk N l
    · rw [vldG_yes hg] at HV
      have hcs : f < 0 ∨ N ≤ f := by
        have : ¬ (0 ≤ f ∧ f < N) := fun e => hok ⟨hg, e⟩
        omega
      clear hok hg
      go_enter Try.func33, Try.ntmps33
      go_wp2_with (go_at_call 22; refine (HV.out _ (H.out.ext HE0.out)).mono ?_; rintro e w1 ⟨rfl, hx1⟩; have B1 := ext_trans HE0.out hx1; obtain ⟨f1, f2, f3⟩ := (HB0.out.ext hx1).facts)
      all_goals
        first
          | (exfalso; omega)
          | (go_ret2; exact ⟨B1, .inl ⟨HOK.out, rfl⟩⟩)
    · rw [vldG_no hg] at HV
      clear hok hg
      go_enter Try.func33, Try.ntmps33
      go_wp2_with (go_at_call 22; refine (HV.out _ (H.out.ext HE0.out)).mono ?_; rintro e w1 ⟨rfl, hx1⟩; have B1 := ext_trans HE0.out hx1; obtain ⟨f1, f2, f3⟩ := (HB0.out.ext hx1).facts)
      go_ret2
      exact ⟨B1, .inl ⟨HOK.out, rfl⟩⟩
end Go.Proofs.Ytbhjhajnhpohlaa
