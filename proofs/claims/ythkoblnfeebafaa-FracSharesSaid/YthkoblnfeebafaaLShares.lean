/- FracShares walked. No conditions but that the parts are within int. -/
import Derived.Test.YthkoblnfeebafaaMu
import Derived.Test.YthkoblnfeebafaaMs
import Derived.Test.YthkoblnfeebafaaJd
import Derived.Test.YthkoblnfeebafaaFg
namespace Go.Proofs.Ythkoblnfeebafaa
open Go.RowKit

set_option maxRecDepth 100000 in
set_option maxHeartbeats 4000000 in
theorem law_shares (nn : Int) (A : Option Addr) (c : Nat) (v : List Int) (w : World) (hn : IsI nn) (hA : v.length ≤ c ∧ c ≤ 9223372036854775807 ∧ ISl w A v ∧ ∀ x ∈ v, IsI x) :
    Calls Try.prog 19 #[.int .i64 nn, .slice A v.length c] w fun e w' => e = .returned (.bool true) ∧ Below w.heap.size w w' := by
  obtain ⟨hc, hcm, his, hiv⟩ := hA
  have h1 := share_any nn A c v w hn hiv hc hcm his
  have h2 := fun d W (h : ISl W A v) (hd : ShG nn v → Ord nn v d) => rshare_any nn A c v d W hn hiv hc hcm h hd
  by_cases hgo : ShG nn v
  · have g1 : Calls Try.prog 71 #[.int .i64 nn, .slice A v.length c] w fun e w' => ∃ (d : Nat → Int) (b : Nat), e = .returned (.tuple #[.slice (some ⟨b, 0, none⟩) v.length v.length, .int .i64 0]) ∧ Ord nn v d ∧ ISl w' (some ⟨b, 0, none⟩) (shs nn v d) ∧ Below w.heap.size w w' :=
      h1.mono fun e w' ⟨hb, h⟩ => by
        rcases h with ⟨er, _, h⟩ | ⟨_, d, b, h3, h4, h5⟩
        · exact absurd h (fun k => hgo.no k)
        · exact ⟨d, b, h4, h3, h5, hb⟩
    have g2 : ∀ d W, ISl W A v → Ord nn v d → Calls Try.prog 72 #[.int .i64 nn, .slice A v.length c] W fun e w' => ∃ (b : Nat), e = .returned (.tuple #[.slice (some ⟨b, 0, none⟩) v.length v.length, .int .i64 0]) ∧ ISl w' (some ⟨b, 0, none⟩) (shs nn v d) ∧ Below W.heap.size W w' := fun d W hs hd =>
      (h2 d W hs (fun _ => hd)).mono fun e w' ⟨hb, h⟩ => by
        rcases h with ⟨er, _, h⟩ | ⟨_, b, h4, h5⟩
        · exact absurd h (fun k => hgo.no k)
        · exact ⟨b, h4, h5, hb⟩
    have g3 := fun (d : Nat → Int) (b b' : Nat) W (h : ISl W (some ⟨b, 0, none⟩) (shs nn v d)) (h' : ISl W (some ⟨b', 0, none⟩) (shs nn v d)) => (show Calls Try.prog 67 #[.slice (some ⟨b, 0, none⟩) v.length v.length, .slice (some ⟨b', 0, none⟩) v.length v.length] W fun e w' => e = .returned (.bool true) ∧ Below W.heap.size W w' from by
      have h5 := equal_same (some ⟨b, 0, none⟩) (some ⟨b', 0, none⟩) v.length v.length (shs nn v d) W (by rw [shs_len]; omega) h h'
      rwa [shs_len] at h5)
    have H1 := Lib.hid g1
    have H2 := Lib.hid g2
    have H3 := Lib.hid g3
    have HS := Lib.hid his
    clear h1 h2 g1 g2 g3 hn hiv his hgo
    go_enter Try.func19, Try.ntmps19
    go_wp2_with (first
      | (go_at_call 71; refine H1.out.mono ?_; rintro r w1 ⟨d, b, rfl, hd, hi1, hx1⟩; have HD := Lib.hid hd; clear hd)
      | (go_at_call 72; refine (H2.out _ _ (HS.out.ext hx1) HD.out).mono ?_; rintro r w2 ⟨b2, rfl, hi2, hx2⟩; have hi3 := hi1.ext hx2; have B2 := ext_trans hx1 hx2)
      | (go_at_call 67; refine (H3.out _ _ _ _ hi3 hi2).mono ?_; rintro r w3 ⟨rfl, hx3⟩; have B3 := ext_trans B2 hx3)
      | (go_at_call 22; refine (awake_any _).mono ?_; rintro r w4 ⟨rfl, hx4⟩; have B4 := ext_trans B3 hx4))
    go_ret
    exact ⟨rfl, B4⟩
  · have g1 : Calls Try.prog 71 #[.int .i64 nn, .slice A v.length c] w fun e w' => ∃ er : Int, e = .returned (.tuple #[.slice none 0 0, .int .i64 er]) ∧ ShE nn v er ∧ Below w.heap.size w w' :=
      h1.mono fun e w' ⟨hb, h⟩ => by
        rcases h with ⟨er, h3, h⟩ | ⟨h, _⟩
        · exact ⟨er, h3, h, hb⟩
        · exact absurd h hgo
    have g2 : ∀ er, ShE nn v er → ∀ W, ISl W A v → Calls Try.prog 72 #[.int .i64 nn, .slice A v.length c] W fun e w' => e = .returned (.tuple #[.slice none 0 0, .int .i64 er]) ∧ Below W.heap.size W w' := fun er he W hs =>
      (h2 (fun _ => 0) W hs (fun h => absurd h hgo)).mono fun e w' ⟨hb, h⟩ => by
        rcases h with ⟨er2, h3, h⟩ | ⟨h, _⟩
        · rw [he.same h]; exact ⟨h3, hb⟩
        · exact absurd h hgo
    have h4 : ∀ A B c c' W, Calls Try.prog 67 #[.slice A 0 c, .slice B 0 c'] W fun e w' => e = .returned (.bool true) ∧ Below W.heap.size W w' := fun A B c c' W => equal_same A B c c' [] W (by simp) (.inl rfl) (.inl rfl)
    have H1 := Lib.hid g1
    have H2 := Lib.hid g2
    have H3 := Lib.hid h4
    have HS := Lib.hid his
    clear h1 h2 g1 g2 h4 hn hiv his hgo
    go_enter Try.func19, Try.ntmps19
    go_wp2_with (first
      | (go_at_call 71; refine H1.out.mono ?_; rintro r w1 ⟨er, rfl, hd, hx1⟩; have HD := Lib.hid hd; clear hd)
      | (go_at_call 72; refine (H2.out _ HD.out _ (HS.out.ext hx1)).mono ?_; rintro r w2 ⟨rfl, hx2⟩; have B2 := ext_trans hx1 hx2)
      | (go_at_call 67; refine (H3.out _ _ _ _ _).mono ?_; rintro r w3 ⟨rfl, hx3⟩; have B3 := ext_trans B2 hx3)
      | (go_at_call 22; refine (awake_any _).mono ?_; rintro r w4 ⟨rfl, hx4⟩; have B4 := ext_trans B3 hx4))
    go_ret
    exact ⟨rfl, B4⟩
end Go.Proofs.Ythkoblnfeebafaa
