/- SkinLeast walked. Conditions: the arguments read as lists. -/
import Derived.Test.YtmgofdgbenfjmaaDoorSf1
import Derived.Test.YtmgofdgbenfjmaaDoorBl1
import Derived.Test.YtmgofdgbenfjmaaDoorGok
import Derived.Test.YtmgofdgbenfjmaaDoorAw1
namespace Go.Proofs.YtmgofdgbenfjmaaDoor
open Go.RowKit

def dL (l : List ByteArray) (g : Int) (i : Nat) : Bool := us l g (i % wid l : Nat) (i / wid l : Nat)
def bL (l : List ByteArray) (g : Int) (k : Nat) : List Value := (List.range k).map fun i => Value.bool (dL l g i)
theorem uD_dL {l : List ByteArray} {g : Int} (hok : SkOk l) (hg : 1 ≤ g) : uD (dL l g) (wid l) l.length = us l g := by
  funext x y
  have hw : 0 < wid l := hok.2.2.1
  by_cases hin : 0 ≤ x ∧ x < wid l ∧ 0 ≤ y ∧ y < l.length
  · obtain ⟨i, rfl⟩ : ∃ i : Nat, x = i := ⟨x.toNat, by omega⟩
    obtain ⟨j, rfl⟩ : ∃ j : Nat, y = j := ⟨y.toNat, by omega⟩
    obtain ⟨p, q⟩ := pos_div hw (show i < wid l by omega) (y := j)
    rw [uD_nat _ _ (by omega) (by omega), dL, p, q]
  · have h1 : us l g x y = false := by
      rw [Bool.eq_false_iff]
      exact fun h => hin (us_in hok hg h)
    rw [h1, uD, decide_eq_false hin]; rfl
/-- what the search says of Fewest's number -/
theorem tr_least {l : List ByteArray} {g : Int} (hok : SkOk l) (hg : 1 ≤ g) (n : Nat) : trP (wid l) (wid l * l.length) n (dL l g) = decide ((splB (us l g) (wid l) l.length 3000).length ≤ n) := by
  obtain ⟨h1, h2, _⟩ := split_least (u := us l g) (w := wid l) (h := l.length) (n := 3000) (fun x y k => us_in hok hg k) hok.2.2.2.1 hok.2.1 (by decide)
  rw [Bool.eq_iff_iff, tr_iff (show 0 < wid l from hok.2.2.1), uD_dL hok hg, decide_eq_true_iff]
  constructor
  · rintro ⟨l', k1, k2⟩
    exact Nat.le_trans (h2 l' k1) k2
  · intro h
    exact ⟨_, h1, h⟩
theorem own_bo {base n : Nat} {d : Nat → Bool} {v : Value} {w : World} (h1 : 1 ≤ n) (hv : w.ownsRow base 4 1 v n ((List.range n).map fun i => Value.bool (d i))) : ∃ g c, v = .slice (some ⟨g, 0, none⟩) n c ∧ Bo g n d w := by
  obtain ⟨A, c, hv2, k1, k2, k3⟩ := own_cells hv
  obtain ⟨q1, q2⟩ := hv
  rcases k3 with k3 | ⟨g, rfl, hb, hg, hcl⟩
  · omega
  rcases q2 with ⟨rfl, _⟩ | ⟨g2, c2, cur, rfl, hg2, hh, hr⟩
  · cases hv2
  injection hv2 with e1 e2 e3
  injection e1 with e1
  injection e1 with e1
  subst e1
  subst e3
  refine ⟨g2, c2, rfl, 4, cur, hh, fun j hj => ?_⟩
  rw [← Bk.cell (show Bk 4 _ g2 cur from hh) j]
  exact hcl j _ (by rw [List.getElem?_map, List.getElem?_range hj]; rfl)
theorem bL_succ (l : List ByteArray) (g : Int) {x y : Nat} (hx : x < wid l) : bL l g (wid l * y + x + 1) = bL l g (wid l * y + x) ++ [.bool (us l g x y)] := by
  unfold bL
  rw [List.range_succ, List.map_append, List.map_cons, List.map_nil]
  obtain ⟨p, q⟩ := pos_div (show 0 < wid l by omega) hx (y := y)
  rw [Nat.mul_comm y] at p q
  unfold dL
  rw [p, q]
set_option maxRecDepth 100000 in
set_option maxHeartbeats 4000000 in
theorem law_least (A : Option Addr) (cap : Nat) (l : List ByteArray) (g : Int) (w : World) (hc : l.length ≤ cap) (hcm : cap ≤ 9223372036854775807) (h : TSl w A l) (hz : TSz l) :
    Calls Tryd.prog 9 #[.slice A l.length cap, .int .i64 g] w fun e w' => e = .returned (.bool true) ∧ Below w.heap.size w w' := by
  have HF := Lib.hid (sfewest_any A cap l g w hc hcm h hz)
  have HGD := Lib.hid (fun W (hW : Below w.heap.size w W) => good_any A cap l g W hc hcm (h.ext hW) hz)
  by_cases hps : PsOk l g
  · have hok := hps.1
    have HOK := Lib.hid hps
    have HF := Lib.hid (HF.out.mono (R' := fun e w' => Below w.heap.size w w' ∧ e = .returned (.tuple #[.int .i64 (splB (us l g) (wid l) l.length 3000).length, .int .i64 0])) (fun e w' hr => ⟨hr.1, hr.2.elim (fun h => absurd hps h.1) (fun h => h.2)⟩))
    rw [decide_eq_true hps] at HGD
    have HTR := Lib.hid (tr_least hok hps.2.1)
    obtain ⟨r0, hr0⟩ : ∃ r0, r0 = l[0]'(by have := hok.1; omega) := ⟨_, rfl⟩
    have hwd : r0.size = wid l := by rw [hr0]; exact (hok.row (by have := hok.1; omega)).1
    have hl1 := hok.1
    have hl48 := hok.2.1
    have hw1 := hok.2.2.1
    have hw48 := hok.2.2.2.1
    have hl0 : (0 : Int) < (l.length : Int) := by omega
    obtain ⟨n, hn⟩ : ∃ n, n = (splB (us l g) (wid l) l.length 3000).length := ⟨_, rfl⟩
    rw [← hn] at HF HTR
    have HNB := Lib.hid (show n ≤ wid l * l.length from by rw [hn]; unfold splB; exact spK_len _ _ _ _ _)
    obtain ⟨N, hN⟩ : ∃ N, N = l.length * wid l := ⟨_, rfl⟩
    have hNi : (l.length : Int) * (r0.size : Int) = (N : Int) := by rw [hN, hwd]; push_cast; rfl
    have hNb : N ≤ 2304 := by rw [hN]; exact Nat.mul_le_mul hl48 hw48
    have HN := Lib.hid hN
    have HWD := Lib.hid hwd
    have HT := Lib.hid h
    rcases h with h0 | ⟨b, off, rfl, hlt, hcl⟩
    · rw [h0] at hl1; simp at hl1
    have HC0 := Lib.hid (show ∀ W, Below w.heap.size w W → b < W.heap.size ∧ W.cell? ⟨b, off, none⟩ = some (.string r0) from fun W hW => ⟨Nat.lt_of_lt_of_le hlt hW.size, (hW.cell (p := ⟨b, off, none⟩) hlt).trans (by have := hcl 0 hl1; rw [hr0]; exact this)⟩)
    clear hr0 hwd hn hN hz hcl hlt hok hps
    go_enter Tryd.func9, Tryd.ntmps9
    by_cases h16 : N ≤ 16
    · have h16i : ¬ (16 : Int) < (N : Int) := by omega
      go_upto_region 4 with (first
        | (go_at_call 30; refine (HF.out).mono ?_; rintro e w1 ⟨hx1, rfl⟩)
        | (go_at_call 21; refine (HGD.out _ hx1).mono ?_; rintro e w2 ⟨rfl, hx2⟩; have hx1 := ext_trans hx1 hx2; obtain ⟨t1, t2⟩ := HC0.out _ hx1))
      have HX := Lib.hid hx1
      clear hx1 hx2 t1 t2 HF HGD
      go_wp2_with (fail)
      go_loopg [41, 7] l.length (fun gg z v wr => ∃ y : Nat, z = .int .i64 y ∧ y ≤ l.length ∧ gg = l.length - y ∧ wr.ownsRow w.heap.size 4 1 v (wid l * y) (bL l g (wid l * y)) ∧ Below w.heap.size w wr)
      case atStart => exact ⟨0, rfl, by omega, by omega, by rw [Nat.mul_zero]; exact own_nil _ _ _ _, HX.out⟩
      case round =>
        obtain ⟨y, rfl, hy, hgg, hv, hbx⟩ := hrel
        have HG := Lib.hid hgg
        have HV := Lib.hid hv
        have HX1 := Lib.hid hbx
        obtain ⟨t1, t2⟩ := HC0.out _ hbx
        clear hgg hv hbx HX
        by_cases hyl : y < l.length
        · have hyi : (y : Int) < (l.length : Int) := by omega
          go_wp2_with (fail)
          clear t1 t2
          go_loopg [48, 7] (wid l) (fun gg z v wr => ∃ x : Nat, z = .int .i64 x ∧ x ≤ wid l ∧ gg = wid l - x ∧ wr.ownsRow w.heap.size 4 1 v (wid l * y + x) (bL l g (wid l * y + x)) ∧ Below w.heap.size w wr)
          case atStart => exact ⟨0, rfl, by omega, by omega, HV.out, HX1.out⟩
          case round =>
            obtain ⟨x, rfl, hx, hgg, hv, hbx⟩ := hrel
            have HG2 := Lib.hid hgg
            have HV2 := Lib.hid hv
            have HX2 := Lib.hid hbx
            obtain ⟨A7, c7, rfl, k1, k2, _⟩ := own_cells hv
            unfold maxLen at k2
            clear hgg hv hbx HV HX1
            by_cases hxl : x < wid l
            · have hxi : (x : Int) < (r0.size : Int) := by rw [HWD.out]; omega
              have hkk : wid l * y + x ≤ 2400 := by
                have : wid l * y ≤ 48 * 47 := Nat.mul_le_mul hw48 (by omega)
                omega
              have HGR := Lib.hid (rgrade_any (some ⟨b, off, none⟩) cap l (x : Int) (y : Int) wr HOK.out.1 (HT.out.ext HX2.out))
              obtain ⟨gv, hgv⟩ : ∃ gv, gv = gr l (x : Int) (y : Int) := ⟨_, rfl⟩
              rw [← hgv] at HGR
              have HUS := Lib.hid (show us l g (x : Int) (y : Int) = decide (g ≤ gv) from by unfold us; rw [← hgv])
              clear hgv
              have HE := Lib.hid (show bL l g (wid l * y + x + 1) = bL l g (wid l * y + x) ++ [.bool (decide (g ≤ gv))] from by rw [bL_succ l g hxl, HUS.out])
              go_wp2_with (first
                | (go_at_call 34; refine (HGR.out).mono ?_; rintro e w5 ⟨rfl, rfl⟩)
                | (at_builtin; refine wpList_push _ rfl _ _ _ rfl w.heap.size 4 _ 1 1 Tryd.underlying58 info_boolb rfl (by decide) HV2.out (by rfl) (news := [.bool (decide (g ≤ gv))]) (by rfl) rfl rfl (by intro u hu; simp at hu; subst hu; rfl) (by decide) (by unfold maxLen; omega) (by omega) HX2.out.size ?_; intro v6 w6 hv6 hb6 _ _ _ _; have HV6 := Lib.hid hv6; have HB6 := Lib.hid (HX2.out.trans hb6); clear hv6 hb6))
              go_roundg (wid l - (x + 1))
              case measure => have := HG2.out; omega
              case rel => exact ⟨x + 1, by go_num, by omega, rfl, by rw [show wid l * y + (x + 1) = wid l * y + x + 1 by omega, HE.out]; exact HV6.out, HB6.out⟩
            · have hxi : ¬ (x : Int) < (r0.size : Int) := by rw [HWD.out]; omega
              obtain rfl : x = wid l := by omega
              go_wp2
              go_roundg (l.length - (y + 1))
              case measure => have := HG.out; omega
              case rel => exact ⟨y + 1, by go_num, by omega, rfl, by rw [Nat.mul_succ]; exact HV2.out, HX2.out⟩
        · obtain rfl : y = l.length := by omega
          have hN1 : 1 ≤ wid l * l.length := Nat.mul_le_mul hw1 hl1
          have hN2 : wid l * l.length ≤ 1000 := by have := HN.out; rw [Nat.mul_comm]; omega
          obtain ⟨R, c, rfl, hbo⟩ := own_bo hN1 HV.out
          have HBO := Lib.hid hbo
          have HTA := Lib.hid (show ∀ (m : Nat), m ≤ 1000 → ∀ (W : World), Bo R (wid l * l.length) (dL l g) W → Calls Tryd.prog 35 #[.slice (some ⟨R, 0, none⟩) (wid l * l.length) c, .int .i64 (r0.size : Int), .int .i64 (m : Int)] W fun e w' => e = .returned (.bool (decide (n ≤ m))) ∧ Below W.heap.size W w' from fun m hm W hb => by
            rw [HWD.out, ← HTR.out m]
            exact tries_any (w := wid l) (H := l.length) hw1 hw48 hN1 hN2 m hm R c (dL l g) W hb)
          have hnb : n ≤ 1000 := Nat.le_trans HNB.out hN2
          have HT1 := Lib.hid (HTA.out n hnb)
          rw [decide_eq_true (Nat.le_refl n)] at HT1
          clear hbo hN1 hN2
          by_cases hn0 : n = 0
          · have hni : (n : Int) = 0 := by omega
            rw [hni] at HT1 ⊢
            clear hn0 hni
            go_wp2_with (first
              | (go_at_call 35; refine (HT1.out _ HBO.out).mono ?_; rintro e w6 ⟨rfl, hx6⟩; have HX6 := Lib.hid (ext_trans HX1.out hx6); clear hx6)
              | (go_at_call 14; refine (awake_any _).mono ?_; rintro e w7 ⟨rfl, hx7⟩; have HX7 := Lib.hid (ext_trans HX6.out hx7); clear hx7))
            go_ret
            exact ⟨rfl, HX7.out⟩
          · have hni : ((n : Int) == 0) = false := by simp [hn0]
            obtain ⟨n1, hn1⟩ : ∃ n1, n1 = n - 1 := ⟨_, rfl⟩
            have hn1i : (n : Int) - 1 = (n1 : Int) := by omega
            have HT2 := Lib.hid (HTA.out n1 (by omega))
            rw [decide_eq_false (show ¬ n ≤ n1 by omega)] at HT2
            clear hn1
            go_wp2_with (first
              | (go_at_call_of 35 (Value.int .i64 (n : Int)); refine (HT1.out _ HBO.out).mono ?_; rintro e w6 ⟨rfl, hx6⟩; have HX6 := Lib.hid (ext_trans HX1.out hx6); have HBO6 := Lib.hid (HBO.out.ext hx6); obtain ⟨s1, s2⟩ := HC0.out _ HX6.out; clear hx6)
              | (go_at_call_of 35 (Value.int .i64 (n1 : Int)); refine (HT2.out _ HBO6.out).mono ?_; rintro e w8 ⟨rfl, hx8⟩; have HX8 := Lib.hid (ext_trans HX6.out hx8); clear hx8)
              | (go_at_call 14; refine (awake_any _).mono ?_; rintro e w7 ⟨rfl, hx7⟩; have HX7 := Lib.hid (ext_trans HX8.out hx7); clear hx7))
            go_ret
            exact ⟨rfl, HX7.out⟩
    · have h16i : (16 : Int) < (N : Int) := by omega
      go_wp2_with (first
        | (go_at_call 30; refine (HF.out).mono ?_; rintro e w1 ⟨hx1, rfl⟩)
        | (go_at_call 21; refine (HGD.out _ hx1).mono ?_; rintro e w2 ⟨rfl, hx2⟩; have hx1 := ext_trans hx1 hx2; obtain ⟨t1, t2⟩ := HC0.out _ hx1)
        | (go_at_call 14; refine (awake_any _).mono ?_; rintro e w3 ⟨rfl, hx3⟩; have hx1 := ext_trans hx1 hx3))
      go_ret
      exact ⟨rfl, hx1⟩
  · have HF := Lib.hid (HF.out.mono (R' := fun e w' => Below w.heap.size w w' ∧ e = .returned (.tuple #[.int .i64 0, .int .i64 2])) (fun e w' hr => ⟨hr.1, hr.2.elim (fun h => h.2) (fun h => absurd h.1 hps)⟩))
    rw [decide_eq_false hps] at HGD
    clear hps h hz
    go_enter Tryd.func9, Tryd.ntmps9
    go_wp2_with (first
      | (go_at_call 30; refine (HF.out).mono ?_; rintro e w1 ⟨hx1, rfl⟩)
      | (go_at_call 21; refine (HGD.out _ hx1).mono ?_; rintro e w2 ⟨rfl, hx2⟩; have hx1 := ext_trans hx1 hx2)
      | (go_at_call 14; refine (awake_any _).mono ?_; rintro e w3 ⟨rfl, hx3⟩; have hx1 := ext_trans hx1 hx3))
    go_ret
    exact ⟨rfl, hx1⟩
end Go.Proofs.YtmgofdgbenfjmaaDoor
