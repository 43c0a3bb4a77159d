/- classes walked, the program's, with its closure a premise. Conditions: a valid graph; the closure answers as ch. -/
import Derived.Test.YtfadkokdoehjnaaDoorOd
import Derived.Test.YtfadkokdoehjnaaDoorClP
namespace Go.Proofs.YtfadkokdoehjnaaDoor
open Go.RowKit

/-- the closure answers ch, wherever nothing that was there has turned -/
def ChK (w : World) (K : FuncId) (caps : Array Value) (l : List Sm) (ch : Nat → Bool) : Prop :=
  Enters K ∧ ∀ W, Below w.heap.size w W → ∀ k (hk : k < l.length), Calls Tryd.prog K (#[.int .i64 (k : Int), l[k].val] ++ caps) W fun e w' => e = .returned (.bool (ch k)) ∧ Below W.heap.size W w'
/-- classes' own memory -/
def ClS (w : World) (N : Int) (A : Option Addr) (m cap n : Nat) (d : Nat → Int) (wr : World) : Prop :=
  Below w.heap.size w wr ∧ Bk 46 wr w.heap.size #[.int .i64 N, .slice A m cap] ∧ Ow 3 (w.heap.size + 1) n d wr
section
variable {w : World} {N : Int} {A : Option Addr} {m cap n : Nat} {d : Nat → Int} {wr w' : World}
theorem ClS.ext (h : ClS w N A m cap n d wr) (hb : Below wr.heap.size wr w') : ClS w N A m cap n d w' := ⟨bext h.1 hb h.1.size, h.2.1.ext hb, h.2.2.ext hb⟩
theorem ClS.set (h : ClS w N A m cap n d wr) (i : Nat) (x : Int) : ClS w N A m cap n (upd d i x) (wr.setCell ⟨w.heap.size + 1, i, none⟩ (.int .i64 x)) :=
  ⟨h.1.setCell (by show w.heap.size ≤ w.heap.size + 1; omega) _, h.2.1.set_ne (by omega) _, h.2.2.set i x⟩
theorem ClS.start (w : World) (N : Int) (A : Option Addr) (m cap n : Nat) : ClS w N A m cap n (fun _ => 0) ((w.alloc (.cells #[.int .i64 N, .slice A m cap] 46)).alloc (.cells (cellsOf n fun _ => 0) 3)) := by
  have h2 := Ow.new 3 (w.alloc (.cells #[.int .i64 N, .slice A m cap] 46)) n (fun _ => 0)
  simp only [World.size_alloc] at h2
  exact ⟨((Below.refl _ _).alloc (Nat.le_refl _) _).alloc (by simp) _, (Bk.new _ w _).alloc _, h2⟩
end

set_option maxRecDepth 100000 in
set_option maxHeartbeats 4000000 in
theorem classes_any (n : Nat) (A : Option Addr) (cap : Nat) (l : List Sm) (K : FuncId) (caps : Array Value) (ch : Nat → Bool) (w : World) (hok : GOk n l) (_hc : l.length ≤ cap) (_hcm : cap ≤ 9223372036854775807) (h : SSl w A l) (hch : ChK w K caps l ch) :
    Calls Tryd.prog 56 #[.agg #[.int .i64 (n : Int), .slice A l.length cap], .func (.func K) #[] caps] w fun e w' => ∃ b, e = .returned (.slice (some ⟨b, 0, none⟩) n n) ∧ Ow 3 b n (cls ch l l.length) w' ∧ w.heap.size ≤ b ∧ Below w.heap.size w w' := by
  have H := Lib.hid h
  have HCH := Lib.hid hch
  have HOK := Lib.hid hok
  have HS0 := Lib.hid (ClS.start w n A l.length cap n)
  have l64 := hok.2.2.1
  have n1 : 1 ≤ n := by have := hok.1; omega
  have n2 : n ≤ 16 := by have := hok.2.1; omega
  have hmk := run_zeros n (by omega)
  have hcf := hch.1
  unfold Enters at hcf
  clear h hch hok
  go_enter Tryd.func56, Tryd.ntmps56
  go_wp2
  go_loopg [18] n (fun g i wr => ∃ k : Nat, i = .int .i64 k ∧ k ≤ n ∧ g = n - k ∧ ClS w n A l.length cap n (pin (fun _ => 0) (fun j => j) k) wr)
  case atStart => exact ⟨0, rfl, by omega, by omega, by rw [pin_zero]; exact HS0.out⟩
  case round =>
    obtain ⟨k, rfl, hk, hg, hs⟩ := hrel
    have HG := Lib.hid hg
    have HS := Lib.hid hs
    obtain ⟨f1, f2, f3⟩ := hs.2.1.facts
    have hb := hs.1
    clear hg hs HS0
    by_cases hlt : k < n
    · have q1 := HS.out.2.2.cell hlt
      have q2 := HS.out.2.2.frozen k
      have hset := HS.out.set k k
      rw [pin_set _ (fun j => (j : Int)) k rfl] at hset
      have HSET := Lib.hid hset
      clear hset
      go_wp2
      go_roundg (n - (k + 1))
      case measure => have := HG.out; omega
      case rel => exact ⟨k + 1, by go_num, by omega, rfl, HSET.out⟩
    · obtain rfl : k = n := by omega
      have HS1 := Lib.hid (show ClS w k A l.length cap k (cls ch l 0) wr from ⟨HS.out.1, HS.out.2.1, HS.out.2.2.congr (fun i hi => by unfold pin; rw [if_pos hi]; rfl)⟩)
      clear HS hmk HG
      obtain ⟨n, rfl⟩ : ∃ n, n = k := ⟨_, rfl⟩
      go_wp2
      go_loopg [29] l.length (fun g i wr => ∃ k : Nat, i = .int .i64 k ∧ k ≤ l.length ∧ g = l.length - k ∧ ClS w n A l.length cap n (cls ch l k) wr)
      case atStart => exact ⟨0, rfl, by omega, by omega, HS1.out⟩
      case round =>
        obtain ⟨k, rfl, hk, hg, hs⟩ := hrel
        have HG := Lib.hid hg
        have HS := Lib.hid hs
        obtain ⟨f1, f2, f3⟩ := hs.2.1.facts
        have hb := hs.1
        clear hg hs HS1
        by_cases hlt : k < l.length
        · have hf := H.out.ext hb
          rcases hf with hf | ⟨b, off, rfl, hblt, hcl⟩
          · rw [hf] at hlt; simp at hlt
          · obtain ⟨c1, c2, c3, c4⟩ := hcl k hlt
            have hso := HOK.out.2.2.2 _ (List.getElem_mem hlt)
            obtain ⟨s, hs⟩ : ∃ s, s = l[k] := ⟨_, rfl⟩
            have HC := Lib.hid (fun W hW => HCH.out.2 W hW k hlt)
            rw [← hs] at c1 c2 c3 c4 hso HC
            have HSK := Lib.hid hs
            obtain ⟨a, b', m, t⟩ := s
            dsimp only at c1 c2 c3 c4
            obtain ⟨o1, o2, o3, o4, -, -, -, -⟩ := hso
            dsimp only at o1 o2 o3 o4
            obtain ⟨ja, rfl⟩ := Int.eq_ofNat_of_zero_le o1
            obtain ⟨jb, rfl⟩ := Int.eq_ofNat_of_zero_le o3
            have HS1 := Lib.hid (HS.out.ext (ext_alloc wr (.cells #[.int .i64 (ja : Int), .int .i64 (jb : Int), .int .i64 m, .int .i64 t] 43)))
            have HB1 := Lib.hid (Bk.new 43 wr #[.int .i64 (ja : Int), .int .i64 (jb : Int), .int .i64 m, .int .i64 t])
            have hlo : w.heap.size + 1 < wr.heap.size := HS.out.2.2.lt
            have q1 := HS.out.2.2.cell (i := ja) (by omega)
            have q2 := HS.out.2.2.cell (i := jb) (by omega)
            clear hs hcl
            go_upto_region 10 with (fail)
            go_cut [9, 10] (fun z1 z2 wx => z1 = .int .i64 (cls ch l k ja) ∧ z2 = .int .i64 (cls ch l k jb) ∧ Below (wr.alloc (.cells #[.int .i64 (ja : Int), .int .i64 (jb : Int), .int .i64 m, .int .i64 t] 43)).heap.size (wr.alloc (.cells #[.int .i64 (ja : Int), .int .i64 (jb : Int), .int .i64 m, .int .i64 t] 43)) wx)
            case first =>
              go_quiet (fail)
              go_wp2
              go_meet
              exact ⟨rfl, rfl, ext_drewN _ _⟩
            case rest =>
              obtain ⟨rfl, rfl, hx⟩ := hcut
              have hsk := fun h => cls_skip (ch := ch) hlt HSK.out rfl rfl h
              have hjn := fun h => cls_join (ch := ch) hlt HSK.out (ja := ja) (jb := jb) rfl rfl h
              have hrg := cls_range ch l n (fun s hs => HOK.out.2.2.2 s hs) k (by omega)
              have ra := hrg ja (by omega)
              have rb := hrg jb (by omega)
              have HSK2 := Lib.hid hsk
              have HJN := Lib.hid hjn
              have S2 := HS1.out.ext hx
              have HS2 := Lib.hid S2
              have HB2 := Lib.hid (HB1.out.ext hx)
              obtain ⟨f1, f2, f3⟩ := S2.2.1.facts
              obtain ⟨e1, e2, e3⟩ := (HB1.out.ext hx).facts
              clear hsk hjn hrg q1 q2 S2 hx HS1 HB1
              obtain ⟨x, hx⟩ : ∃ x, x = cls ch l k ja := ⟨_, rfl⟩
              obtain ⟨y, hy⟩ : ∃ y, y = cls ch l k jb := ⟨_, rfl⟩
              rw [← hx] at HSK2 HJN ra ⊢
              rw [← hy] at HSK2 HJN rb ⊢
              clear hx hy
              cases hcs : ch k
              · rw [hcs] at HC
                have HUP := Lib.hid (HSK2.out (.inl hcs))
                clear hcs
                go_wp2_with (refine (HC.out _ HS2.out.1).mono ?_; rintro e w1 ⟨rfl, hx1⟩; have S1 := HS2.out.ext hx1)
                go_roundg (l.length - (k + 1))
                case measure => have := HG.out; omega
                case rel => exact ⟨k + 1, by go_num, by omega, rfl, by rw [HUP.out]; exact S1⟩
              · rw [hcs] at HC
                by_cases hxy : x = y
                · have HUP := Lib.hid (HSK2.out (.inr hxy))
                  subst hxy
                  clear hcs
                  go_wp2_with (refine (HC.out _ HS2.out.1).mono ?_; rintro e w1 ⟨rfl, hx1⟩; have S1 := HS2.out.ext hx1)
                  go_roundg (l.length - (k + 1))
                  case measure => have := HG.out; omega
                  case rel => exact ⟨k + 1, by go_num, by omega, rfl, by rw [HUP.out]; exact S1⟩
                · have hup := HJN.out hcs
                  have hxy2 : (x == y) = false := by simpa using hxy
                  clear hcs HSK2 HJN
                  rcases (by omega : x < y ∨ y < x) with hlt2 | hlt2
                  · rw [show max x y = y by omega, show min x y = x by omega] at hup
                    have HUP := Lib.hid hup
                    clear hup hxy
                    go_wp2_with (refine (HC.out _ HS2.out.1).mono ?_; rintro e w1 ⟨rfl, hx1⟩; have S1 := HS2.out.ext hx1)
                    have HS3 := Lib.hid S1
                    clear S1
                    go_loopg [56] n (fun g i wr => ∃ j : Nat, i = .int .i64 j ∧ j ≤ n ∧ g = n - j ∧ ClS w n (some ⟨b, off, none⟩) l.length cap n (pin (cls ch l k) (mg (cls ch l k) y x) j) wr)
                    case atStart => exact ⟨0, rfl, by omega, rfl, by rw [pin_zero]; exact HS3.out⟩
                    case round =>
                      obtain ⟨j, rfl, hj, hg, hs⟩ := hrel
                      have HG2 := Lib.hid hg
                      have HS4 := Lib.hid hs
                      clear hg HS3
                      by_cases hjn : j < n
                      · have q1 := hs.2.2.cell hjn
                        rw [pin_at] at q1
                        have q2 := hs.2.2.frozen j
                        by_cases hcj : cls ch l k j = y
                        · rw [hcj] at q1
                          have hset := HS4.out.set j x
                          rw [pin_set _ _ _ (show mg (cls ch l k) y x j = x from by unfold mg; rw [if_pos hcj])] at hset
                          have HSET := Lib.hid hset
                          clear hset hcj hs
                          go_wp2
                          go_roundg (n - (j + 1))
                          case measure => have := HG2.out; omega
                          case rel => exact ⟨j + 1, by go_num, by omega, rfl, HSET.out⟩
                        · have hcj2 : (cls ch l k j == y) = false := by simpa using hcj
                          have HSET := Lib.hid (show ClS w n (some ⟨b, off, none⟩) l.length cap n (pin (cls ch l k) (mg (cls ch l k) y x) (j + 1)) wr from by
                            rw [← pin_keep _ _ _ (show mg (cls ch l k) y x j = cls ch l k j from by unfold mg; rw [if_neg hcj])]; exact HS4.out)
                          clear hs
                          generalize cls ch l k j = z at *
                          go_wp2
                          go_roundg (n - (j + 1))
                          case measure => have := HG2.out; omega
                          case rel => exact ⟨j + 1, by go_num, by omega, rfl, HSET.out⟩
                      · obtain rfl : j = n := by omega
                        have HS5 := Lib.hid (show ClS w j (some ⟨b, off, none⟩) l.length cap j (cls ch l (k + 1)) wr from by
                          rw [HUP.out]
                          exact ⟨HS4.out.1, HS4.out.2.1, HS4.out.2.2.congr (fun i hi => by unfold pin; rw [if_pos hi])⟩)
                        clear hs HS4
                        go_wp2
                        go_roundg (l.length - (k + 1))
                        case measure => have := HG.out; omega
                        case rel => exact ⟨k + 1, by go_num, by omega, rfl, HS5.out⟩
                  · rw [show max x y = x by omega, show min x y = y by omega] at hup
                    have HUP := Lib.hid hup
                    clear hup hxy
                    go_wp2_with (refine (HC.out _ HS2.out.1).mono ?_; rintro e w1 ⟨rfl, hx1⟩; have S1 := HS2.out.ext hx1)
                    have HS3 := Lib.hid S1
                    clear S1
                    go_loopg [56] n (fun g i wr => ∃ j : Nat, i = .int .i64 j ∧ j ≤ n ∧ g = n - j ∧ ClS w n (some ⟨b, off, none⟩) l.length cap n (pin (cls ch l k) (mg (cls ch l k) x y) j) wr)
                    case atStart => exact ⟨0, rfl, by omega, rfl, by rw [pin_zero]; exact HS3.out⟩
                    case round =>
                      obtain ⟨j, rfl, hj, hg, hs⟩ := hrel
                      have HG2 := Lib.hid hg
                      have HS4 := Lib.hid hs
                      clear hg HS3
                      by_cases hjn : j < n
                      · have q1 := hs.2.2.cell hjn
                        rw [pin_at] at q1
                        have q2 := hs.2.2.frozen j
                        by_cases hcj : cls ch l k j = x
                        · rw [hcj] at q1
                          have hset := HS4.out.set j y
                          rw [pin_set _ _ _ (show mg (cls ch l k) x y j = y from by unfold mg; rw [if_pos hcj])] at hset
                          have HSET := Lib.hid hset
                          clear hset hcj hs
                          go_wp2
                          go_roundg (n - (j + 1))
                          case measure => have := HG2.out; omega
                          case rel => exact ⟨j + 1, by go_num, by omega, rfl, HSET.out⟩
                        · have hcj2 : (cls ch l k j == x) = false := by simpa using hcj
                          have HSET := Lib.hid (show ClS w n (some ⟨b, off, none⟩) l.length cap n (pin (cls ch l k) (mg (cls ch l k) x y) (j + 1)) wr from by
                            rw [← pin_keep _ _ _ (show mg (cls ch l k) x y j = cls ch l k j from by unfold mg; rw [if_neg hcj])]; exact HS4.out)
                          clear hs
                          generalize cls ch l k j = z at *
                          go_wp2
                          go_roundg (n - (j + 1))
                          case measure => have := HG2.out; omega
                          case rel => exact ⟨j + 1, by go_num, by omega, rfl, HSET.out⟩
                      · obtain rfl : j = n := by omega
                        have HS5 := Lib.hid (show ClS w j (some ⟨b, off, none⟩) l.length cap j (cls ch l (k + 1)) wr from by
                          rw [HUP.out]
                          exact ⟨HS4.out.1, HS4.out.2.1, HS4.out.2.2.congr (fun i hi => by unfold pin; rw [if_pos hi])⟩)
                        clear hs HS4
                        go_wp2
                        go_roundg (l.length - (k + 1))
                        case measure => have := HG.out; omega
                        case rel => exact ⟨k + 1, by go_num, by omega, rfl, HS5.out⟩
        · obtain rfl : k = l.length := by omega
          go_wp2
          go_ret
          exact ⟨w.heap.size + 1, rfl, HS.out.2.2, by omega, hb⟩
end Go.Proofs.YtfadkokdoehjnaaDoor
