/- odd walked, the program's, with its closure a premise. Conditions: a valid graph; the closure answers as ch. -/
import Derived.Test.YtfadkokdoehjnaaDoorVa
import Derived.Test.YtfadkokdoehjnaaDoorWe
import Derived.Test.YtfadkokdoehjnaaDoorOdP
import Derived.Laws.Rows
namespace Go.Proofs.YtfadkokdoehjnaaDoor
open Go.RowKit

theorem run_idx16 (d : Nat → Int) : ∀ k : Nat, k < 16 → ∀ W, (Instr.index 105 (.agg (cellsOf 16 d)) (.int .i64 (k : Int))).run Tryd.prog W = .ok (.int .i64 (d k)) W := by
  intro k hk W
  rcases (by omega : k = 0 ∨ k = 1 ∨ k = 2 ∨ k = 3 ∨ k = 4 ∨ k = 5 ∨ k = 6 ∨ k = 7 ∨ k = 8 ∨ k = 9 ∨ k = 10 ∨ k = 11 ∨ k = 12 ∨ k = 13 ∨ k = 14 ∨ k = 15) with h | h | h | h | h | h | h | h | h | h | h | h | h | h | h | h <;> subst h <;> kernel_rfl
/-- K is a function with a body -/
def Enters (K : FuncId) : Prop := ∀ args W, (callFunc K args).run Tryd.prog W = .ok (.enter K args) W
/-- the closure answers ch, wherever nothing that was there has turned -/
def ChS (w : World) (K : FuncId) (caps : Array Value) (l : List Sm) (ch : Sm → Bool) : Prop :=
  Enters K ∧ ∀ W, Below w.heap.size w W → ∀ s ∈ l, Calls Tryd.prog K (#[s.val] ++ caps) W fun e w' => e = .returned (.bool (ch s)) ∧ Below W.heap.size W w'
/-- odd's own memory -/
def OdS (w : World) (N : Int) (A : Option Addr) (m cap : Nat) (d : Nat → Int) (wr : World) : Prop :=
  Below w.heap.size w wr ∧ Bk 46 wr w.heap.size #[.int .i64 N, .slice A m cap] ∧ Ow 105 (w.heap.size + 1) 16 d wr
section
variable {w : World} {N : Int} {A : Option Addr} {m cap : Nat} {d : Nat → Int} {wr w' : World}
theorem OdS.ext (h : OdS w N A m cap d wr) (hb : Below wr.heap.size wr w') : OdS w N A m cap d w' := ⟨bext h.1 hb h.1.size, h.2.1.ext hb, h.2.2.ext hb⟩
theorem OdS.set (h : OdS w N A m cap d wr) (i : Nat) (x : Int) : OdS w N A m cap (upd d i x) (wr.setCell ⟨w.heap.size + 1, i, none⟩ (.int .i64 x)) :=
  ⟨h.1.setCell (by show w.heap.size ≤ w.heap.size + 1; omega) _, h.2.1.set_ne (by omega) _, h.2.2.set i x⟩
theorem OdS.start (w : World) (N : Int) (A : Option Addr) (m cap : Nat) : OdS w N A m cap (fun _ => 0) ((w.alloc (.cells #[.int .i64 N, .slice A m cap] 46)).alloc (.cells (cellsOf 16 fun _ => 0) 105)) := by
  have h2 := Ow.new 105 (w.alloc (.cells #[.int .i64 N, .slice A m cap] 46)) 16 (fun _ => 0)
  simp only [World.size_alloc] at h2
  exact ⟨((Below.refl _ _).alloc (Nat.le_refl _) _).alloc (by simp) _, (Bk.new _ w _).alloc _, h2⟩
end
/-- one seam more -/
theorem deg_upd {ch : Sm → Bool} {l : List Sm} {k : Nat} (h : k < l.length) {s : Sm} (hs : s = l[k]) (hc : ch s = true) {ja jb : Nat} (ha : s.a = ja) (hb : s.b = jb) :
    upd (upd (deg ch (l.take k)) ja (deg ch (l.take k) ja + 1)) jb ((if jb = ja then deg ch (l.take k) ja + 1 else deg ch (l.take k) jb) + 1) = deg ch (l.take (k + 1)) := by
  funext j
  rw [deg_take ch h, ← hs, hc, if_pos rfl]
  unfold upd inc
  rw [ha, hb]
  by_cases h1 : j = jb
  · subst h1
    by_cases h2 : j = ja
    · subst h2; simp; omega
    · rw [if_pos rfl, if_neg h2, if_neg (by omega), if_pos (by omega)]; omega
  · rw [if_neg h1]
    by_cases h2 : j = ja
    · subst h2; rw [if_pos rfl, if_pos (by omega), if_neg (by omega)]; omega
    · rw [if_neg h2, if_neg (by omega), if_neg (by omega)]; omega
theorem deg_skip {ch : Sm → Bool} {l : List Sm} {k : Nat} (h : k < l.length) {s : Sm} (hs : s = l[k]) (hc : ch s = false) : deg ch (l.take k) = deg ch (l.take (k + 1)) := by
  funext j
  rw [deg_take ch h, ← hs, hc]
  simp

set_option maxRecDepth 100000 in
set_option maxHeartbeats 4000000 in
theorem odd_any (N : Int) (A : Option Addr) (cap : Nat) (l : List Sm) (K : FuncId) (caps : Array Value) (ch : Sm → Bool) (w : World) (hok : GOk N l) (_hc : l.length ≤ cap) (_hcm : cap ≤ 9223372036854775807) (h : SSl w A l) (hch : ChS w K caps l ch) :
    Calls Tryd.prog 60 #[.agg #[.int .i64 N, .slice A l.length cap], .func (.func K) #[] caps] w fun e w' => ∃ v, e = .returned v ∧ Vi w.heap.size w' v (oddN ch l 16) ∧ Below w.heap.size w w' := by
  have H := Lib.hid h
  have HCH := Lib.hid hch
  have HOK := Lib.hid hok
  have HS0 := Lib.hid (OdS.start w N A l.length cap)
  have l64 := hok.2.2.1
  have n1 := hok.1
  have n2 := hok.2.1
  have hcf := hch.1
  unfold Enters at hcf
  clear h hch hok
  go_enter Tryd.func60, Tryd.ntmps60
  go_wp2
  go_loopg [14] l.length (fun g i wr => ∃ k : Nat, i = .int .i64 k ∧ k ≤ l.length ∧ g = l.length - k ∧ OdS w N A l.length cap (deg ch (l.take k)) wr)
  case atStart => exact ⟨0, rfl, by omega, by omega, HS0.out⟩
  case round =>
    obtain ⟨k, rfl, hk, hg, hs⟩ := hrel
    have HG := Lib.hid hg
    have HS := Lib.hid hs
    obtain ⟨f1, f2, f3⟩ := hs.2.1.facts
    have hb := hs.1
    clear hg hs
    by_cases hlt : k < l.length
    · have hf := H.out.ext hb
      rcases hf with hf | ⟨b, off, rfl, hblt, hcl⟩
      · rw [hf] at hlt; simp at hlt
      · obtain ⟨c1, c2, c3, c4⟩ := hcl k hlt
        have hmem : l[k] ∈ l := List.getElem_mem hlt
        have hso := HOK.out.2.2.2 _ hmem
        obtain ⟨s, hs⟩ : ∃ s, s = l[k] := ⟨_, rfl⟩
        rw [← hs] at c1 c2 c3 c4 hmem hso
        have HSK := Lib.hid hs
        obtain ⟨a, b', n, t⟩ := s
        dsimp only at c1 c2 c3 c4
        obtain ⟨o1, o2, o3, o4, -, -, -, -⟩ := hso
        dsimp only at o1 o2 o3 o4
        obtain ⟨ja, rfl⟩ := Int.eq_ofNat_of_zero_le o1
        obtain ⟨jb, rfl⟩ := Int.eq_ofNat_of_zero_le o3
        have HC := Lib.hid (fun W hW => HCH.out.2 W hW _ hmem)
        obtain ⟨B, hB⟩ : ∃ B, B = wr.heap.size := ⟨_, rfl⟩
        have HS1 := Lib.hid (HS.out.ext (ext_alloc wr (.cells #[.int .i64 (ja : Int), .int .i64 (jb : Int), .int .i64 n, .int .i64 t] 43)))
        have HB1 := Lib.hid (Bk.new 43 wr #[.int .i64 (ja : Int), .int .i64 (jb : Int), .int .i64 n, .int .i64 t])
        have hlo : w.heap.size + 1 < wr.heap.size := HS.out.2.2.lt
        clear hs hcl hmem hB
        cases hcs : ch ⟨ja, jb, n, t⟩
        · rw [hcs] at HC
          have HUP := Lib.hid (deg_skip hlt HSK.out hcs)
          clear hcs
          go_wp2_with (refine (HC.out _ HS1.out.1).mono ?_; rintro e w1 ⟨rfl, hx1⟩; have S1 := HS1.out.ext hx1)
          go_roundg (l.length - (k + 1))
          case measure => have := HG.out; omega
          case rel => exact ⟨k + 1, by go_num, by omega, rfl, by rw [← HUP.out]; exact S1⟩
        · rw [hcs] at HC
          have hup := deg_upd hlt HSK.out hcs rfl rfl
          have hset := fun W (h : OdS w N (some ⟨b, off, none⟩) l.length cap (deg ch (l.take k)) W) => (h.set ja (deg ch (l.take k) ja + 1)).set jb ((if jb = ja then deg ch (l.take k) ja + 1 else deg ch (l.take k) jb) + 1)
          rw [hup] at hset
          have q5 := deg_range ch (l.take k) ja
          have q6 := deg_range ch (l.take k) jb
          have q7 : (l.take k).length ≤ 64 := by (rw [List.length_take]; omega)
          by_cases hab : jb = ja
          · subst hab
            rw [if_pos rfl] at hset
            have HSET := Lib.hid hset
            clear hcs hup hset
            go_wp2_with (refine (HC.out _ HS1.out.1).mono ?_; rintro e w1 ⟨rfl, hx1⟩; have S1 := HS1.out.ext hx1; obtain ⟨e1, e2, e3⟩ := (HB1.out.ext hx1).facts; have q1 := S1.2.2.cell (i := jb) (by omega); have q3 := S1.2.2.frozen jb; have hfz := S1.2.2.lt)
            go_roundg (l.length - (k + 1))
            case measure => have := HG.out; omega
            case rel => exact ⟨k + 1, by go_num, by omega, rfl, by simpa using HSET.out _ S1⟩
          · rw [if_neg hab] at hset
            have HSET := Lib.hid hset
            clear hcs hup hset
            go_wp2_with (refine (HC.out _ HS1.out.1).mono ?_; rintro e w1 ⟨rfl, hx1⟩; have S1 := HS1.out.ext hx1; obtain ⟨e1, e2, e3⟩ := (HB1.out.ext hx1).facts; have q1 := S1.2.2.cell (i := ja) (by omega); have q2 := S1.2.2.cell (i := jb) (by omega); have q3 := S1.2.2.frozen ja; have q4 := S1.2.2.frozen jb; have hfz := S1.2.2.lt)
            go_roundg (l.length - (k + 1))
            case measure => have := HG.out; omega
            case rel => exact ⟨k + 1, by go_num, by omega, rfl, by simpa using HSET.out _ S1⟩
    · obtain rfl : k = l.length := by omega
      have hS : OdS w N A l.length cap (deg ch l) wr := by have h := HS.out; rw [List.take_length] at h; exact h
      have hrow := hS.2.2
      unfold Ow Bk at hrow
      clear HS HG
      go_wp2_with (refine wpList_load_row rfl 105 (.tmp 5) rfl (w.heap.size + 1) rfl 105 (cellsOf 16 (deg ch l)) (0, 0) _ hrow Tryd.underlying105 rfl (by kernel_rfl) ?_)
      go_loopg [35, 8] 16 (fun g i v wr => ∃ k : Nat, i = .int .i64 k ∧ k ≤ 16 ∧ g = 16 - k ∧ Vi w.heap.size wr v (oddN ch l k) ∧ Below w.heap.size w wr)
      case atStart => exact ⟨0, rfl, by omega, rfl, Vi.nil _ _, hb⟩
      case round =>
        obtain ⟨k, rfl, hk, hg, hv, hb2⟩ := hrel
        have HG := Lib.hid hg
        have HV := Lib.hid hv
        have HB := Lib.hid hb2
        clear hg hv
        by_cases hlt : k < 16
        · have hidx := run_idx16 (deg ch l) k hlt
          have hr := deg_range ch l k
          have hlen := oddN_len ch l k
          by_cases ho : deg ch l k % 2 = 1
          · have HN := Lib.hid (show oddN ch l (k + 1) = oddN ch l k ++ [(k : Int)] from by
              show (if deg ch l k % 2 = 1 then _ else _) = _
              rw [if_pos ho])
            generalize deg ch l k = x at *
            go_wp2_with (at_builtin; refine wpList_pushI _ rfl _ _ rfl w.heap.size HV.out (by rfl) (by rfl) rfl (by omega) HB.out.size ?_; intro v5 w5 hv5 hb5 hk5)
            go_roundg (16 - (k + 1))
            case measure => have := HG.out; omega
            case rel => exact ⟨k + 1, by go_num, by omega, rfl, by rw [HN.out]; exact hv5, hb2.trans hb5⟩
          · have ho2 : (deg ch l k % 2 == 1) = false := by simpa using ho
            have HN := Lib.hid (show oddN ch l (k + 1) = oddN ch l k from by
              show (if deg ch l k % 2 = 1 then _ else _) = _
              rw [if_neg ho])
            generalize deg ch l k = x at *
            go_wp2
            go_roundg (16 - (k + 1))
            case measure => have := HG.out; omega
            case rel => exact ⟨k + 1, by go_num, by omega, rfl, by rw [HN.out]; exact HV.out, HB.out⟩
        · obtain rfl : k = 16 := by omega
          go_wp2
          go_ret
          exact ⟨_, rfl, HV.out, HB.out⟩
end Go.Proofs.YtfadkokdoehjnaaDoor
