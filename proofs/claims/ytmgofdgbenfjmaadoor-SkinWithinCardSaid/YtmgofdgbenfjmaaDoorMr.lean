/- Mirror walked, the program's and the reference's. Conditions: each string's length is an int. -/
import Derived.Test.YtmgofdgbenfjmaaDoorMi
import Derived.Deep.CutBlock
namespace Go.Proofs.YtmgofdgbenfjmaaDoor
open Go.RowKit

/-- a skin, or an error -/
def RetS2 (w : World) (ok : Prop) (er : Int) (s : List ByteArray) (e : Ending) (w' : World) : Prop :=
  Below w.heap.size w w' ∧ ((¬ ok ∧ e = .returned (.tuple #[.slice none 0 0, .int .i64 er])) ∨
    (ok ∧ ∃ A cap, e = .returned (.tuple #[.slice A s.length cap, .int .i64 0]) ∧ s.length ≤ cap ∧ cap ≤ 9223372036854775807 ∧ TSl w' A s))
/-- the mirrored skin -/
def mirP (l : List ByteArray) : List ByteArray := skF (wid l) l.length fun x y => cellB l (wid l - 1 - x) y
theorem first_row {l : List ByteArray} (hok : SkOk l) {b off : Nat} {W : World} (hcl : ∀ j (h : j < l.length), W.cell? ⟨b, off + j, none⟩ = some (.string l[j])) : ∃ r0 : ByteArray, W.cell? ⟨b, off, none⟩ = some (.string r0) ∧ r0.size = wid l := by
  have h1 := hok.1
  have c0 := hcl 0 (by omega)
  rw [Nat.add_zero] at c0
  exact ⟨_, c0, (hok.row (show 0 < l.length by omega)).1⟩
set_option maxRecDepth 100000 in
set_option maxHeartbeats 4000000 in
theorem mirror_any (A : Option Addr) (cap : Nat) (l : List ByteArray) (w : World) (hc : l.length ≤ cap) (hcm : cap ≤ 9223372036854775807) (h : TSl w A l) (hz : TSz l) :
    Calls Tryd.prog 39 #[.slice A l.length cap] w (RetS2 w (SkOk l) 2 (mirP l)) := by
  have hmf : ∀ (fn : Fn) (first cap : Array Value) (w : World), (Instr.makeFunc fn first cap).run Tryd.prog w = .ok (.func fn first cap) w := fun _ _ _ _ => rfl
  have hx0 := ext_alloc w (.cells #[.slice A l.length cap] 22)
  have HX0 := Lib.hid hx0
  have HB0 := Lib.hid (Bk.new 22 w #[.slice A l.length cap])
  have HV := Lib.hid (valid_any A cap l _ hc hcm (h.ext hx0) hz)
  by_cases hok : SkOk l
  · rw [decide_eq_true hok] at HV
    have HOK := Lib.hid hok
    have HT := Lib.hid h
    rcases h with h0 | ⟨b, off, rfl, hblt, hcl⟩
    · have h1 := hok.1; rw [h0] at h1; simp at h1
    have HC := Lib.hid (show ∀ W, Below w.heap.size w W → b < W.heap.size ∧ ∃ r0 : ByteArray, W.cell? ⟨b, off, none⟩ = some (.string r0) ∧ r0.size = wid l from fun W hW => ⟨Nat.lt_of_lt_of_le hblt hW.size, first_row hok (fun j hj => (hW.cell (p := ⟨b, off + j, none⟩) hblt).trans (hcl j hj))⟩)
    have hl1 := hok.1
    have hl48 := hok.2.1
    have hw48 := hok.2.2.2.1
    clear hok hcl hblt hx0 hz
    go_enter Tryd.func39, Tryd.ntmps39
    go_upto_region 3 with (go_at_call 42; refine (HV.out).mono ?_; rintro e w1 ⟨rfl, hx1⟩; have HB1 := Lib.hid (HB0.out.ext hx1); have BB1 := Lib.hid (bext HX0.out hx1 HX0.out.size); clear hx1; obtain ⟨f1, f2, f3⟩ := HB1.out.facts)
    obtain ⟨hblt, r0, c0, hr0⟩ := HC.out _ BB1.out
    go_upto_region 4 with (fail)
    have HX2 := Lib.hid (ext_alloc w1 (.cells #[.int .i64 (wid l)] 3))
    have HB2 := Lib.hid (HB1.out.ext HX2.out)
    have HQ := Lib.hid (Bk.new 3 w1 #[.int .i64 (wid l)])
    have BB2 := Lib.hid (bext BB1.out HX2.out BB1.out.size)
    obtain ⟨X, hX⟩ : ∃ X, X = w1.alloc (.cells #[.int .i64 (wid l)] 3) := ⟨_, rfl⟩
    obtain ⟨q, hq⟩ : ∃ q, q = w1.heap.size := ⟨_, rfl⟩
    rw [← hX] at HB2 HQ BB2
    rw [← hq] at HQ
    have hg : True := trivial
    first
      | rw [← hq, ← hX]
      | (rw [hr0, ← hq, ← hX])
    clear hX hq c0 hblt f1 f2 f3 hg
    obtain ⟨f1, f2, f3⟩ := HB2.out.facts
    obtain ⟨q1, q2, q3⟩ := HQ.out.facts
    have HTU := Lib.hid (turned_any (wid l) l.length 80 #[.pointer (some ⟨w.heap.size, 0, none⟩), .pointer (some ⟨q, 0, none⟩)] (fun x y => cellB l (wid l - 1 - x) y) X (by omega) (by omega) (fun _ _ => rfl)
      (fun V hV x y hx hy => mirror_cell x y w.heap.size q (some ⟨b, off, none⟩) cap l V HOK.out (HT.out.ext (bext BB2.out hV BB2.out.size)) ((HB2.out.ext hV).cell 0) ((HQ.out.ext hV).cell 0) hx hy)
      (fun x y _ _ => by have := cellB_rg HOK.out (wid l - 1 - x) y; omega))
    unfold RetSk at HTU
    obtain ⟨ms, hms⟩ : ∃ ms, ms = mirP l := ⟨_, rfl⟩
    have HMS := Lib.hid hms
    rw [show skF (wid l) l.length (fun x y => cellB l (wid l - 1 - x) y) = ms from hms.symm] at HTU
    clear hms
    go_wp2_with (go_at_call 78; refine (HTU.out).mono ?_; rintro e w5 ⟨hx5, A5, cap5, rfl, k1, k2, k3⟩)
    refine bodyPost_ret (v := .tuple #[.slice A5 ms.length cap5, .int .i64 0]) (by simp [results, Tryd.results39, go_sem]) rfl ?_
    have hm2 := HMS.out
    subst hm2
    exact ⟨bext BB2.out hx5 BB2.out.size, .inr ⟨HOK.out, A5, cap5, rfl, k1, k2, k3⟩⟩
  · rw [decide_eq_false hok] at HV
    have HOK := Lib.hid hok
    clear hok h hz hx0
    go_enter Tryd.func39, Tryd.ntmps39
    go_wp2_with (go_at_call 42; refine (HV.out).mono ?_; rintro e w1 ⟨rfl, hx1⟩; obtain ⟨f1, f2, f3⟩ := (HB0.out.ext hx1).facts)
    refine bodyPost_ret (v := .tuple #[.slice none 0 0, .int .i64 2]) (by simp [results, Tryd.results39, go_sem]) rfl ?_
    exact ⟨bext HX0.out hx1 HX0.out.size, .inl ⟨HOK.out, rfl⟩⟩
end Go.Proofs.YtmgofdgbenfjmaaDoor
