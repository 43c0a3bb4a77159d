/- Plain words for SkinOpened: the opened skin, a cell of the eroded one by counting. Conditions: a skin. -/
import Derived.Test.YtdkoomcgnaokgaaDoorEt
import Derived.Test.YtdkoomcgnaokgaaDoorOnP
import Derived.Test.YtdkoomcgnaokgaaDoorTc
namespace Go.Proofs.YtdkoomcgnaokgaaDoor
open Go.RowKit

theorem morP_skF {w h : Nat} {c : Nat → Nat → Nat} (e : Bool) (k : Nat) (hh : 1 ≤ h) (hc : ∀ x y, x < w → y < h → c x y < 256) : morP e (skF w h c) k = skF w h (c4 e w h k c) := by
  unfold morP
  rw [skF_len, wid_skF hh]
  exact skF_congr fun x y hx hy => c4_congr (fun p q hp hq => cellB_skF hp hq (hc p q hp hq)) hx hy
/-- the opened skin -/
def opP (l : List ByteArray) (k : Nat) : List ByteArray := morP false (morP true l k) k
theorem c4_256 {l : List ByteArray} (hok : SkOk l) (e : Bool) (k : Nat) {x y : Nat} (hx : x < wid l) (hy : y < l.length) : c4 e (wid l) l.length k (cellB l) x y < 256 := by
  have := c4_rg (e := e) (k := k) (c := cellB l) (w := wid l) (h := l.length) (fun i j _ _ => cellB_rg hok i j) hx hy
  omega
theorem opn_256 {l : List ByteArray} (hok : SkOk l) (k : Nat) {x y : Nat} (hx : x < wid l) (hy : y < l.length) : opn (wid l) l.length k (cellB l) x y < 256 := by
  have h1 := opn_le (k := k) (c := cellB l) hx hy
  have h2 := cellB_rg hok x y
  omega
theorem opP_eq {l : List ByteArray} (hok : SkOk l) (k : Nat) : opP l k = skF (wid l) l.length (opn (wid l) l.length k (cellB l)) := by
  unfold opP
  rw [show morP true l k = skF (wid l) l.length (c4 true (wid l) l.length k (cellB l)) from rfl]
  rw [morP_skF false k hok.1 (fun x y hx hy => c4_256 hok true k hx hy)]
  rfl
theorem opP_ok {l : List ByteArray} (hok : SkOk l) (k : Nat) : SkOk (opP l k) := morP_ok (morP_ok hok true k) false k
theorem opP_sz {l : List ByteArray} (hok : SkOk l) (k : Nat) : TSz (opP l k) := morP_sz (morP_ok hok true k) false k
theorem opP_opP {l : List ByteArray} (hok : SkOk l) (k : Nat) : opP (opP l k) k = opP l k := by
  rw [opP_eq hok k]
  unfold opP
  rw [morP_skF true k hok.1 (fun x y hx hy => opn_256 hok k hx hy)]
  rw [morP_skF false k hok.1 (fun x y hx hy => by
    rw [ero_opn hx hy]; exact c4_256 hok true k hx hy)]
  exact skF_congr fun x y hx hy => opn_opn hx hy
theorem rct_full (l : List ByteArray) (g : Int) (y x : Nat) : ∀ k, rct l g y x k = k ↔ ∀ i, i < k → usb l g (((x + i : Nat) : Int), (y : Int)) = true
  | 0 => by rw [rct_zero]; simp
  | k + 1 => by
    have ih := rct_full l g y x k
    have hb := rct_bd l g y x k
    rw [rct_succ]
    constructor
    · intro h i hi
      have h1 : usb l g (((x + k : Nat) : Int), (y : Int)) = true := by
        by_cases hu : usb l g (((x + k : Nat) : Int), (y : Int)) = true
        · exact hu
        · rw [if_neg hu] at h; omega
      rw [if_pos h1] at h
      by_cases hik : i = k
      · rw [hik]; exact h1
      · exact ih.1 (by omega) i (by omega)
    · intro h
      rw [if_pos (h k (by omega)), ih.2 fun i hi => h i (by omega)]
      omega
theorem cnt_full (l : List ByteArray) (g : Int) (x y a : Nat) : ∀ b, (cnt l g x y a b = (a : Int) * (b : Int) ↔ ∀ i j, i < a → j < b → usb l g (((x + i : Nat) : Int), ((y + j : Nat) : Int)) = true) ∧ cnt l g x y a b ≤ (a : Int) * (b : Int)
  | 0 => by simp [cnt]
  | b + 1 => by
    obtain ⟨ih, hle⟩ := cnt_full l g x y a b
    have hb := rct_bd l g (y + b) x a
    have hf := rct_full l g (y + b) x a
    have e : (a : Int) * ((b + 1 : Nat) : Int) = (a : Int) * (b : Int) + a := by push_cast; rw [Int.mul_add, Int.mul_one]
    rw [← cnt_snoc, e]
    refine ⟨⟨fun h i j hi hj => ?_, fun h => ?_⟩, by omega⟩
    · by_cases hjb : j = b
      · rw [hjb]; exact hf.1 (by omega) i hi
      · exact ih.1 (by omega) i j hi (by omega)
    · rw [hf.2 fun i hi => h i b hi (by omega), ih.2 fun i j hi hj => h i j hi (by omega)]
theorem usb_cell {l : List ByteArray} {g : Int} {x y : Nat} (hx : x < wid l) (hy : y < l.length) : usb l g ((x : Int), (y : Int)) = true ↔ 48 + g ≤ (cellB l x y : Int) := by
  unfold usb
  rw [decide_eq_true_eq, gr_cell hx hy]
  constructor <;> intro h <;> omega
/-- what the law counts around a cell -/
def arN (l : List ByteArray) (g : Int) (k x y : Nat) : Int := if k ≤ x ∧ k ≤ y then ctV (wid l) l.length l g ((x : Int) - k) ((y : Int) - k) (2 * (k : Int) + 1) (2 * (k : Int) + 1) else -1
theorem arN_full {l : List ByteArray} {g : Int} {k x y : Nat} (hg : 1 ≤ g) (hx : x < wid l) (hy : y < l.length) : 48 + g ≤ (c4 true (wid l) l.length k (cellB l) x y : Int) ↔ arN l g k x y = (2 * (k : Int) + 1) * (2 * (k : Int) + 1) := by
  have hpos : 0 < (2 * (k : Int) + 1) * (2 * (k : Int) + 1) := Int.mul_pos (by omega) (by omega)
  obtain ⟨t, ht⟩ : ∃ t : Nat, t = (48 + g).toNat := ⟨_, rfl⟩
  have h48 : 48 < t := by omega
  have key := ero_grade (w := wid l) (h := l.length) (k := k) (c := cellB l) hx hy h48
  rw [show (48 + g ≤ (c4 true (wid l) l.length k (cellB l) x y : Int)) ↔ t ≤ c4 true (wid l) l.length k (cellB l) x y from by constructor <;> intro h <;> omega, key]
  unfold arN
  by_cases hk : k ≤ x ∧ k ≤ y
  · rw [if_pos hk]
    unfold ctV
    rw [if_pos (show RcOk ((x : Int) - k) ((y : Int) - k) (2 * (k : Int) + 1) (2 * (k : Int) + 1) from by unfold RcOk; omega)]
    by_cases hin : RcIn ((x : Int) - k) ((y : Int) - k) (2 * (k : Int) + 1) (2 * (k : Int) + 1) (wid l) l.length
    · rw [if_pos hin]
      unfold RcIn at hin
      have hc := (cnt_full l g (x - k) (y - k) (2 * k + 1) (2 * k + 1)).1
      rw [show ((x : Int) - k).toNat = x - k by omega, show ((y : Int) - k).toNat = y - k by omega, show (2 * (k : Int) + 1).toNat = 2 * k + 1 by omega]
      rw [show (2 * (k : Int) + 1) = ((2 * k + 1 : Nat) : Int) by omega, hc]
      constructor
      · rintro ⟨_, _, h3, h4, h5⟩ i j hi hj
        rw [usb_cell (by omega) (by omega)]
        have := h5 i j hi hj
        omega
      · intro h
        refine ⟨hk.1, hk.2, by omega, by omega, fun i j hi hj => ?_⟩
        have := h i j hi hj
        rw [usb_cell (by omega) (by omega)] at this
        omega
    · rw [if_neg hin]
      unfold RcIn at hin
      constructor
      · rintro ⟨_, _, h3, h4, _⟩; exfalso; exact hin (by omega)
      · intro h; omega
  · rw [if_neg hk]
    constructor
    · rintro ⟨h1, h2, _⟩; exact absurd ⟨h1, h2⟩ hk
    · intro h; omega
/-- a row of a skin in memory -/
theorem row_read {W : World} {b off : Nat} {ms : List ByteArray} (hok : SkOk ms) (h : TSl W (some ⟨b, off, none⟩) ms) {y : Nat} (hy : y < ms.length) : b < W.heap.size ∧ ∃ r : ByteArray, W.cell? ⟨b, off + y, none⟩ = some (.string r) ∧ r.size = wid ms ∧ ∀ x (hx : x < r.size), (r[x]'hx).toNat = cellB ms x y := by
  rcases h with h0 | ⟨b', off', e, hblt, hcl⟩
  · rw [h0] at hy; simp at hy
  · obtain ⟨rfl, rfl⟩ : b = b' ∧ off = off' := by
      injection e with e; injection e with e1 e2; exact ⟨e1, e2⟩
    refine ⟨hblt, ms[y], hcl y hy, (hok.row hy).1, fun x hx => ?_⟩
    rw [cellB_at hy]; unfold byteAt; rw [dif_pos hx]
theorem TSl.addr {W : World} {A : Option Addr} {ms : List ByteArray} (h : TSl W A ms) (h1 : 1 ≤ ms.length) : ∃ b off, A = some ⟨b, off, none⟩ := by
  rcases h with h0 | ⟨b, off, rfl, _, _⟩
  · rw [h0] at h1; simp at h1
  · exact ⟨b, off, rfl⟩
/-- what is known of an opened skin and an eroded one -/
theorem opP_facts {l : List ByteArray} (hok : SkOk l) (k : Nat) : (opP l k).length = l.length ∧ wid (opP l k) = wid l ∧ ∀ x y, x < wid l → y < l.length → cellB (opP l k) x y ≤ cellB l x y := by
  rw [opP_eq hok k]
  refine ⟨skF_len _ _ _, wid_skF hok.1, fun x y hx hy => ?_⟩
  rw [cellB_skF hx hy (opn_256 hok k hx hy)]
  exact opn_le hx hy
theorem erP_facts {l : List ByteArray} (hok : SkOk l) (k : Nat) : (morP true l k).length = l.length ∧ wid (morP true l k) = wid l ∧ ∀ x y, x < wid l → y < l.length → cellB (morP true l k) x y = c4 true (wid l) l.length k (cellB l) x y := by
  refine ⟨skF_len _ _ _, wid_skF hok.1, fun x y hx hy => ?_⟩
  exact cellB_skF hx hy (c4_256 hok true k hx hy)
end Go.Proofs.YtdkoomcgnaokgaaDoor
