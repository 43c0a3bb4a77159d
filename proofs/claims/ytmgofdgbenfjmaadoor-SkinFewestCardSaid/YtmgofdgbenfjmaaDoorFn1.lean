/- Texts joined: FnP, RhP. Conditions: see each. -/
import Derived.Test.YtmgofdgbenfjmaaDoorVh1
import Derived.Test.YtmgofdgbenfjmaaDoorGrV
namespace Go.Proofs.YtmgofdgbenfjmaaDoor
open Go.RowKit

section
variable {adj : Nat → Nat → Bool} {fd : Nat → KuS → Bool × KuS} {n i j : Nat} {st : KuS}
theorem drop_range (h : j < n) : (List.range n).drop j = j :: (List.range n).drop (j + 1) := by
  rw [List.drop_eq_getElem_cons (by rw [List.length_range]; exact h), List.getElem_range]
theorem kuD_end : kuGo adj fd i ((List.range n).drop n) st = (false, st) := by
  rw [List.drop_eq_nil_of_le (by rw [List.length_range]; omega)]; rfl
theorem kuD_skip (h : j < n) (hs : st.1 j = true ∨ adj i j = false) : kuGo adj fd i ((List.range n).drop j) st = kuGo adj fd i ((List.range n).drop (j + 1)) st := by
  rw [drop_range h, kuGo, if_pos]
  rcases hs with hs | hs <;> rw [hs] <;> simp
theorem kuD_free (h : j < n) (hs : st.1 j = false) (ha : adj i j = true) (hm : st.2 j < 0) : kuGo adj fd i ((List.range n).drop j) st = (true, (upB st.1 j, upI st.2 j i)) := by
  rw [drop_range h, kuGo, if_neg (by rw [hs, ha]; simp), if_pos hm]
theorem kuD_yes (h : j < n) (hs : st.1 j = false) (ha : adj i j = true) (hm : ¬ st.2 j < 0) {s2 : KuS} (hf : fd (st.2 j).toNat (upB st.1 j, st.2) = (true, s2)) : kuGo adj fd i ((List.range n).drop j) st = (true, (s2.1, upI s2.2 j i)) := by
  rw [drop_range h, kuGo, if_neg (by rw [hs, ha]; simp), if_neg hm, hf]
theorem kuD_no (h : j < n) (hs : st.1 j = false) (ha : adj i j = true) (hm : ¬ st.2 j < 0) {s2 : KuS} (hf : fd (st.2 j).toNat (upB st.1 j, st.2) = (false, s2)) : kuGo adj fd i ((List.range n).drop j) st = kuGo adj fd i ((List.range n).drop (j + 1)) s2 := by
  rw [drop_range h, kuGo, if_neg (by rw [hs, ha]; simp), if_neg hm, hf]
theorem upI_rg {m : Nat → Int} {N : Nat} (hm : ∀ k, m k < N) (hi : i < N) (j : Nat) : ∀ k, upI m j (i : Int) k < N := fun k => by
  unfold upI
  split
  · omega
  · exact hm k
theorem kuGo_rg {N : Nat} (hf : ∀ v s, v < N → (∀ k, s.2 k < (N : Int)) → ∀ k, (fd v s).2.2 k < (N : Int)) (hi : i < N) : ∀ (js : List Nat) (st : KuS), (∀ k, st.2 k < (N : Int)) → ∀ k, (kuGo adj fd i js st).2.2 k < (N : Int)
  | [], st, h => h
  | j :: js, st, h => by
    rw [kuGo]
    split
    · exact kuGo_rg hf hi js st h
    · split
      · exact upI_rg h hi j
      · rename_i hm
        have h1 := hf (st.2 j).toNat (upB st.1 j, st.2) (by have := h j; omega) h
        revert h1
        generalize fd (st.2 j).toNat (upB st.1 j, st.2) = q
        obtain ⟨ok, s2⟩ := q
        intro h1
        cases ok with
        | true => exact upI_rg h1 hi j
        | false => exact kuGo_rg hf hi js s2 h1
theorem ku_rg {N : Nat} : ∀ (f i : Nat) (st : KuS), i < N → (∀ k, st.2 k < (N : Int)) → ∀ k, (ku adj n f i st).2.2 k < (N : Int)
  | 0, _, _, _, h => h
  | f + 1, _i, st, hi, h => kuGo_rg (fun v s => ku_rg f v s) hi _ st h
theorem kuAll_rg {N : Nat} : ∀ k, k ≤ N → ∀ j, kuAll adj n k j < (N : Int)
  | 0, _, j => by show (-1 : Int) < N; omega
  | k + 1, h, j => ku_rg (n + 1) k (fun _ => false, kuAll adj n k) (by omega) (kuAll_rg k (by omega)) j
theorem ku_mono {f i : Nat} {st : KuS} (h : unm st.1 n < f) : ∀ j, st.1 j = true → (ku adj n f i st).2.1 j = true := (ku_ok f i st h).mono
end
section
variable {adj : Nat → Nat → Bool} {m : Nat → Int} {rcf : Nat → RcS → RcS} {n i j : Nat} {s : RcS}
theorem rcD_end : rcGo adj m rcf i ((List.range n).drop n) s = s := by
  rw [List.drop_eq_nil_of_le (by rw [List.length_range]; omega)]; rfl
theorem rcD_skip (h : j < n) (hs : s.2 j = true ∨ adj i j = false) : rcGo adj m rcf i ((List.range n).drop j) s = rcGo adj m rcf i ((List.range n).drop (j + 1)) s := by
  rw [drop_range h, rcGo, if_neg]
  rcases hs with hs | hs <;> rw [hs] <;> simp
theorem rcD_go (h : j < n) (hs : s.2 j = false) (ha : adj i j = true) (hm : 0 ≤ m j) : rcGo adj m rcf i ((List.range n).drop j) s = rcGo adj m rcf i ((List.range n).drop (j + 1)) (rcf (m j).toNat (s.1, upB s.2 j)) := by
  rw [drop_range h, rcGo, if_pos (by rw [hs, ha]; rfl), if_pos hm]
theorem rcD_mark (h : j < n) (hs : s.2 j = false) (ha : adj i j = true) (hm : ¬ 0 ≤ m j) : rcGo adj m rcf i ((List.range n).drop j) s = rcGo adj m rcf i ((List.range n).drop (j + 1)) (s.1, upB s.2 j) := by
  rw [drop_range h, rcGo, if_pos (by rw [hs, ha]; rfl), if_neg hm]
end
theorem adjC_at {F S : List Chd} {i j : Nat} (hi : i < F.length) (hj : j < S.length) : adjC F S i j = meetC F[i] S[j] := by
  unfold adjC
  rw [List.getElem?_eq_getElem hi, List.getElem?_eq_getElem hj]
/-- all blocks but two are as they were -/
structure But2 (g h : Nat) (w w' : World) : Prop where
  os : w'.os = w.os
  tape : w'.tape = w.tape
  output : w'.output = w.output
  size : w.heap.size ≤ w'.heap.size
  block : ∀ k, k < w.heap.size → k ≠ g → k ≠ h → w'.heap[k]? = w.heap[k]?
section
variable {g h : Nat} {w w' w'' : World} {B : Nat}
theorem But2.refl (g h : Nat) (w : World) : But2 g h w w := ⟨rfl, rfl, rfl, Nat.le_refl _, fun _ _ _ _ => rfl⟩
theorem But2.trans (k : But2 g h w w') (k' : But2 g h w' w'') : But2 g h w w'' :=
  ⟨k'.os.trans k.os, k'.tape.trans k.tape, k'.output.trans k.output, Nat.le_trans k.size k'.size, fun i hi h1 h2 => (k'.block i (Nat.lt_of_lt_of_le hi k.size) h1 h2).trans (k.block i hi h1 h2)⟩
theorem But2.of (k : Below w.heap.size w w') : But2 g h w w' := ⟨k.os, k.tape, k.output, k.size, fun i hi _ _ => k.block i hi⟩
theorem But2.set1 (w : World) (g h j : Nat) (v : Value) : But2 g h w (w.setCell ⟨g, j, none⟩ v) :=
  have hb := (Below.refl g w).setCell (p := ⟨g, j, none⟩) (Nat.le_refl _) v
  ⟨hb.os, hb.tape, hb.output, hb.size, fun _ _ h1 _ => Below.heap_setCell _ _ _ _ h1⟩
theorem But2.set2 (w : World) (g h j : Nat) (v : Value) : But2 g h w (w.setCell ⟨h, j, none⟩ v) :=
  have hb := (Below.refl h w).setCell (p := ⟨h, j, none⟩) (Nat.le_refl _) v
  ⟨hb.os, hb.tape, hb.output, hb.size, fun _ _ _ h2 => Below.heap_setCell _ _ _ _ h2⟩
theorem But2.below (k : But2 g h w w') (h1 : B ≤ g) (h2 : B ≤ h) (hB : B ≤ w.heap.size) : Below B w w' := ⟨k.os, k.tape, k.output, k.size, fun i hi => k.block i (by omega) (by omega) (by omega)⟩
theorem But2.bk {T : TypeId} {b : Nat} {cs : Array Value} (k : But2 g h w w') (hb : Bk T w b cs) (h1 : b ≠ g) (h2 : b ≠ h) : Bk T w' b cs := (k.block b hb.lt h1 h2).trans hb
theorem But2.cell (k : But2 g h w w') {b i : Nat} {v : Value} (hc : w.cell? ⟨b, i, none⟩ = some v) (h1 : b ≠ g) (h2 : b ≠ h) : w'.cell? ⟨b, i, none⟩ = some v := by
  have e := k.block b (World.block_lt_of_cell? w ⟨b, i, none⟩ hc) h1 h2
  rw [← hc]; unfold World.cell?; rw [e]
end
/-- a slice of chords in a block below B -/
def HSu (B : Nat) (w : World) (A : Option Addr) (l : List Chd) : Prop :=
  l = [] ∨ ∃ b off, A = some ⟨b, off, none⟩ ∧ b < B ∧ ∀ j (h : j < l.length), w.cell? ⟨b, off + j * 4, none⟩ = some (.int .i64 l[j].1.1) ∧ w.cell? ⟨b, off + j * 4 + 1, none⟩ = some (.int .i64 l[j].1.2) ∧ w.cell? ⟨b, off + j * 4 + 2, none⟩ = some (.int .i64 l[j].2.1) ∧ w.cell? ⟨b, off + j * 4 + 3, none⟩ = some (.int .i64 l[j].2.2)
theorem HSu.cells {B : Nat} {w w' : World} {A : Option Addr} {l : List Chd} (h : HSu B w A l) (hk : ∀ b i v, b < B → w.cell? ⟨b, i, none⟩ = some v → w'.cell? ⟨b, i, none⟩ = some v) : HSu B w' A l := by
  rcases h with h | ⟨b, off, h1, h2, h3⟩
  · exact .inl h
  · exact .inr ⟨b, off, h1, h2, fun j hj => by
      obtain ⟨c1, c2, c3, c4⟩ := h3 j hj
      exact ⟨hk _ _ _ h2 c1, hk _ _ _ h2 c2, hk _ _ _ h2 c3, hk _ _ _ h2 c4⟩⟩
/-- what find and reach find in memory and leave: the chords, the partners' row, find itself -/
structure FiK (F S : List Chd) (B0 B1 p2 p3 p5 p8 mb : Nat) (w : World) : Prop where
  cF : ∃ A c, w.cell? ⟨p2, 0, none⟩ = some (.slice A F.length c) ∧ HSu B0 w A F
  cS : ∃ A c, w.cell? ⟨p3, 0, none⟩ = some (.slice A S.length c) ∧ HSu B0 w A S
  cM : w.cell? ⟨p5, 0, none⟩ = some (.slice (some ⟨mb, 0, none⟩) S.length S.length)
  cf : w.cell? ⟨p8, 0, none⟩ = some (.func (.func 130) #[] #[.pointer (some ⟨p3, 0, none⟩), .pointer (some ⟨p2, 0, none⟩), .pointer (some ⟨p5, 0, none⟩), .pointer (some ⟨p8, 0, none⟩)])
  n2 : p2 ≠ mb ∧ p2 < B1
  n3 : p3 ≠ mb ∧ p3 < B1
  n5 : p5 ≠ mb ∧ p5 < B1
  n8 : p8 ≠ mb ∧ p8 < B1
  nm : mb < B1 ∧ B0 ≤ mb
section
variable {F S : List Chd} {B0 B1 p2 p3 p5 p8 mb : Nat} {w w' : World}
theorem FiK.but (k : FiK F S B0 B1 p2 p3 p5 p8 mb w) {sb : Nat} (hs : B1 ≤ sb) (hb : But2 mb sb w w') : FiK F S B0 B1 p2 p3 p5 p8 mb w' := by
  obtain ⟨⟨A, c, h1, h2⟩, ⟨A', c', h3, h4⟩, h5, h6, n2, n3, n5, n8, nm⟩ := k
  have hu : ∀ b i v, b < B0 → w.cell? ⟨b, i, none⟩ = some v → w'.cell? ⟨b, i, none⟩ = some v := fun b i v hlt hc => hb.cell hc (by omega) (by omega)
  exact ⟨⟨A, c, hb.cell h1 n2.1 (by omega), h2.cells hu⟩, ⟨A', c', hb.cell h3 n3.1 (by omega), h4.cells hu⟩, hb.cell h5 n5.1 (by omega), hb.cell h6 n8.1 (by omega), n2, n3, n5, n8, nm⟩
theorem FiK.ext (k : FiK F S B0 B1 p2 p3 p5 p8 mb w) (hb : Below w.heap.size w w') : FiK F S B0 B1 p2 p3 p5 p8 mb w' := k.but (sb := B1) (Nat.le_refl _) (But2.of hb)
end

structure ReK (F S : List Chd) (m : Nat → Int) (B0 p2 p3 p5 p10 p11 p12 mb ib sb : Nat) (w : World) : Prop where
  cF : ∃ A c, w.cell? ⟨p2, 0, none⟩ = some (.slice A F.length c) ∧ HSu B0 w A F
  cS : ∃ A c, w.cell? ⟨p3, 0, none⟩ = some (.slice A S.length c) ∧ HSu B0 w A S
  cM : w.cell? ⟨p5, 0, none⟩ = some (.slice (some ⟨mb, 0, none⟩) S.length S.length)
  cI : w.cell? ⟨p10, 0, none⟩ = some (.slice (some ⟨ib, 0, none⟩) F.length F.length)
  cV : w.cell? ⟨p11, 0, none⟩ = some (.slice (some ⟨sb, 0, none⟩) S.length S.length)
  cf : w.cell? ⟨p12, 0, none⟩ = some (.func (.func 132) #[] #[.pointer (some ⟨p10, 0, none⟩), .pointer (some ⟨p3, 0, none⟩), .pointer (some ⟨p11, 0, none⟩), .pointer (some ⟨p2, 0, none⟩), .pointer (some ⟨p5, 0, none⟩), .pointer (some ⟨p12, 0, none⟩)])
  cR : Ow 3 mb S.length m w
  n2 : p2 ≠ ib ∧ p2 ≠ sb
  n3 : p3 ≠ ib ∧ p3 ≠ sb
  n5 : p5 ≠ ib ∧ p5 ≠ sb
  n10 : p10 ≠ ib ∧ p10 ≠ sb
  n11 : p11 ≠ ib ∧ p11 ≠ sb
  n12 : p12 ≠ ib ∧ p12 ≠ sb
  nm : mb ≠ ib ∧ mb ≠ sb
  nb : B0 ≤ ib ∧ B0 ≤ sb ∧ ib ≠ sb
theorem ReK.but {F S : List Chd} {m : Nat → Int} {B0 p2 p3 p5 p10 p11 p12 mb ib sb : Nat} {w w' : World} (k : ReK F S m B0 p2 p3 p5 p10 p11 p12 mb ib sb w) (hb : But2 ib sb w w') : ReK F S m B0 p2 p3 p5 p10 p11 p12 mb ib sb w' := by
  obtain ⟨⟨A, c, h1, h2⟩, ⟨A', c', h3, h4⟩, h5, h6, h7, h8, h9, n2, n3, n5, n10, n11, n12, nm, nb⟩ := k
  have hu : ∀ b i v, b < B0 → w.cell? ⟨b, i, none⟩ = some v → w'.cell? ⟨b, i, none⟩ = some v := fun b i v hlt hc => hb.cell hc (by omega) (by omega)
  exact ⟨⟨A, c, hb.cell h1 n2.1 n2.2, h2.cells hu⟩, ⟨A', c', hb.cell h3 n3.1 n3.2, h4.cells hu⟩, hb.cell h5 n5.1 n5.2, hb.cell h6 n10.1 n10.2, hb.cell h7 n11.1 n11.2, hb.cell h8 n12.1 n12.2, hb.bk h9 nm.1 nm.2, n2, n3, n5, n10, n11, n12, nm, nb⟩
theorem ReK.ext {F S : List Chd} {m : Nat → Int} {B0 p2 p3 p5 p10 p11 p12 mb ib sb : Nat} {w w' : World} (k : ReK F S m B0 p2 p3 p5 p10 p11 p12 mb ib sb w) (hb : Below w.heap.size w w') : ReK F S m B0 p2 p3 p5 p10 p11 p12 mb ib sb w' := k.but (But2.of hb)
end Go.Proofs.YtmgofdgbenfjmaaDoor
