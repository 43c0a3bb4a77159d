/- trail walked. Conditions: the joints are below 16, all degrees even, the lines hang together with the joint. -/
import Derived.Test.YtbhjhajnhpohlaaTm
import Derived.Test.YtbhjhajnhpohlaaRvs
import Derived.Deep.CutBlock
namespace Go.Proofs.Ytbhjhajnhpohlaa
open Go.RowKit

def LnOk (s : Ln) : Prop := 0 ≤ s.a ∧ s.a < 16 ∧ 0 ≤ s.b ∧ s.b < 16
/-- which lines are at each joint, of the first k -/
def adjN (L : List Ln) : Nat → Nat → List Int
  | 0 => fun _ => []
  | k + 1 =>
    if (lnAt L k).b = (lnAt L k).a then updL (adjN L k) (lnAt L k).a.toNat (adjN L k (lnAt L k).a.toNat ++ [(k : Int)])
    else updL (updL (adjN L k) (lnAt L k).a.toNat (adjN L k (lnAt L k).a.toNat ++ [(k : Int)])) (lnAt L k).b.toNat (adjN L k (lnAt L k).b.toNat ++ [(k : Int)])
theorem adjN_same {L : List Ln} {k : Nat} (h : (lnAt L k).b = (lnAt L k).a) : adjN L (k + 1) = updL (adjN L k) (lnAt L k).a.toNat (adjN L k (lnAt L k).a.toNat ++ [(k : Int)]) := by
  show (if (lnAt L k).b = (lnAt L k).a then _ else _) = _
  rw [if_pos h]
theorem adjN_two {L : List Ln} {k : Nat} (h : ¬ (lnAt L k).b = (lnAt L k).a) : adjN L (k + 1) = updL (updL (adjN L k) (lnAt L k).a.toNat (adjN L k (lnAt L k).a.toNat ++ [(k : Int)])) (lnAt L k).b.toNat (adjN L k (lnAt L k).b.toNat ++ [(k : Int)]) := by
  show (if (lnAt L k).b = (lnAt L k).a then _ else _) = _
  rw [if_neg h]
theorem adjN_mem {L : List Ln} : ∀ k, k ≤ L.length → (∀ s ∈ L, LnOk s) → ∀ (v : Nat) (q : Int), q ∈ adjN L k v ↔ ∃ i : Nat, i < k ∧ q = (i : Int) ∧ lnInc (lnAt L i) (v : Int) ≠ 0
  | 0, _, _, v, q => by simp [adjN]
  | k + 1, hk, hL, v, q => by
    have ih := adjN_mem k (by omega) hL
    have hs := hL _ (List.getElem_mem (show k < L.length by omega))
    rw [← lnAt_get] at hs
    obtain ⟨a1, a2, b1, b2⟩ := hs
    have key : q ∈ adjN L (k + 1) v ↔ q ∈ adjN L k v ∨ (q = (k : Int) ∧ lnInc (lnAt L k) (v : Int) ≠ 0) := by
      unfold lnInc
      by_cases hab : (lnAt L k).b = (lnAt L k).a
      · rw [adjN_same hab, hab]
        unfold updL
        by_cases hv : v = (lnAt L k).a.toNat
        · rw [if_pos hv, List.mem_append, List.mem_singleton, ← hv, if_pos (by omega)]
          simp
        · rw [if_neg hv, if_neg (by omega)]; simp
      · rw [adjN_two hab]
        unfold updL
        by_cases hv : v = (lnAt L k).b.toNat
        · rw [if_pos hv, List.mem_append, List.mem_singleton, ← hv, if_pos (show (lnAt L k).b = (v : Int) by omega)]
          simp
        · rw [if_neg hv, if_neg (show ¬ (lnAt L k).b = (v : Int) by omega)]
          by_cases hv2 : v = (lnAt L k).a.toNat
          · rw [if_pos hv2, List.mem_append, List.mem_singleton, ← hv2, if_pos (show (lnAt L k).a = (v : Int) by omega)]
            simp
          · rw [if_neg hv2, if_neg (show ¬ (lnAt L k).a = (v : Int) by omega)]; simp
    rw [key, ih]
    constructor
    · rintro (⟨i, h1, h2, h3⟩ | ⟨h1, h2⟩)
      · exact ⟨i, by omega, h2, h3⟩
      · exact ⟨k, by omega, h1, h2⟩
    · rintro ⟨i, h1, h2, h3⟩
      by_cases hik : i = k
      · subst hik; exact .inr ⟨h2, h3⟩
      · exact .inl ⟨i, by omega, h2, h3⟩
theorem adjN_len (L : List Ln) : ∀ k v, (adjN L k v).length ≤ k
  | 0, v => by simp [adjN]
  | k + 1, v => by
    have ih := adjN_len L k
    by_cases hab : (lnAt L k).b = (lnAt L k).a
    · rw [adjN_same hab]; unfold updL
      split
      · have := ih (lnAt L k).a.toNat; simp; omega
      · have := ih v; omega
    · rw [adjN_two hab]; unfold updL
      split
      · have := ih (lnAt L k).b.toNat; simp; omega
      · split
        · have := ih (lnAt L k).a.toNat; simp; omega
        · have := ih v; omega

/-- the memory of trail's first loop -/
def TrA (w : World) (n : Nat) (vs : Nat → Value) (ls : Nat → List Int) (wr : World) : Prop :=
  Below w.heap.size w wr ∧ OwB w.heap.size n (fun _ => false) wr ∧ AtG (w.heap.size) (w.heap.size + 1) wr vs ls
theorem TrA.ext {w : World} {n : Nat} {vs : Nat → Value} {ls : Nat → List Int} {wr w' : World} (h : TrA w n vs ls wr) (hb : Below wr.heap.size wr w') : TrA w n vs ls w' := ⟨bext h.1 hb h.1.size, h.2.1.ext hb, h.2.2.ext hb⟩
theorem TrA.start (w : World) (n : Nat) : TrA w n (fun _ => .slice none 0 0) (fun _ => []) ((w.alloc (.cells (cellsB n fun _ => false) 4)).alloc (.cells (cellsU 16 fun _ => .slice none 0 0) 35)) := by
  have h1 := AtG.start w.heap.size (w.alloc (.cells (cellsB n fun _ => false) 4))
  rw [World.size_alloc] at h1
  exact ⟨((Below.refl _ _).alloc (Nat.le_refl _) _).alloc (by simp) _, (OwB.new w n _).ext (ext_alloc _ _), h1⟩
/-- a row of the sixteen has grown -/
theorem TrA.grow {w : World} {n : Nat} {vs : Nat → Value} {ls : Nat → List Int} {wr w1 w' : World} (h : TrA w n vs ls wr) (hx : Below wr.heap.size wr w1) {j : Nat} (hj : j < 16) {v : Value} {l : List Int} (hv : Vi w.heap.size w' v l) (hg : w1.grownBy w' (vs j).ownBlock) (hw : ∀ k, v.ownBlock = some k → (vs j).ownBlock = some k ∨ w1.heap.size ≤ k) :
    TrA w n (updL vs j v) (updL ls j l) (w'.setCell ⟨w.heap.size + 1, j, none⟩ v) := by
  have h1 := h.ext hx
  have hlt := own_lt (h1.2.2.2.1 j hj)
  refine ⟨(h1.1.grown hg h1.1.size (fun k hk => (hlt k hk).1)).setCell (by show w.heap.size ≤ w.heap.size + 1; omega) _, ?_, ?_⟩
  · exact OwB.set_ne ((hg.block _ h1.2.1.lt (own_ne (h1.2.2.2.1 j hj) h1.2.1 (by decide))).trans h1.2.1) (by omega) _
  · refine h1.2.2.grow hj hv (fun k hk hne => hg.block k hk hne) ?_
    cases hv' : v.ownBlock with
    | none => exact .inr (fun k hk => by cases hk)
    | some k =>
      rcases hw k hv' with h2 | h2
      · exact .inl h2
      · exact .inr (fun k' hk' => by injection hk' with e; omega)

theorem hop_rng {L : List Ln} (hL : ∀ s ∈ L, LnOk s) {k : Nat} (hk : k < L.length) (r : Bool) : (0 ≤ (lnAt L k).fr r ∧ (lnAt L k).fr r < 16) ∧ (0 ≤ (lnAt L k).to_ r ∧ (lnAt L k).to_ r < 16) := by
  have h := hL _ (List.getElem_mem hk)
  rw [← lnAt_get hk] at h
  obtain ⟨a, b, c, d⟩ := h
  unfold Ln.fr Ln.to_
  cases r
  · exact ⟨⟨a, b⟩, ⟨c, d⟩⟩
  · exact ⟨⟨c, d⟩, ⟨a, b⟩⟩
theorem own_new {w : World} {base : Nat} {T : TypeId} {sz n : Nat} {cs : Array Value} (hb : base ≤ w.heap.size) (hs : cs.size = n * sz) (hn : n ≤ maxLen) : (w.alloc (.cells cs T)).ownsRow base T sz (.slice (some ⟨w.heap.size, 0, none⟩) n n) n cs.toList :=
  ⟨by simpa using hs, .inr ⟨w.heap.size, n, cs, rfl, hb, by simpa using heap_alloc_new w (.cells cs T), Nat.le_refl _, hn, hs, by rw [List.take_of_length_le]; simp [hs]⟩⟩
theorem adj_ati {L : List Ln} (hL : ∀ s ∈ L, LnOk s) : AtI L (usd [] []) (adjN L L.length) := by
  intro v _
  refine ⟨fun k h1 _ h3 => (adjN_mem _ (Nat.le_refl _) hL v k).2 ⟨k, h1, rfl, h3⟩, fun q hq => ?_⟩
  obtain ⟨i, h1, h2, h3⟩ := (adjN_mem _ (Nat.le_refl _) hL v q).1 hq
  exact ⟨i, h1, h2, h3⟩
theorem TrM.start {w wr : World} {L : List Ln} {f : Int} {vs : Nat → Value} (hL : ∀ s ∈ L, LnOk s) (hf : 0 ≤ f ∧ f < 16) (h : TrA w L.length vs (adjN L L.length) wr) :
    TrM w L f (2 * L.length + 1) (.slice (some ⟨wr.heap.size, 0, none⟩) 1 1) (.slice (some ⟨wr.heap.size + 1, 0, none⟩) 0 0) ((wr.alloc (.cells #[.int .i64 f, .int .i64 (-2), .bool false] 138)).alloc (.cells #[] 72)) := by
  have h1 : (wr.alloc (.cells #[.int .i64 f, .int .i64 (-2), .bool false] 138)).ownsRow w.heap.size 138 3 (.slice (some ⟨wr.heap.size, 0, none⟩) 1 1) 1 [.int .i64 f, .int .i64 (-2), .bool false] := own_new h.1.size rfl (by decide)
  have h2 := own_new (w := wr.alloc (.cells #[.int .i64 f, .int .i64 (-2), .bool false] 138)) (base := w.heap.size) (T := 72) (sz := 2) (n := 0) (cs := #[]) (by have := h.1.size; simp; omega) rfl (by decide)
  rw [World.size_alloc] at h2
  have hs := h.ext ((ext_alloc wr (.cells #[.int .i64 f, .int .i64 (-2), .bool false] 138)).trans ((ext_alloc _ (.cells #[] 72)).mono (by simp)))
  exact .inl ⟨vs, _, [], [], f, f, TrI.start L f, hf.1, hf.2, adj_ati hL, ⟨hs.1, by rw [show usB [] [] = fun _ => false from by funext k; simp [usB, usd]]; exact hs.2.1, hs.2.2.read, own_ext h1 (ext_alloc _ _), h2⟩, by simp⟩

set_option maxRecDepth 100000 in
set_option maxHeartbeats 4000000 in
theorem trail_any (A : Option Addr) (cap : Nat) (L : List Ln) (f : Int) (w : World) (hL : ∀ s ∈ L, LnOk s) (hn : L.length ≤ 1000) (hc : L.length ≤ cap) (hcm : cap ≤ 9223372036854775807) (h : LSl w A L) (hf : 0 ≤ f ∧ f < 16) (hev : ∀ v, lnDeg L v % 2 = 0) (hh : Hangs L f) :
    Calls Try.prog 65 #[.slice A L.length cap, .int .i64 f] w fun e w' => ∃ hs A' c', Tour L f hs ∧ e = .returned (.slice A' hs.length c') ∧ hs.length ≤ c' ∧ c' ≤ maxLen ∧ MSl w' A' (hs.map (Hop.mv L)) ∧ Below w.heap.size w w' := by
  have H := Lib.hid h
  have HL := Lib.hid hL
  have HEV := Lib.hid hev
  have HH := Lib.hid hh
  have HS0 := Lib.hid (TrA.start w L.length)
  have hmk : ∀ W, (Instr.makeSlice 67 (.int .i64 (L.length : Int)) (.int .i64 (L.length : Int))).run Try.prog W = .ok (.slice (some ⟨W.heap.size, 0, none⟩) L.length L.length) (W.alloc (.cells (cellsB L.length fun _ => false) 4)) := fun W => run_falses L.length (by omega) W
  have hmk2 : ∀ W, (Instr.makeSlice 107 (.int .i64 16) (.int .i64 16)).run Try.prog W = .ok (.slice (some ⟨W.heap.size, 0, none⟩) 16 16) (W.alloc (.cells (cellsU 16 fun _ => .slice none 0 0) 35)) := fun W => run_nilsU 16 (by omega) W
  clear h hL hev hh
  obtain ⟨f1, f2⟩ := hf
  go_enter Try.func65, Try.ntmps65
  go_upto_block 0 with (fail)
  clear hmk hmk2
  go_wp2_with (fail)
  go_loopg [22] L.length (fun g i wr => ∃ (k : Nat) (vs : Nat → Value), i = .int .i64 k ∧ k ≤ L.length ∧ g = L.length - k ∧ TrA w L.length vs (adjN L k) wr)
  case atStart => exact ⟨0, _, rfl, by omega, by omega, HS0.out⟩
  case round =>
    obtain ⟨k, vs, rfl, hk, hg, hs⟩ := hrel
    have HG := Lib.hid hg
    have HS := Lib.hid hs
    clear hg hs HS0
    by_cases hlt : k < L.length
    · rcases H.out.ext HS.out.1 with hf | ⟨b, off, rfl, hblt, hcl⟩
      · rw [hf] at hlt; simp at hlt
      · obtain ⟨c1, c2, c3⟩ := hcl k hlt
        have hso := HL.out _ (List.getElem_mem hlt)
        obtain ⟨s, hs⟩ : ∃ s, s = L[k] := ⟨_, rfl⟩
        rw [← hs] at c1 c2 c3 hso
        have HLK := Lib.hid (show lnAt L k = s from by rw [hs]; exact lnAt_get hlt)
        obtain ⟨sk, a, b'⟩ := s
        dsimp only at c1 c2 c3
        obtain ⟨o1, o2, o3, o4⟩ := hso
        dsimp only at o1 o2 o3 o4
        obtain ⟨ja, rfl⟩ := Int.eq_ofNat_of_zero_le o1
        obtain ⟨jb, rfl⟩ := Int.eq_ofNat_of_zero_le o3
        have HBL := Lib.hid (Bk.new 119 wr #[.int .i64 sk, .int .i64 (ja : Int), .int .i64 (jb : Int)])
        have HX1 := Lib.hid (ext_alloc wr (.cells #[.int .i64 sk, .int .i64 (ja : Int), .int .i64 (jb : Int)] 119))
        have hs1 := HS.out.ext HX1.out
        have HS1 := Lib.hid hs1
        have hvi := hs1.2.2.2.1 ja (by omega)
        obtain ⟨gl, hgl⟩ : ∃ gl, gl = wr.heap.size := ⟨_, rfl⟩
        obtain ⟨W1, hW1⟩ : ∃ W1, W1 = wr.alloc (.cells #[.int .i64 sk, .int .i64 (ja : Int), .int .i64 (jb : Int)] 119) := ⟨_, rfl⟩
        have HGL := Lib.hid hgl
        have HW1 := Lib.hid hW1
        rw [← hgl, ← hW1] at HBL
        rw [← hW1] at HS1 HX1 hvi
        obtain ⟨A6, c6, hvj, h6c, h6m, -⟩ := hvi.ist
        have hl6 := adjN_len L k ja
        have HV6 := Lib.hid (show Vi w.heap.size W1 (.slice A6 (adjN L k ja).length c6) (adjN L k ja) from by rw [← hvj]; exact hvi)
        have HVJ6 := Lib.hid hvj
        have HF6 := Lib.hid (fun (W : World) (hS : Bk 119 W gl #[.int .i64 sk, .int .i64 (ja : Int), .int .i64 (jb : Int)] ∧ Bk 35 W (w.heap.size + 1) (cellsU 16 vs)) =>
          (show W.cell? ⟨gl, 1, none⟩ = some (.int .i64 (ja : Int)) ∧ W.cell? ⟨gl, 2, none⟩ = some (.int .i64 (jb : Int)) ∧ W.cell? ⟨w.heap.size + 1, ja, none⟩ = some (.slice A6 (adjN L k ja).length c6) from
            ⟨hS.1.cell 1, hS.1.cell 2, by rw [hS.2.cell ja, cellsU_get (by omega), HVJ6.out]⟩))
        have HG6 := Lib.hid (fun (W : World) (hS : Bk 119 W gl #[.int .i64 sk, .int .i64 (ja : Int), .int .i64 (jb : Int)] ∧ Bk 35 W (w.heap.size + 1) (cellsU 16 vs)) =>
          (show W.frozen? ⟨w.heap.size + 1, ja, none⟩ = false ∧ w.heap.size + 1 < W.heap.size from ⟨hS.2.frozen ja, hS.2.lt⟩))
        have HST6 := Lib.hid (show Bk 119 W1.drew gl #[.int .i64 sk, .int .i64 (ja : Int), .int .i64 (jb : Int)] ∧ Bk 35 W1.drew (w.heap.size + 1) (cellsU 16 vs) from ⟨HBL.out.ext (ext_drew _), HS1.out.2.2.1.ext (ext_drew _)⟩)
        have HK96 := Lib.hid (show Bk 119 (W1.alloc (.cells #[.int .i64 (k : Int)] 3)).drew gl #[.int .i64 sk, .int .i64 (ja : Int), .int .i64 (jb : Int)] ∧ Bk 35 (W1.alloc (.cells #[.int .i64 (k : Int)] 3)).drew (w.heap.size + 1) (cellsU 16 vs) from ⟨(HBL.out.alloc _).ext (ext_drew _), (HS1.out.2.2.1.alloc _).ext (ext_drew _)⟩)
        have HK106 := Lib.hid (fun (w' : World) (hg : (W1.alloc (.cells #[.int .i64 (k : Int)] 3)).drew.grownBy w' (Value.slice A6 (adjN L k ja).length c6).ownBlock) => (show Bk 119 w' gl #[.int .i64 sk, .int .i64 (ja : Int), .int .i64 (jb : Int)] ∧ Bk 35 w' (w.heap.size + 1) (cellsU 16 vs) from
          ⟨(hg.block gl HK96.out.1.lt (own_ne HV6.out HBL.out (by decide))).trans HK96.out.1, (hg.block _ HK96.out.2.lt (own_ne HV6.out HS1.out.2.2.1 (by decide))).trans HK96.out.2⟩))
        have HN6 := Lib.hid (show (adjN L k ja).length + 1 ≤ maxLen ∧ ((adjN L k ja).length + 1) * 8 ≤ 140737488355328 from ⟨by unfold maxLen; omega, by omega⟩)
        have HN06 := Lib.hid (show w.heap.size ≤ (W1.alloc (.cells #[.int .i64 (k : Int)] 3)).drew.heap.size from by have := HS1.out.1.size; simp; omega)
        clear hvj hvi
        obtain ⟨i0, hi0, hz0, hz1, hz2⟩ := info_parts info_int
        clear hs hcl hs1 hgl hW1
        go_upto_region 6 with (fail)
        rw [← HW1.out, ← HGL.out]
        refine wp_region_T (S := fun W => Bk 119 W gl #[.int .i64 sk, .int .i64 (ja : Int), .int .i64 (jb : Int)] ∧ Bk 35 W (w.heap.size + 1) (cellsU 16 vs)) 12 (by kernel_rfl) (HST6.out) (fun hHeld => ?_)
        refine wpAnyT_take (i := 0) (v := ?v1) [] rfl (by kernel_rfl) (fun _ _ _ h => h) (Or.inl ⟨by rfl, ?hy1⟩) hHeld ?rst1
        case hy1 => (intro wx hSw; obtain ⟨q1, q2, q3⟩ := HF6.out wx hSw; go_simp; try (with_reducible rfl))
        try simp only [List.getElem_toArray, List.getElem_cons_zero, Act.put, List.setIfInBounds_toArray, List.set_cons_zero, List.set_cons_succ]
        refine wpAnyT_take (i := 1) (v := ?v2) [] rfl (by kernel_rfl) (fun _ _ _ h => h) (Or.inl ⟨by rfl, ?hy2⟩) hHeld ?rst2
        case hy2 => (intro wx hSw; obtain ⟨q1, q2, q3⟩ := HF6.out wx hSw; go_simp; try (with_reducible rfl))
        try simp only [List.getElem_toArray, List.getElem_cons_zero, List.getElem_cons_succ, Act.put, List.setIfInBounds_toArray, List.set_cons_zero, List.set_cons_succ]
        refine wpAnyT_take (i := 2) (v := ?v3) [] rfl (by kernel_rfl) (fun _ _ _ h => h) (Or.inl ⟨by rfl, ?hy3⟩) hHeld ?rst3
        case hy3 => (intro wx hSw; obtain ⟨q1, q2, q3⟩ := HF6.out wx hSw; go_simp; try (with_reducible rfl))
        try simp only [List.getElem_toArray, List.getElem_cons_zero, List.getElem_cons_succ, Act.put, List.setIfInBounds_toArray, List.set_cons_zero, List.set_cons_succ]
        refine wpAnyT_take (i := 3) (v := ?v4) [] rfl (by kernel_rfl) (fun _ _ _ h => h) (Or.inl ⟨by rfl, ?hy4⟩) hHeld ?rst4
        case hy4 => (intro wx hSw; obtain ⟨q1, q2, q3⟩ := HF6.out wx hSw; go_simp; try (with_reducible rfl))
        try simp only [List.getElem_toArray, List.getElem_cons_zero, List.getElem_cons_succ, Act.put, List.setIfInBounds_toArray, List.set_cons_zero, List.set_cons_succ]
        refine wpAnyT_take (i := 4) (v := ?v5) [] rfl (by kernel_rfl) (fun _ _ _ h => h) (Or.inl ⟨by rfl, ?hy5⟩) hHeld ?rst5
        case hy5 => (intro wx hSw; obtain ⟨q1, q2, q3⟩ := HF6.out wx hSw; go_simp; try (with_reducible rfl))
        try simp only [List.getElem_toArray, List.getElem_cons_zero, List.getElem_cons_succ, Act.put, List.setIfInBounds_toArray, List.set_cons_zero, List.set_cons_succ]
        refine wpAnyT_take (i := 5) (v := ?v6) [] rfl (by kernel_rfl) (fun _ _ _ h => h) (Or.inl ⟨by rfl, ?hy6⟩) hHeld ?rst6
        case hy6 => (intro wx hSw; obtain ⟨q1, q2, q3⟩ := HF6.out wx hSw; go_simp; try (with_reducible rfl))
        try simp only [List.getElem_toArray, List.getElem_cons_zero, List.getElem_cons_succ, Act.put, List.setIfInBounds_toArray, List.set_cons_zero, List.set_cons_succ]
        refine wpAnyT_take (i := 6) (v := ?v7) [] rfl (by kernel_rfl) (fun _ _ _ h => h) (Or.inl ⟨by rfl, ?hy7⟩) hHeld ?rst7
        case hy7 => (intro wx hSw; obtain ⟨q1, q2, q3⟩ := HF6.out wx hSw; go_simp; try (with_reducible rfl))
        try simp only [List.getElem_toArray, List.getElem_cons_zero, List.getElem_cons_succ, Act.put, List.setIfInBounds_toArray, List.set_cons_zero, List.set_cons_succ]
        refine wpAnyT_take (i := 7) (v := ?v8) [] rfl (by kernel_rfl) (fun _ _ _ h => h) (Or.inl ⟨by rfl, ?hy8⟩) hHeld ?rst8
        case hy8 => (intro wx hSw; obtain ⟨q1, q2, q3⟩ := HF6.out wx hSw; go_simp; try (with_reducible rfl))
        try simp only [List.getElem_toArray, List.getElem_cons_zero, List.getElem_cons_succ, Act.put, List.setIfInBounds_toArray, List.set_cons_zero, List.set_cons_succ]
        refine wpAnyT_take (i := 8) (v := ?v9) [] rfl (by kernel_rfl) (fun _ _ _ h => h) (Or.inl ⟨by rfl, ?hy9⟩) hHeld ?rst9
        case hy9 => (intro wx hSw; obtain ⟨q1, q2, q3⟩ := HF6.out wx hSw; go_simp; try (with_reducible rfl))
        try simp only [List.getElem_toArray, List.getElem_cons_zero, List.getElem_cons_succ, Act.put, List.setIfInBounds_toArray, List.set_cons_zero, List.set_cons_succ]
        refine wpAnyT_one (i := 9) (by kernel_rfl) rfl (fun K hK => ?_)
        go_simp
        refine hK.out _ _ (HK96.out) (fun hHeld => ?_)
        clear hK K
        try simp only [List.getElem_toArray, List.getElem_cons_zero, List.getElem_cons_succ, Act.put, List.setIfInBounds_toArray, List.set_cons_zero, List.set_cons_succ]
        refine wpAnyT_one (i := 10) (by kernel_rfl) rfl (fun K hK => ?_)
        refine step_append_lies _ (by rfl) _ _ _ (by rfl) w.heap.size 3 i0 _ 1 8 Try.underlying35 hi0 hz0 hz1 hz2 rfl (by omega) (.slice A6 (adjN L k ja).length c6) (adjN L k ja).length (ints (adjN L k ja)) (by rfl) (HV6.out.ext (ext_trans (ext_alloc W1 _) (ext_drew _))) ⟨W1.heap.size, 0, none⟩ 1 1 [.int .i64 (k : Int)] (by rfl) (by rfl) (World.news_of_block (cs := #[.int .i64 (k : Int)]) (t := 3) (fr := (0, 0)) (heap_alloc_new _ _)) (by simp [Value.oneCell']) (by omega) HN6.out.1 HN6.out.2 HN06.out (W1.heap.size + 1) (by simp) ?_
        intro gg6 cap6 w6 hown6 hgrow6 hat6 hlt6
        refine hK.out _ _ (HK106.out _ hgrow6) (fun hHeld => ?_)
        clear hK K
        try simp only [List.getElem_toArray, List.getElem_cons_zero, List.getElem_cons_succ, Act.put, List.setIfInBounds_toArray, List.set_cons_zero, List.set_cons_succ]
        refine wpAnyT_take (i := 11) (v := ?v10) [] rfl (by kernel_rfl) (fun _ _ _ h => h) (Or.inl ⟨by rfl, ?hy10⟩) hHeld ?rst10
        case hy10 => (intro wx hSw; obtain ⟨q1, q2, q3⟩ := HF6.out wx hSw; go_simp; try (with_reducible rfl))
        try simp only [List.getElem_toArray, List.getElem_cons_zero, List.getElem_cons_succ, Act.put, List.setIfInBounds_toArray, List.set_cons_zero, List.set_cons_succ]
        refine wpAnyT_last (by kernel_rfl) (by kernel_rfl) rfl (fun K hK => ?_)
        obtain ⟨q1, q2, q3⟩ := HF6.out _ hHeld
        obtain ⟨q4, q5⟩ := HG6.out _ hHeld
        go_simp
        refine hK.out _ _ ?_
        clear hK K
        have hgr := HS1.out.grow (ext_trans (ext_alloc W1 (.cells #[.int .i64 (k : Int)] 3)) (ext_drew _)) (j := ja) (by omega) (v := .slice (some ⟨gg6, 0, none⟩) ((adjN L k ja).length + 1) cap6) (l := adjN L k ja ++ [(k : Int)]) (w' := w6) (by
          unfold Vi
          rw [ints_append, List.length_append]
          exact hown6) (by rw [HVJ6.out]; exact hgrow6) (fun q hq => by
          rw [HVJ6.out]
          injection hq with hq
          subst hq
          rcases hat6 with h1 | h1
          · exact .inl h1
          · exact .inr (by rw [h1]; simp))
        have hbl2 := Bk.set_ne hHeld.1 (show gl ≠ w.heap.size + 1 from fun e => by
          have h1 := HBL.out
          have h2 := HS1.out.2.2.1
          rw [e] at h1
          unfold Bk at h1 h2
          rw [h1] at h2
          injection h2 with h2
          injection h2 with _ h2
          revert h2; decide) (j := ja) (.slice (some ⟨gg6, 0, none⟩) ((adjN L k ja).length + 1) cap6)
        obtain ⟨v6, hv6⟩ : ∃ v6, v6 = Value.slice (some ⟨gg6, 0, none⟩) ((adjN L k ja).length + 1) cap6 := ⟨_, rfl⟩
        obtain ⟨W2, hW2⟩ : ∃ W2, W2 = w6.setCell ⟨w.heap.size + 1, ja, none⟩ v6 := ⟨_, rfl⟩
        rw [← hv6] at hgr hbl2
        rw [← hW2] at hgr hbl2
        have HS2 := Lib.hid hgr
        have HBL2 := Lib.hid hbl2
        have HW2 := Lib.hid hW2
        have HVV6 := Lib.hid hv6
        have e1 : W2.cell? ⟨gl, 1, none⟩ = some (.int .i64 (ja : Int)) := hbl2.cell 1
        have e2 : W2.cell? ⟨gl, 2, none⟩ = some (.int .i64 (jb : Int)) := hbl2.cell 2
        clear hHeld hown6 hgrow6 hat6 hgr hbl2 hv6 hW2
        rw [← HVV6.out, ← HW2.out]
        have HLM := Lib.hid (adjN_len L (k + 1))
        by_cases hab : jb = ja
        · subst hab
          have HSE := Lib.hid (show adjN L (k + 1) = updL (adjN L k) jb (adjN L k jb ++ [(k : Int)]) from by
            have h := adjN_same (L := L) (k := k) (by rw [HLK.out])
            rw [HLK.out] at h
            exact h)
          go_wp2_with (fail)
          go_roundg (L.length - (k + 1))
          case measure => have := HG.out; omega
          case rel => exact ⟨k + 1, _, by go_num, by omega, rfl, by rw [HSE.out]; exact HS2.out⟩
        · have t1 : ((jb : Int) != (ja : Int)) = true := by rw [bne_iff_ne]; omega
          have HSE := Lib.hid (show adjN L (k + 1) = updL (updL (adjN L k) ja (adjN L k ja ++ [(k : Int)])) jb (adjN L k jb ++ [(k : Int)]) from by
            have h := adjN_two (L := L) (k := k) (by rw [HLK.out]; show ¬ (jb : Int) = (ja : Int); omega)
            rw [HLK.out] at h
            exact h)
          have hvi8 := HS2.out.2.2.2.1 jb (by omega)
          rw [updL_ne (adjN L k) _ hab] at hvi8
          go_wp2_with (fail)
          clear t1 hab
          obtain ⟨A8, c8, hvj, h8c, h8m, -⟩ := hvi8.ist
          have hl8 := adjN_len L k jb
          have HV8 := Lib.hid (show Vi w.heap.size W2 (.slice A8 (adjN L k jb).length c8) (adjN L k jb) from by rw [← hvj]; exact hvi8)
          have HVJ8 := Lib.hid hvj
          have HF8 := Lib.hid (fun (W : World) (hS : Bk 119 W gl #[.int .i64 sk, .int .i64 (ja : Int), .int .i64 (jb : Int)] ∧ Bk 35 W (w.heap.size + 1) (cellsU 16 (updL vs ja v6))) =>
            (show W.cell? ⟨gl, 1, none⟩ = some (.int .i64 (ja : Int)) ∧ W.cell? ⟨gl, 2, none⟩ = some (.int .i64 (jb : Int)) ∧ W.cell? ⟨w.heap.size + 1, jb, none⟩ = some (.slice A8 (adjN L k jb).length c8) from
              ⟨hS.1.cell 1, hS.1.cell 2, by rw [hS.2.cell jb, cellsU_get (by omega), HVJ8.out]⟩))
          have HG8 := Lib.hid (fun (W : World) (hS : Bk 119 W gl #[.int .i64 sk, .int .i64 (ja : Int), .int .i64 (jb : Int)] ∧ Bk 35 W (w.heap.size + 1) (cellsU 16 (updL vs ja v6))) =>
            (show W.frozen? ⟨w.heap.size + 1, jb, none⟩ = false ∧ w.heap.size + 1 < W.heap.size from ⟨hS.2.frozen jb, hS.2.lt⟩))
          have HST8 := Lib.hid (show Bk 119 W2.drew gl #[.int .i64 sk, .int .i64 (ja : Int), .int .i64 (jb : Int)] ∧ Bk 35 W2.drew (w.heap.size + 1) (cellsU 16 (updL vs ja v6)) from ⟨HBL2.out.ext (ext_drew _), HS2.out.2.2.1.ext (ext_drew _)⟩)
          have HK98 := Lib.hid (show Bk 119 (W2.alloc (.cells #[.int .i64 (k : Int)] 3)).drew gl #[.int .i64 sk, .int .i64 (ja : Int), .int .i64 (jb : Int)] ∧ Bk 35 (W2.alloc (.cells #[.int .i64 (k : Int)] 3)).drew (w.heap.size + 1) (cellsU 16 (updL vs ja v6)) from ⟨(HBL2.out.alloc _).ext (ext_drew _), (HS2.out.2.2.1.alloc _).ext (ext_drew _)⟩)
          have HK108 := Lib.hid (fun (w' : World) (hg : (W2.alloc (.cells #[.int .i64 (k : Int)] 3)).drew.grownBy w' (Value.slice A8 (adjN L k jb).length c8).ownBlock) => (show Bk 119 w' gl #[.int .i64 sk, .int .i64 (ja : Int), .int .i64 (jb : Int)] ∧ Bk 35 w' (w.heap.size + 1) (cellsU 16 (updL vs ja v6)) from
            ⟨(hg.block gl HK98.out.1.lt (own_ne HV8.out HBL2.out (by decide))).trans HK98.out.1, (hg.block _ HK98.out.2.lt (own_ne HV8.out HS2.out.2.2.1 (by decide))).trans HK98.out.2⟩))
          have HN8 := Lib.hid (show (adjN L k jb).length + 1 ≤ maxLen ∧ ((adjN L k jb).length + 1) * 8 ≤ 140737488355328 from ⟨by unfold maxLen; omega, by omega⟩)
          have HN08 := Lib.hid (show w.heap.size ≤ (W2.alloc (.cells #[.int .i64 (k : Int)] 3)).drew.heap.size from by have := HS2.out.1.size; simp; omega)
          clear hvj hvi8
          refine wp_region_T (S := fun W => Bk 119 W gl #[.int .i64 sk, .int .i64 (ja : Int), .int .i64 (jb : Int)] ∧ Bk 35 W (w.heap.size + 1) (cellsU 16 (updL vs ja v6))) 12 (by kernel_rfl) (HST8.out) (fun hHeld => ?_)
          refine wpAnyT_take (i := 0) (v := ?v11) [] rfl (by kernel_rfl) (fun _ _ _ h => h) (Or.inl ⟨by rfl, ?hy11⟩) hHeld ?rst11
          case hy11 => (intro wx hSw; obtain ⟨q1, q2, q3⟩ := HF8.out wx hSw; go_simp; try (with_reducible rfl))
          try simp only [List.getElem_toArray, List.getElem_cons_zero, Act.put, List.setIfInBounds_toArray, List.set_cons_zero, List.set_cons_succ]
          refine wpAnyT_take (i := 1) (v := ?v12) [] rfl (by kernel_rfl) (fun _ _ _ h => h) (Or.inl ⟨by rfl, ?hy12⟩) hHeld ?rst12
          case hy12 => (intro wx hSw; obtain ⟨q1, q2, q3⟩ := HF8.out wx hSw; go_simp; try (with_reducible rfl))
          try simp only [List.getElem_toArray, List.getElem_cons_zero, List.getElem_cons_succ, Act.put, List.setIfInBounds_toArray, List.set_cons_zero, List.set_cons_succ]
          refine wpAnyT_take (i := 2) (v := ?v13) [] rfl (by kernel_rfl) (fun _ _ _ h => h) (Or.inl ⟨by rfl, ?hy13⟩) hHeld ?rst13
          case hy13 => (intro wx hSw; obtain ⟨q1, q2, q3⟩ := HF8.out wx hSw; go_simp; try (with_reducible rfl))
          try simp only [List.getElem_toArray, List.getElem_cons_zero, List.getElem_cons_succ, Act.put, List.setIfInBounds_toArray, List.set_cons_zero, List.set_cons_succ]
          refine wpAnyT_take (i := 3) (v := ?v14) [] rfl (by kernel_rfl) (fun _ _ _ h => h) (Or.inl ⟨by rfl, ?hy14⟩) hHeld ?rst14
          case hy14 => (intro wx hSw; obtain ⟨q1, q2, q3⟩ := HF8.out wx hSw; go_simp; try (with_reducible rfl))
          try simp only [List.getElem_toArray, List.getElem_cons_zero, List.getElem_cons_succ, Act.put, List.setIfInBounds_toArray, List.set_cons_zero, List.set_cons_succ]
          refine wpAnyT_take (i := 4) (v := ?v15) [] rfl (by kernel_rfl) (fun _ _ _ h => h) (Or.inl ⟨by rfl, ?hy15⟩) hHeld ?rst15
          case hy15 => (intro wx hSw; obtain ⟨q1, q2, q3⟩ := HF8.out wx hSw; go_simp; try (with_reducible rfl))
          try simp only [List.getElem_toArray, List.getElem_cons_zero, List.getElem_cons_succ, Act.put, List.setIfInBounds_toArray, List.set_cons_zero, List.set_cons_succ]
          refine wpAnyT_take (i := 5) (v := ?v16) [] rfl (by kernel_rfl) (fun _ _ _ h => h) (Or.inl ⟨by rfl, ?hy16⟩) hHeld ?rst16
          case hy16 => (intro wx hSw; obtain ⟨q1, q2, q3⟩ := HF8.out wx hSw; go_simp; try (with_reducible rfl))
          try simp only [List.getElem_toArray, List.getElem_cons_zero, List.getElem_cons_succ, Act.put, List.setIfInBounds_toArray, List.set_cons_zero, List.set_cons_succ]
          refine wpAnyT_take (i := 6) (v := ?v17) [] rfl (by kernel_rfl) (fun _ _ _ h => h) (Or.inl ⟨by rfl, ?hy17⟩) hHeld ?rst17
          case hy17 => (intro wx hSw; obtain ⟨q1, q2, q3⟩ := HF8.out wx hSw; go_simp; try (with_reducible rfl))
          try simp only [List.getElem_toArray, List.getElem_cons_zero, List.getElem_cons_succ, Act.put, List.setIfInBounds_toArray, List.set_cons_zero, List.set_cons_succ]
          refine wpAnyT_take (i := 7) (v := ?v18) [] rfl (by kernel_rfl) (fun _ _ _ h => h) (Or.inl ⟨by rfl, ?hy18⟩) hHeld ?rst18
          case hy18 => (intro wx hSw; obtain ⟨q1, q2, q3⟩ := HF8.out wx hSw; go_simp; try (with_reducible rfl))
          try simp only [List.getElem_toArray, List.getElem_cons_zero, List.getElem_cons_succ, Act.put, List.setIfInBounds_toArray, List.set_cons_zero, List.set_cons_succ]
          refine wpAnyT_take (i := 8) (v := ?v19) [] rfl (by kernel_rfl) (fun _ _ _ h => h) (Or.inl ⟨by rfl, ?hy19⟩) hHeld ?rst19
          case hy19 => (intro wx hSw; obtain ⟨q1, q2, q3⟩ := HF8.out wx hSw; go_simp; try (with_reducible rfl))
          try simp only [List.getElem_toArray, List.getElem_cons_zero, List.getElem_cons_succ, Act.put, List.setIfInBounds_toArray, List.set_cons_zero, List.set_cons_succ]
          refine wpAnyT_one (i := 9) (by kernel_rfl) rfl (fun K hK => ?_)
          go_simp
          refine hK.out _ _ (HK98.out) (fun hHeld => ?_)
          clear hK K
          try simp only [List.getElem_toArray, List.getElem_cons_zero, List.getElem_cons_succ, Act.put, List.setIfInBounds_toArray, List.set_cons_zero, List.set_cons_succ]
          refine wpAnyT_one (i := 10) (by kernel_rfl) rfl (fun K hK => ?_)
          refine step_append_lies _ (by rfl) _ _ _ (by rfl) w.heap.size 3 i0 _ 1 8 Try.underlying35 hi0 hz0 hz1 hz2 rfl (by omega) (.slice A8 (adjN L k jb).length c8) (adjN L k jb).length (ints (adjN L k jb)) (by rfl) (HV8.out.ext (ext_trans (ext_alloc W2 _) (ext_drew _))) ⟨W2.heap.size, 0, none⟩ 1 1 [.int .i64 (k : Int)] (by rfl) (by rfl) (World.news_of_block (cs := #[.int .i64 (k : Int)]) (t := 3) (fr := (0, 0)) (heap_alloc_new _ _)) (by simp [Value.oneCell']) (by omega) HN8.out.1 HN8.out.2 HN08.out (W2.heap.size + 1) (by simp) ?_
          intro gg8 cap8 w8 hown8 hgrow8 hat8 hlt8
          refine hK.out _ _ (HK108.out _ hgrow8) (fun hHeld => ?_)
          clear hK K
          try simp only [List.getElem_toArray, List.getElem_cons_zero, List.getElem_cons_succ, Act.put, List.setIfInBounds_toArray, List.set_cons_zero, List.set_cons_succ]
          refine wpAnyT_take (i := 11) (v := ?v20) [] rfl (by kernel_rfl) (fun _ _ _ h => h) (Or.inl ⟨by rfl, ?hy20⟩) hHeld ?rst20
          case hy20 => (intro wx hSw; obtain ⟨q1, q2, q3⟩ := HF8.out wx hSw; go_simp; try (with_reducible rfl))
          try simp only [List.getElem_toArray, List.getElem_cons_zero, List.getElem_cons_succ, Act.put, List.setIfInBounds_toArray, List.set_cons_zero, List.set_cons_succ]
          refine wpAnyT_last (by kernel_rfl) (by kernel_rfl) rfl (fun K hK => ?_)
          obtain ⟨q1, q2, q3⟩ := HF8.out _ hHeld
          obtain ⟨q4, q5⟩ := HG8.out _ hHeld
          go_simp
          refine hK.out _ _ ?_
          clear hK K
          have hgr := HS2.out.grow (ext_trans (ext_alloc W2 (.cells #[.int .i64 (k : Int)] 3)) (ext_drew _)) (j := jb) (by omega) (v := .slice (some ⟨gg8, 0, none⟩) ((adjN L k jb).length + 1) cap8) (l := adjN L k jb ++ [(k : Int)]) (w' := w8) (by
            unfold Vi
            rw [ints_append, List.length_append]
            exact hown8) (by rw [HVJ8.out]; exact hgrow8) (fun q hq => by
            rw [HVJ8.out]
            injection hq with hq
            subst hq
            rcases hat8 with h1 | h1
            · exact .inl h1
            · exact .inr (by rw [h1]; simp))
          have HS3 := Lib.hid hgr
          clear hHeld hown8 hgrow8 hat8 hgr
          go_wp2_with (fail)
          go_roundg (L.length - (k + 1))
          case measure => have := HG.out; omega
          case rel => exact ⟨k + 1, _, by go_num, by omega, rfl, by rw [HSE.out]; exact HS3.out⟩
    · obtain rfl : k = L.length := by omega
      have HM0 := Lib.hid (TrM.start HL.out ⟨f1, f2⟩ HS.out)
      clear HS HG
      go_upto_block 2 with (fail)
      go_wp2_with (fail)
      go_loopg [9, 10] (2 * L.length + 1) (fun g sv ov wr => TrM w L f g sv ov wr)
      case atStart => exact HM0.out
      case round =>
        rcases hrel with ⟨vs, ls, st, po, t, s, hI, t1, t2, hA, hB, hg⟩ | ⟨vs, ls, po, hT, hB, hg⟩
        · obtain ⟨bs, m, hst, hbl, hms⟩ := stp_top hI
          have hcnt := hI.cnt
          have htop := hB.2.2.2.1
          rw [hst] at htop
          obtain ⟨gs, cs, hsv, k1, k2, -, kg, d1, d2, d3⟩ := htop.top
          obtain ⟨p, hp⟩ : ∃ p, p = bs.length := ⟨_, rfl⟩
          rw [← hp] at k1 d1 d2 d3 hbl hsv
          subst hsv
          obtain ⟨mk, mr⟩ := m
          obtain ⟨j, rfl⟩ := Int.eq_ofNat_of_zero_le t1
          dsimp only at d1 d2 d3
          obtain ⟨At, ct, hvj, r1, r2, r3⟩ := hB.2.2.1.2 j (by omega)
          have hcj := hB.2.2.1.1.cell j
          rw [cellsU_get (by omega), hvj] at hcj
          have hfz := hB.2.2.1.1.frozen j
          have hab := hB.2.2.1.1.lt
          have HB := Lib.hid hB
          have HI := Lib.hid hI
          have HA := Lib.hid hA
          have HGG := Lib.hid hg
          have HMS := Lib.hid hms
          have HST := Lib.hid hst
          have HP := Lib.hid hp
          have HBLN := Lib.hid hbl
          unfold maxLen at k2 r2
          have hp2 : p ≤ 1000 := by omega
          have HR3 := Lib.hid r3
          have HTB := Lib.hid (Bk.new 138 wr #[.int .i64 (j : Int), .int .i64 mk, .bool mr])
          have HTX := Lib.hid (ext_alloc wr (.cells #[.int .i64 (j : Int), .int .i64 mk, .bool mr] 138))
          clear hB hI hA hg hms hst hp hbl hcnt hvj r3 htop HM0 t1
          go_upto_block 4 with (fail)
          obtain ⟨V, hV⟩ : ∃ V, V = wr.alloc (.cells #[.int .i64 (j : Int), .int .i64 mk, .bool mr] 138) := ⟨_, rfl⟩
          have hVB := HB.out.ext HTX.out
          have hr3 := HR3.out.keep (.ext HTX.out)
          rw [← hV] at hVB hr3 HTB ⊢
          have HVB := Lib.hid hVB
          have HR3' := Lib.hid hr3
          obtain ⟨gt, hgt⟩ : ∃ gt, gt = wr.heap.size := ⟨_, rfl⟩
          rw [← hgt] at HTB ⊢
          clear hV hVB hr3 HB HTX hcj hfz hab d1 d2 d3 hgt kg
          go_cut [12] (fun z wx => ∃ l' A' c', z = .slice A' l'.length c' ∧ l'.length ≤ c' ∧ c' ≤ maxLen ∧ ISt V A' l' ∧ RowI L (usd st po) (j : Int) l' ∧ (l' = [] ∨ ∃ (i : Nat) (l'' : List Int), l' = (i : Int) :: l'' ∧ i < L.length ∧ i ∉ usd st po ∧ lnInc (lnAt L i) (j : Int) ≠ 0) ∧ wx = V)
          case first =>
            go_wp2_with (fail)
            go_loopg [12] (ls j).length (fun g z wr => ∃ l' A' c', z = .slice A' l'.length c' ∧ l'.length ≤ c' ∧ c' ≤ maxLen ∧ ISt V A' l' ∧ RowI L (usd st po) (j : Int) l' ∧ g = l'.length ∧ wr = V)
            case atStart => exact ⟨ls j, At, ct, rfl, r1, r2, HR3'.out, HA.out.row (by omega), rfl, rfl⟩
            case round =>
              obtain ⟨l', A', c', rfl, s1, s2, s3, s4, s5, hw⟩ := hrel
              subst hw
              cases l' with
              | nil =>
                go_wp2_with (fail)
                go_meet
                case rel => exact ⟨[], A', c', rfl, s1, s2, s3, s4, .inl rfl, rfl⟩
              | cons q l' =>
                obtain ⟨i, hi, rfl, hinc⟩ := s4.2 q (by simp)
                obtain ⟨b5, off5, rfl, hb5⟩ := s3.addr (by simp)
                have q1 := s3.cell (j := 0) (by simp)
                rw [Nat.add_zero] at q1
                have q2 := HVB.out.2.1.cell (i := i) hi
                simp only [List.getElem_cons_zero] at q1
                have q3 := HVB.out.2.1.lt
                have S3 := Lib.hid s3
                have S4 := Lib.hid s4
                have HG5 := Lib.hid s5
                have hi0 : (0 : Int) ≤ (i : Int) := by omega
                unfold maxLen at s2
                rw [List.length_cons] at s1
                rw [List.length_cons]
                clear s3 s4 s5
                cases hus : usB st po i
                · rw [hus] at q2
                  have HUS := Lib.hid hus
                  clear hus
                  go_wp2_with (fail)
                  go_meet
                  case rel => exact ⟨(i : Int) :: l', some ⟨b5, off5, none⟩, c', rfl, by simpa using s1, s2, S3.out, S4.out, .inr ⟨i, l', rfl, hi, of_decide_eq_false HUS.out, hinc⟩, rfl⟩
                · rw [hus] at q2
                  have HUS := Lib.hid hus
                  have hS4 := S4.out.tail (fun x hx => by
                    have : x = i := by omega
                    subst this
                    exact of_decide_eq_true HUS.out)
                  have HS4 := Lib.hid hS4
                  have HS3 := Lib.hid S3.out.tail
                  clear hus hS4
                  by_cases hc1 : c' = 1
                  · subst hc1
                    obtain rfl : l' = [] := List.eq_nil_of_length_eq_zero (by omega)
                    go_wp2_with (fail)
                    go_roundg 0
                    case measure => have := HG5.out; simp at this; omega
                    case rel => exact ⟨[], _, _, rfl, by simp, by simp [maxLen], .inl rfl, HS4.out, rfl, rfl⟩
                  · go_wp2_with (fail)
                    go_roundg l'.length
                    case measure => have := HG5.out; simp at this; omega
                    case rel => exact ⟨l', some ⟨b5, off5 + 1, none⟩, c' - 1, by first | rfl | (congr 1 <;> omega), by omega, by unfold maxLen; omega, HS3.out, HS4.out, rfl, rfl⟩
          case rest =>
            obtain ⟨l', A', c', rfl, s1, s2, s3, s4, s5, hw⟩ := hcut
            subst hw
            rename_i hKc
            refine hKc _ _ ?_
            clear hKc r1 r2 HR3' HR3
            have q1 := HVB.out.2.2.1.1.cell j
            rw [cellsU_get (by omega)] at q1
            have q2 := HVB.out.2.2.1.1.frozen j
            have q3 := HVB.out.2.2.1.1.lt
            obtain ⟨e1, e2, e3⟩ := HTB.out.facts
            have g0 : wc.cell? ⟨gt, 0, none⟩ = some (.int .i64 (j : Int)) := e1 0
            have hgt : gt ≠ w.heap.size + 1 := fun e => by
              have h1 := HTB.out
              have h2 := HVB.out.2.2.1.1
              rw [e] at h1
              unfold Bk at h1 h2
              rw [h1] at h2
              injection h2 with h2
              injection h2 with _ h2
              revert h2; decide
            have HVB2 := Lib.hid (HVB.out.storeAt (j := j) s1 s2 s3)
            have HTB2 := Lib.hid (HTB.out.set_ne (j := j) hgt (.slice A' l'.length c'))
            have HA2 := Lib.hid (HA.out.upd s4)
            have S4 := Lib.hid s4
            have S3 := Lib.hid (s3.keep (KeepI.set HVB.out.2.2.1.1 (by decide) j (.slice A' l'.length c')))
            unfold maxLen at s2
            clear e1 hgt s3 s4 HVB HTB HA
            go_upto_region 17 with (fail)
            clear q1 q2 q3 e2 e3 g0
            obtain ⟨V2, hV2⟩ : ∃ V2, V2 = wc.setCell ⟨w.heap.size + 1, j, none⟩ (.slice A' l'.length c') := ⟨_, rfl⟩
            rw [← hV2] at HVB2 HTB2 S3 ⊢
            have HW2 := Lib.hid hV2
            clear hV2
            rcases s5 with rfl | ⟨i, l'', rfl, hi, hin, hinc⟩
            · have g1 : V2.cell? ⟨gt, 1, none⟩ = some (.int .i64 mk) := HTB2.out.cell 1
              have g2 : V2.cell? ⟨gt, 2, none⟩ = some (.bool mr) := HTB2.out.cell 2
              have g3 := HTB2.out.lt
              have hb5 := HVB2.out.1.size
              go_wp2_with (at_builtin; refine wpList_pushM Try.underlying57 info_move _ rfl _ _ rfl w.heap.size HVB2.out.2.2.2.2 (by rfl) (by rfl) (by rfl) ?hn5 hb5 ?_; (case hn5 => have := HI.out.cnt; rw [List.length_map]; omega); intro v5 w5 hv5 hb5 hk5)
              have hpu := HVB2.out.pushO hv5 hb5 hk5
              rw [HST.out] at hpu
              have HPU := Lib.hid (hpu.cutS HP.out)
              clear hpu hv5 hb5 hk5 g1 g2 g3
              rcases HMS.out with ⟨rfl, hm, rfl⟩ | ⟨st', g', rfl, hm, rfl, hto⟩
              · go_roundg 0
                case measure => have := HGG.out; omega
                case rel =>
                  have h := HPU.out
                  rw [hm] at h
                  exact TrM.stop (HI.out.done HEV.out S4.out.none HH.out) h
              · go_roundg (2 * (L.length - st'.length - (po ++ [g']).length) + st'.length + 1)
                case measure =>
                  have h1 := HGG.out
                  have h2 := HI.out.cnt
                  rw [List.length_append, List.length_singleton] at h1 h2
                  rw [List.length_append, List.length_singleton]
                  omega
                case rel =>
                  have hr := hop_rng HL.out (HI.out.w1.lt g' (by simp)) g'.r
                  have h := HPU.out
                  rw [hm, usB_pop] at h
                  rw [show List.map (Hop.mv L) po ++ [g'.mv L] = (po ++ [g']).map (Hop.mv L) from by rw [List.map_append]; rfl] at h
                  exact TrM.go (HI.out.pop HEV.out S4.out.none) hr.1 (HA2.out.more (usd_pop st' po g')) h
            · obtain ⟨b5, off5, rfl, hb5⟩ := S3.out.addr (by simp)
              have q1 := S3.out.cell (j := 0) (by simp)
              rw [Nat.add_zero] at q1
              simp only [List.getElem_cons_zero] at q1
              rw [List.length_cons] at s1 ⊢
              have u1 := HVB2.out.2.1.cell (i := i) hi
              have u2 := HVB2.out.2.1.frozen i
              have u3 := HVB2.out.2.1.lt
              have hne : gt ≠ w.heap.size := fun e => by
                have h1 := HTB2.out
                have h2 := HVB2.out.2.1
                rw [e] at h1
                unfold OwB Bk at h2
                unfold Bk at h1
                rw [h1] at h2
                injection h2 with h2
                injection h2 with _ h2
                revert h2; decide
              have HVB3 := Lib.hid (HVB2.out.mark i)
              have HTB3 := Lib.hid (HTB2.out.set_ne (j := i) hne (.bool true))
              have hi0 : (0 : Int) ≤ (i : Int) := by omega
              clear hne HVB2 HTB2 HW2 S3
              go_upto_region 22 with (fail)
              obtain ⟨V3, hV3⟩ : ∃ V3, V3 = V2.setCell ⟨w.heap.size, i, none⟩ (.bool true) := ⟨_, rfl⟩
              rw [← hV3] at HVB3 HTB3 ⊢
              clear hV3 q1 u1 u2 u3 hb5
              rcases H.out.ext HVB3.out.1 with hf | ⟨b, off, rfl, hblt, hcl⟩
              · rw [hf] at hi; simp at hi
              obtain ⟨c1, c2, c3⟩ := hcl i hi
              have hso := HL.out _ (List.getElem_mem hi)
              obtain ⟨sl, hsl⟩ : ∃ s, s = L[i] := ⟨_, rfl⟩
              rw [← hsl] at c1 c2 c3 hso
              have hlk : lnAt L i = sl := by rw [hsl]; exact lnAt_get hi
              rw [hlk] at hinc
              have HLK := Lib.hid hlk
              have HINC := Lib.hid hinc
              obtain ⟨sk, a, b'⟩ := sl
              dsimp only at c1 c2 c3
              clear hsl hcl hlk hinc
              have HLB := Lib.hid (Bk.new 119 V3 #[.int .i64 sk, .int .i64 a, .int .i64 b'])
              have HX4 := Lib.hid (ext_alloc V3 (.cells #[.int .i64 sk, .int .i64 a, .int .i64 b'] 119))
              go_upto_region 23 with (fail)
              clear c1 c2 c3
              obtain ⟨V4, hV4⟩ : ∃ V4, V4 = V3.alloc (.cells #[.int .i64 sk, .int .i64 a, .int .i64 b'] 119) := ⟨_, rfl⟩
              obtain ⟨gl, hgl⟩ : ∃ gl, gl = V3.heap.size := ⟨_, rfl⟩
              rw [← hV4] at HLB HX4 ⊢
              rw [← hgl] at HLB ⊢
              have HVB4 := Lib.hid (HVB3.out.ext HX4.out)
              have HTB4 := Lib.hid (HTB3.out.ext HX4.out)
              clear hV4 hgl HVB3 HTB3 HX4 hblt
              have x0 : V4.cell? ⟨gl, 0, none⟩ = some (.int .i64 sk) := HLB.out.cell 0
              have x2 : V4.cell? ⟨gl, 2, none⟩ = some (.int .i64 b') := HLB.out.cell 2
              have HNB := Lib.hid (Bk.new 138 V4 #[.int .i64 b', .int .i64 sk, .bool false])
              have HX5 := Lib.hid (ext_alloc V4 (.cells #[.int .i64 b', .int .i64 sk, .bool false] 138))
              go_upto_region 24 with (fail)
              clear x0 x2
              obtain ⟨V5, hV5⟩ : ∃ V5, V5 = V4.alloc (.cells #[.int .i64 b', .int .i64 sk, .bool false] 138) := ⟨_, rfl⟩
              obtain ⟨gn, hgn⟩ : ∃ gn, gn = V4.heap.size := ⟨_, rfl⟩
              rw [← hV5] at HNB HX5 ⊢
              rw [← hgn] at HNB ⊢
              have HGN := Lib.hid hgn
              have HTB5 := Lib.hid (HTB4.out.ext HX5.out)
              have HLB5 := Lib.hid (HLB.out.ext HX5.out)
              have y0 : V5.cell? ⟨gl, 0, none⟩ = some (.int .i64 sk) := HLB5.out.cell 0
              have y1 : V5.cell? ⟨gl, 1, none⟩ = some (.int .i64 a) := HLB5.out.cell 1
              have y2 : V5.cell? ⟨gt, 0, none⟩ = some (.int .i64 (j : Int)) := HTB5.out.cell 0
              clear hV5 hgn HTB4 HLB
              have hst1000 : (stp L f st).length ≤ 1001 := by have := HI.out.cnt; rw [stp_len]; omega
              by_cases haj : a = (j : Int)
              · subst haj
                have HVB6 := Lib.hid (HVB4.out.ext HX5.out)
                have hb6 := HVB6.out.1.size
                have z0 : V5.cell? ⟨gn, 0, none⟩ = some (.int .i64 b') := HNB.out.cell 0
                have z1 : V5.cell? ⟨gn, 1, none⟩ = some (.int .i64 sk) := HNB.out.cell 1
                have z2 : V5.cell? ⟨gn, 2, none⟩ = some (.bool false) := HNB.out.cell 2
                clear HVB4 HX5
                go_wp2_with (at_builtin; refine wpList_pushSp _ rfl _ _ rfl w.heap.size HVB6.out.2.2.2.1 (by rfl) (by rfl) (by rfl) ?hn6 hb6 ?_; (case hn6 => omega); intro v6 w6 hv6 hb6 hk6)
                have hpu := HVB6.out.pushS hv6 hb6 hk6
                have hr : (lnAt L i).fr false = (j : Int) := by rw [HLK.out]; rfl
                have hto : (lnAt L i).to_ false = b' := by rw [HLK.out]; rfl
                have hmv : (lnAt L i).k = sk := by rw [HLK.out]
                have hpI := HI.out.push (r := false) hi hin hr
                have hrg := hop_rng HL.out hi false
                rw [usB_push st po ⟨i, false⟩, show (⟨b', ⟨sk, false⟩⟩ : Stp) = ⟨(⟨i, false⟩ : Hop).to_ L, (⟨i, false⟩ : Hop).mv L⟩ from by unfold Hop.to_ Hop.mv; rw [hto, hmv], ← stp_snoc] at hpu
                have HPU := Lib.hid hpu
                have HPI := Lib.hid hpI
                clear hpu hv6 hb6 hk6 z0 z1 z2 y0 y1 y2 hpI
                go_roundg (2 * (L.length - (st ++ [(⟨i, false⟩ : Hop)]).length - po.length) + (st ++ [(⟨i, false⟩ : Hop)]).length + 1)
                case measure =>
                  have h1 := HGG.out
                  have h2 := HPI.out.cnt
                  rw [List.length_append, List.length_singleton] at h2
                  rw [List.length_append, List.length_singleton]
                  omega
                case rel => exact TrM.go HPI.out hrg.2 (HA2.out.more (usd_push st po _)) HPU.out
              · have t1 : ((a : Int) != (j : Int)) = true := by rw [bne_iff_ne]; exact haj
                have hbj : b' = (j : Int) := by
                  have h := HINC.out
                  unfold lnInc at h
                  dsimp only at h
                  rw [if_neg haj] at h
                  refine Classical.byContradiction fun hne => h ?_
                  rw [if_neg hne]
                have HAJ := Lib.hid haj
                have HBJ := Lib.hid hbj
                clear haj hbj
                have z0 : V5.cell? ⟨gn, 0, none⟩ = some (.int .i64 b') := HNB.out.cell 0
                have z1 : V5.cell? ⟨gn, 1, none⟩ = some (.int .i64 sk) := HNB.out.cell 1
                have z2 : V5.cell? ⟨gn, 2, none⟩ = some (.bool false) := HNB.out.cell 2
                have zf0 := HNB.out.frozen 0
                have zf1 := HNB.out.frozen 1
                have zf2 := HNB.out.frozen 2
                have zlt := HNB.out.lt
                go_upto_region 26 with (fail)
                obtain ⟨V6, hV6⟩ : ∃ V6, V6 = ((V5.setCell ⟨gn, 0, none⟩ (.int .i64 a)).setCell ⟨gn, 1, none⟩ (.int .i64 sk)).setCell ⟨gn, 2, none⟩ (.bool true) := ⟨_, rfl⟩
                have hnb6 : Bk 138 V6 gn #[.int .i64 a, .int .i64 sk, .bool true] := by
                  have h := ((HNB.out.set 0 (.int .i64 a)).set 1 (.int .i64 sk)).set 2 (.bool true)
                  rw [← hV6] at h
                  exact h
                have hvb6 := HVB4.out.ext (w' := V6) (by
                  rw [hV6]
                  exact ((HX5.out.setCell (by show V4.heap.size ≤ gn; rw [HGN.out]; exact Nat.le_refl _) _).setCell (by show V4.heap.size ≤ gn; rw [HGN.out]; exact Nat.le_refl _) _).setCell (by show V4.heap.size ≤ gn; rw [HGN.out]; exact Nat.le_refl _) _)
                rw [← hV6]
                have HVB6 := Lib.hid hvb6
                have hb6 := hvb6.1.size
                clear z0 z1 z2 zf0 zf1 zf2 zlt y0 y1 y2 hV6 HVB4 HX5 hvb6
                have z0 : V6.cell? ⟨gn, 0, none⟩ = some (.int .i64 a) := hnb6.cell 0
                have z1 : V6.cell? ⟨gn, 1, none⟩ = some (.int .i64 sk) := hnb6.cell 1
                have z2 : V6.cell? ⟨gn, 2, none⟩ = some (.bool true) := hnb6.cell 2
                have zlt := hnb6.lt
                go_wp2_with (at_builtin; refine wpList_pushSp _ rfl _ _ rfl w.heap.size HVB6.out.2.2.2.1 (by rfl) (by rfl) (by rfl) ?hn6 hb6 ?_; (case hn6 => omega); intro v6 w6 hv6 hb6 hk6)
                have hpu := HVB6.out.pushS hv6 hb6 hk6
                have hr : (lnAt L i).fr true = (j : Int) := by rw [HLK.out]; exact HBJ.out
                have hto : (lnAt L i).to_ true = a := by rw [HLK.out]; rfl
                have hmv : (lnAt L i).k = sk := by rw [HLK.out]
                have hpI := HI.out.push (r := true) hi hin hr
                have hrg := hop_rng HL.out hi true
                rw [usB_push st po ⟨i, true⟩, show (⟨a, ⟨sk, true⟩⟩ : Stp) = ⟨(⟨i, true⟩ : Hop).to_ L, (⟨i, true⟩ : Hop).mv L⟩ from by unfold Hop.to_ Hop.mv; rw [hto, hmv], ← stp_snoc] at hpu
                have HPU := Lib.hid hpu
                have HPI := Lib.hid hpI
                clear hpu hv6 hb6 hk6 z0 z1 z2 hpI
                go_roundg (2 * (L.length - (st ++ [(⟨i, true⟩ : Hop)]).length - po.length) + (st ++ [(⟨i, true⟩ : Hop)]).length + 1)
                case measure =>
                  have h1 := HGG.out
                  have h2 := HPI.out.cnt
                  rw [List.length_append, List.length_singleton] at h2
                  rw [List.length_append, List.length_singleton]
                  omega
                case rel => exact TrM.go HPI.out hrg.2 (HA2.out.more (usd_push st po _)) HPU.out
        · obtain ⟨As, cs, hsv, -, -, -⟩ := own_cells hB.2.2.2.1
          obtain ⟨Ao, co, hov, o1, o2, o3⟩ := own_cells hB.2.2.2.2
          rcases o3 with o3 | ⟨g, rfl, hgb, hglt, -⟩
          · simp at o3
          have HT := Lib.hid hT
          have HB := Lib.hid hB
          subst hsv
          obtain ⟨ml, hml⟩ : ∃ ml, ml = List.map (Hop.mv L) po ++ [dmy] := ⟨_, rfl⟩
          have HML := Lib.hid hml
          have HP : Hid (po.length + 1 = ml.length) := by rw [hml]; simp [Hid]
          have hpl : ml.length ≤ 1001 := by
            have h1 := hT.2.length_eq
            rw [List.length_map, List.length_reverse, List.length_range] at h1
            have h2 := HP
            unfold Hid at h2
            omega
          have hml1 : 1 ≤ ml.length := by have h2 := HP; unfold Hid at h2; omega
          have hvm := hB.2.2.2.2
          rw [← hml] at hov o1 hvm
          subst hov
          have HRV := Lib.hid (reverse_any w.heap.size g co ml _ (by omega) hvm hgb)
          have HW0 := Lib.hid hB.1
          unfold maxLen at o2
          clear hT hB hg HM0 hml hvm HB hglt
          have HLN : Hid (po.reverse.length = ml.length - 1) := by
            have h2 := HP
            unfold Hid at h2 ⊢
            rw [List.length_reverse]
            omega
          have HMS : Hid (∀ w1 : World, Vm 72 w.heap.size w1 (.slice (some ⟨g, 0, none⟩) ml.length co) ml.reverse → MSl w1 (some ⟨g, 2, none⟩) (po.reverse.map (Hop.mv L))) := by
            intro w1 hv1
            by_cases hpo : po = []
            · subst hpo; exact .inl rfl
            · refine .inr ⟨g, 2, rfl, ?_, fun j hj => ?_⟩
              · exact (hv1.at2 (i := 0) (by rw [List.length_reverse]; omega)).2.2.2.2
              · rw [List.length_map] at hj
                have hjm : j + 1 < ml.reverse.length := by
                  rw [List.length_reverse]
                  have h2 := HLN
                  unfold Hid at h2
                  omega
                obtain ⟨c1, c2, -⟩ := hv1.at2 hjm
                have e : ml.reverse[j + 1] = (po.reverse.map (Hop.mv L))[j]'(by rw [List.length_map]; exact hj) := by
                  have e1 : ml.reverse = dmy :: po.reverse.map (Hop.mv L) := by rw [HML.out]; simp
                  simp only [e1, List.getElem_cons_succ]
                rw [e] at c1 c2
                rw [show 2 + j * 2 = (j + 1) * 2 by omega]
                exact ⟨c1, c2⟩
          have HMN : Hid (∀ w1 : World, ml.length = 1 → ∀ A', MSl w1 A' (po.reverse.map (Hop.mv L))) := by
            intro w1 h1 A'
            have h2 := HLN
            unfold Hid at h2
            have : po.reverse = [] := List.eq_nil_of_length_eq_zero (by omega)
            rw [this]
            exact .inl rfl
          by_cases hc1 : co = 1
          · subst hc1
            have hm1 : ml.length = 1 := by omega
            have HM1 := Lib.hid hm1
            clear hm1
            go_wp2_with (go_at_call 78; refine HRV.out.mono ?_; rintro e w1 ⟨rfl, hv1, hb1, -⟩; have HV1 := Lib.hid hv1; have HB1 := Lib.hid hb1; clear hv1 hb1)
            go_ret
            exact ⟨po.reverse, some ⟨g, 0, none⟩, 0, HT.out, by rw [HLN.out, HM1.out]; rfl, by rw [HLN.out, HM1.out]; decide, by simp [maxLen], HMN.out _ HM1.out _, HW0.out.trans HB1.out⟩
          · go_wp2_with (go_at_call 78; refine HRV.out.mono ?_; rintro e w1 ⟨rfl, hv1, hb1, -⟩; have HV1 := Lib.hid hv1; have HB1 := Lib.hid hb1; clear hv1 hb1)
            go_ret
            exact ⟨po.reverse, some ⟨g, 2, none⟩, co - 1, HT.out, by rw [HLN.out]; rfl, by rw [HLN.out]; omega, by unfold maxLen; omega, HMS.out _ HV1.out, HW0.out.trans HB1.out⟩
end Go.Proofs.Ytbhjhajnhpohlaa
