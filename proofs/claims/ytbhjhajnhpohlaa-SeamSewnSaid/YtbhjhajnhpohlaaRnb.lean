/- Words for the memory of runs: the marks of ranges over functions, rows of rows behind each other, the invariant of the range over the chunks. No conditions. -/
import Derived.Test.YtbhjhajnhpohlaaCk
import Derived.Test.YtbhjhajnhpohlaaRna
import Derived.Test.YtbhjhajnhpohlaaPas
import Derived.Deep.AppendLies
namespace Go.Proofs.Ytbhjhajnhpohlaa
open Go.RowKit

/-- the mark of a range over a function that has ended -/
def mkD (D : Nat) : Deferred := { target := .collected D, args := #[] }
/-- the blocks that the marks name: shut later -/
def DsOk (base : Nat) (w : World) (Ds : List Nat) : Prop := Ds.Nodup ∧ ∀ D ∈ Ds, base ≤ D ∧ w.heap[D]? = some (.deferred (some []))
theorem DsOk.keep {base : Nat} {w w' : World} {Ds : List Nat} (h : DsOk base w Ds) (hk : ∀ (k : Nat) (o : Obj), w.heap[k]? = some o → o.isCells = false → w'.heap[k]? = some o) : DsOk base w' Ds :=
  ⟨h.1, fun D hD => ⟨(h.2 D hD).1, hk D _ (h.2 D hD).2 rfl⟩⟩
theorem DsOk.ext {base : Nat} {w w' : World} {Ds : List Nat} (h : DsOk base w Ds) (hb : Below w.heap.size w w') : DsOk base w' Ds :=
  h.keep fun k _ hk _ => (hb.block k (Array.getElem?_eq_some_iff.1 hk).1).trans hk
theorem DsOk.cons {base : Nat} {w : World} {Ds : List Nat} {D : Nat} {B : Nat} (h : DsOk base w Ds) (hlt : ∀ D ∈ Ds, D < B) (hB : B ≤ D) (hb : base ≤ D) (hD : w.heap[D]? = some (.deferred (some []))) : DsOk base w (D :: Ds) := by
  refine ⟨List.nodup_cons.2 ⟨fun hm => ?_, h.1⟩, fun x hx => ?_⟩
  · have := hlt D hm; omega
  · rcases List.mem_cons.1 hx with rfl | hx
    · exact ⟨hb, hD⟩
    · exact h.2 x hx
/-- a row that has grown keeps whatever is no cells -/
theorem grown_keeps {w w' : World} {base n sz : Nat} {e : TypeId} {v : Value} {xs : List Value} (h : w.ownsRow base e sz v n xs) (hk : ∀ k, k < w.heap.size → some k ≠ v.ownBlock → w'.heap[k]? = w.heap[k]?) : ∀ (k : Nat) (o : Obj), w.heap[k]? = some o → o.isCells = false → w'.heap[k]? = some o := by
  intro k o ho hc
  refine (hk k (Array.getElem?_eq_some_iff.1 ho).1 fun e => ?_).trans ho
  rcases h.2 with ⟨rfl, _⟩ | ⟨g, cap, cur, rfl, hg, hh, _⟩
  · cases e
  · have : k = g := by simpa [Value.ownBlock] using e
    subst this
    rw [hh] at ho
    injection ho with ho
    rw [← ho] at hc
    cases hc
/-- the function is left: all marks are taken in -/
theorem leaves_ds {F : Fence} {n : Nat} {P : Program} {fn : Func} {tmps : Array Value} {R : Ending → World → Prop} {base : Nat} : ∀ (Ds : List Nat) (w : World), DsOk base w Ds → base ≤ w.heap.size →
    (∀ w', Below base w w' → (∀ (k : Nat) (o : Obj), w.heap[k]? = some o → o.isCells = true → w'.heap[k]? = some o) → LeavesIn F n P fn tmps R [] .returning w') → LeavesInM F n P fn tmps R (Ds.map mkD) .returning w
  | [], w, _, _, h => h w (Below.refl _ _) (fun _ _ h _ => h)
  | D :: Ds, w, hd, hs, h => by
    obtain ⟨hD1, hD2⟩ := hd.2 D (by simp)
    have hlt : D < w.heap.size := (Array.getElem?_eq_some_iff.1 hD2).1
    have hoth : ∀ k, k ≠ D → (w.putObj D (.deferred none)).heap[k]? = w.heap[k]? := fun k hk => World.putObj_heap_other hk
    have hb1 : Below base w (w.putObj D (.deferred none)) := (Below.refl base w).grown (grownBy_putObj' w D _) hs (fun k e => by cases e; exact hD1)
    refine ⟨by simp, .inl ⟨D, _, rfl, run_takeDeferred hD2, ?_⟩⟩
    refine leaves_ds Ds _ ⟨(List.nodup_cons.1 hd.1).2, fun x hx => ⟨(hd.2 x (by simp [hx])).1, (hoth x fun e => ?_).trans (hd.2 x (by simp [hx])).2⟩⟩ (Nat.le_trans hs hb1.size) ?_
    · subst e; exact (List.nodup_cons.1 hd.1).1 hx
    · intro w' hb2 hk2
      refine h w' (hb1.trans hb2) fun k o ho hc => hk2 k o ((hoth k fun e => ?_).trans ho) hc
      subst e
      rw [hD2] at ho
      injection ho with ho
      rw [← ho] at hc
      cases hc
/-- rows of rows behind each other: the new rows' headers are copied -/
theorem Vr.cat {R M : TypeId} {base : Nat} {w w' : World} {v v' : Value} {ls ls' : List (List Mv)} {vs vs' : List Value} (hRM : R ≠ M) (h1 : vs.length = ls.length) (h2 : w.ownsRow base R 1 v ls.length vs) (h3 : ∀ j (h : j < vs.length) (h' : j < ls.length), Vm M base w vs[j] ls[j])
    (g1 : vs'.length = ls'.length) (g3 : ∀ j (h : j < vs'.length) (h' : j < ls'.length), Vm M base w vs'[j] ls'[j]) (hv : w'.ownsRow base R 1 v' (ls.length + ls'.length) (vs ++ vs')) (hk : ∀ k, k < w.heap.size → some k ≠ v.ownBlock → w'.heap[k]? = w.heap[k]?) : Vr R M base w' v' (ls ++ ls') := by
  have hkeep : ∀ (u : Value) (l : List Mv), Vm M base w u l → Vm M base w' u l := fun u l hl => own_keep hl fun k e => hk k (own_lt hl k e).2 (own_ne2 h2 hl hRM k e)
  refine ⟨vs ++ vs', by rw [List.length_append, List.length_append, h1, g1], by rw [List.length_append]; exact hv, fun j hj hj' => ?_⟩
  by_cases hjl : j < ls.length
  · rw [List.getElem_append_left (by omega), List.getElem_append_left hjl]
    exact hkeep _ _ (h3 j (by omega) hjl)
  · rw [List.length_append] at hj'
    rw [List.getElem_append_right (by omega), List.getElem_append_right (by omega)]
    simp only [h1]
    exact hkeep _ _ (g3 _ (by omega) (by omega))
/-- at most as many runs as seams -/
theorem nodup_len : ∀ (n : Nat) (D : List Int), D.Nodup → (∀ x ∈ D, 0 ≤ x ∧ x < n) → D.length ≤ n
  | 0, D, _, h => by
    cases D with
    | nil => simp
    | cons x D => have := h x (by simp); omega
  | n + 1, D, hd, h => by
    by_cases hm : (n : Int) ∈ D
    · have ih := nodup_len n (D.erase n) (hd.erase _) (fun x hx => by
        have h1 := h x (List.mem_of_mem_erase hx)
        have h2 : x ≠ (n : Int) := fun e => by
          rw [e] at hx
          exact (List.Nodup.not_mem_erase hd) hx
        omega)
      rw [List.length_erase_of_mem hm] at ih
      omega
    · have ih := nodup_len n D hd (fun x hx => by
        have h1 := h x hx
        have h2 : x ≠ (n : Int) := fun e => hm (by rw [← e]; exact hx)
        omega)
      omega
theorem RunsI.len {l : List Sm} {P : Sm → Prop} {c : Int → Nat} {R : List (List Mv)} (h : RunsI l P c R) : R.length ≤ l.length := by
  have h1 := nodup_len l.length (R.flatten.map Mv.k) h.nd (fun x hx => by
    obtain ⟨i, hi, rfl, _⟩ := (h.mem x).1 hx
    omega)
  rw [List.length_map] at h1
  refine Nat.le_trans ?_ h1
  have hg := h.good
  clear h h1
  induction R with
  | nil => simp
  | cons r R ih =>
    have h2 := ih (fun x hx => hg x (by simp [hx]))
    have h3 : 0 < r.length := List.length_pos_iff.2 (hg r (by simp)).1
    rw [List.flatten_cons, List.length_append, List.length_cons]
    omega
/-- the jumps, one by one -/
theorem jps_take (e : List Int) : ∀ (m : Nat) (h : 2 * m ≤ e.length), (firstN e m h).map (fun x => (⟨-1, e[2 * x.1]'(by omega), e[2 * x.1 + 1]⟩ : Ln)) = jps (e.take (2 * m))
  | 0, _ => rfl
  | m + 1, h => by
    have ih := jps_take e m (by omega)
    unfold firstN
    rw [List.map_append, ih]
    have e2 : e.take (2 * (m + 1)) = e.take (2 * m) ++ [e[2 * m], e[2 * m + 1]] := by
      rw [show 2 * (m + 1) = 2 * m + 1 + 1 by omega, List.take_succ_eq_append_getElem (by omega), List.take_succ_eq_append_getElem (by omega), List.append_assoc]; rfl
    rw [e2, jps_snoc _ _ _ (by rw [List.length_take]; omega)]
    rfl
theorem jps_first (e : List Int) (hev : e.length % 2 = 0) (h : 2 * (e.length / 2) ≤ e.length) : (firstN e (e.length / 2) h).map (fun x => (⟨-1, e[2 * x.1]'(by omega), e[2 * x.1 + 1]⟩ : Ln)) = jps e := by
  rw [jps_take, List.take_of_length_le (by omega)]

/-- what runs has found -/
def RuS (w : World) (N : Int) (A : Option Addr) (m cap : Nat) (l : List Sm) (P : Sm → Prop) (c : Int → Nat) (v : Value) (Ds : List Nat) (wr : World) : Prop :=
  ∃ R, Below w.heap.size w wr ∧ Bk 30 wr w.heap.size #[.int .i64 N, .slice A m cap] ∧ Vr 57 72 (w.heap.size + 1) wr v R ∧ RunsI l P c R ∧ DsOk (w.heap.size + 1) wr Ds
section
variable {w : World} {N : Int} {A : Option Addr} {m cap : Nat} {l : List Sm} {P P' : Sm → Prop} {c c' : Int → Nat} {v : Value} {Ds : List Nat} {wr w' : World}
theorem RuS.ext (h : RuS w N A m cap l P c v Ds wr) (hb : Below wr.heap.size wr w') : RuS w N A m cap l P c v Ds w' := by
  obtain ⟨R, h1, h2, h3, h4, h5⟩ := h
  exact ⟨R, bext h1 hb h1.size, h2.ext hb, h3.ext hb, h4, h5.ext hb⟩
theorem RuS.below (h : RuS w N A m cap l P c v Ds wr) : Below w.heap.size w wr := by
  obtain ⟨R, h1, _⟩ := h
  exact h1
theorem RuS.congr (h : RuS w N A m cap l P c v Ds wr) (hP : ∀ s ∈ l, P s ↔ P' s) (hc : ∀ t, c t = c' t) : RuS w N A m cap l P' c' v Ds wr := by
  obtain ⟨R, h1, h2, h3, h4, h5⟩ := h
  exact ⟨R, h1, h2, h3, h4.congr hP hc, h5⟩
end
/-- the runs of the first t threads -/
def cT (l : List Sm) (n t : Nat) (x : Int) : Nat := if 0 ≤ x ∧ x < t then fwT l x n else 0
/-- the runs of the first t threads, and of the first j classes of the next -/
def cJ (l : List Sm) (n t j : Nat) (x : Int) : Nat := cT l n t x + if x = t then fwT l t j else 0
theorem cJ_succ (l : List Sm) (n t j : Nat) (x : Int) : cJ l n t (j + 1) x = cJ l n t j x + if x = t then fwJ l t j else 0 := by
  unfold cJ
  split
  · show _ + (fwT l t j + fwJ l t j) = _; omega
  · omega
theorem cJ_all (l : List Sm) (n t : Nat) (x : Int) : cJ l n t n x = cT l n (t + 1) x := by
  unfold cJ cT
  by_cases hx : x = t
  · subst hx; rw [if_pos rfl, if_neg (by omega), if_pos (by push_cast; omega), Nat.zero_add]
  · rw [if_neg hx, Nat.add_zero]
    by_cases h2 : 0 ≤ x ∧ x < t
    · rw [if_pos h2, if_pos (by push_cast; omega)]
    · rw [if_neg h2, if_neg (by push_cast; omega)]
theorem pJ_succ {l : List Sm} {t j : Nat} {s : Sm} : ((s.t < t ∨ (s.t = t ∧ kls l t s.a.toNat < (j : Int))) ∨ chJ l t j s = true) ↔ (s.t < t ∨ (s.t = t ∧ kls l t s.a.toNat < ((j + 1 : Nat) : Int))) := by
  rw [chJ_iff]; push_cast; omega
theorem pJ_not {l : List Sm} {t j : Nat} {s : Sm} (h : s.t < t ∨ (s.t = t ∧ kls l t s.a.toNat < (j : Int))) : chJ l t j s = false := by
  cases hc : chJ l t j s
  · rfl
  · have := chJ_iff.1 hc; omega
theorem pJ_all {n : Nat} {l : List Sm} {t : Nat} (hl : ∀ s ∈ l, SmOk n s) {s : Sm} (hs : s ∈ l) : (s.t < t ∨ (s.t = t ∧ kls l t s.a.toNat < (n : Int))) ↔ s.t < ((t + 1 : Nat) : Int) := by
  have hso := hl s hs
  unfold SmOk at hso
  have := (kls_inv (n := n) (t : Int) hl).rng s.a.toNat (by omega)
  push_cast; omega

/-- the jump of a pair -/
def jmpL (e : List Int) (x : { i : Nat // 2 * i + 1 < e.length }) : Ln := ⟨-1, e[2 * x.1]'(by have := x.2; omega), e[2 * x.1 + 1]'x.2⟩
/-- what holds between two rounds over the pairs: B: behind the box of the lines; z: where the ends and their boxes begin -/
def RxI (z B : Nat) (W0 : World) (L0 : List Ln) (e : List Int) (pre : List { i : Nat // 2 * i + 1 < e.length }) (W : World) : Prop :=
  ∃ v, Bk 115 W B #[v] ∧ Vl (B + 1) W v (L0 ++ pre.map (jmpL e)) ∧ (∀ k, v.ownBlock = some k → k < z ∨ W0.heap.size ≤ k) ∧ (∀ k, z ≤ k → k < W0.heap.size → W.heap[k]? = W0.heap[k]?) ∧ Below B W0 W
theorem rxI_own {z B : Nat} {W0 : World} {L0 : List Ln} {e : List Int} (hB : B < W0.heap.size) : OwnFrom W0.heap.size (RxI z B W0 L0 e) := by
  rintro s W W' row ⟨v, h1, h2, h3, h4, h5⟩ hg hr
  refine ⟨v, (hg.block B h1.lt fun h => ?_).trans h1, own_keep h2 fun k hk => hg.block k (own_lt h2 k hk).2 fun h => ?_, h3, fun k hk hk2 => (hg.block k (Nat.lt_of_lt_of_le hk2 h5.size) fun h => ?_).trans (h4 k hk hk2), h5.grown hg (by have := h5.size; omega) fun k h => ?_⟩
  · have := (hr _ h.symm).1; omega
  · obtain ⟨_, o, ho, hc⟩ := hr _ h.symm
    rcases h2.2 with ⟨rfl, _⟩ | ⟨g, cap, cur, rfl, hg', hh, _⟩
    · cases hk
    · have : g = k := by simpa [Value.ownBlock] using hk
      subst this
      rw [hh] at ho
      injection ho with ho
      rw [← ho] at hc
      cases hc
  · have := (hr _ h.symm).1; omega
  · have := (hr _ h).1; omega
/-- what is kept within a round -/
def RxS (z B : Nat) (W0 W wx : World) : Prop := Below (B + 1) W wx ∧ (∀ k, z ≤ k → k < W0.heap.size → wx.heap[k]? = W0.heap[k]?) ∧ KeepsOthers W wx ∧ W0.heap.size ≤ wx.heap.size
theorem RxS.start {z B : Nat} {W0 W : World} (h4 : ∀ k, z ≤ k → k < W0.heap.size → W.heap[k]? = W0.heap[k]?) (hs : W0.heap.size ≤ W.heap.size) : RxS z B W0 W W.drew := ⟨⟨rfl, rfl, rfl, Nat.le_refl _, fun _ _ => rfl⟩, h4, KeepsOthers.drew W, hs⟩
theorem RxS.alloc {z B : Nat} {W0 W wx : World} (h : RxS z B W0 W wx) (hB : B + 1 ≤ W0.heap.size) (o : Obj) : RxS z B W0 W (wx.alloc o) :=
  ⟨h.1.alloc (by have := h.2.2.2; omega) o, fun k hk hk2 => (Below.heap_alloc wx o k (Nat.lt_of_lt_of_le hk2 h.2.2.2)).trans (h.2.1 k hk hk2), h.2.2.1.trans (KeepsOthers.alloc wx o), by have := h.2.2.2; simp; omega⟩
theorem RxS.grown {z B : Nat} {W0 W wx w' : World} {v : Value} {L : List Ln} (h : RxS z B W0 W wx) (hB : B + 1 ≤ W0.heap.size) (hg : wx.grownBy w' v.ownBlock) (hv : Vl (B + 1) wx v L) (hk : ∀ k, v.ownBlock = some k → k < z ∨ W0.heap.size ≤ k) : RxS z B W0 W w' := by
  refine ⟨h.1.grown hg (by have := h.2.2.2; omega) fun k e => (own_lt hv k e).1, fun k h1 h2 => (hg.block k (Nat.lt_of_lt_of_le h2 h.2.2.2) fun e => ?_).trans (h.2.1 k h1 h2), h.2.2.1.trans (KeepsOthers.of_grownBy hg fun j o e ho => ?_), Nat.le_trans h.2.2.2 hg.size⟩
  · have := hk k e.symm; omega
  · rcases hv.2 with ⟨rfl, _⟩ | ⟨g, cap, cur, rfl, hg', hh, _⟩
    · cases e
    · have : g = j := by simpa [Value.ownBlock] using e
      subst this
      rw [hh] at ho
      injection ho with ho
      rw [← ho]; rfl
/-- a round's end -/
theorem RxS.done {z B p q : Nat} {W0 W w5 : World} {L0 : List Ln} {e : List Int} {pre : List { i : Nat // 2 * i + 1 < e.length }} {x : { i : Nat // 2 * i + 1 < e.length }} {v v5 : Value} (hI : Bk 115 W B #[v]) (h4 : ∀ k, z ≤ k → k < W0.heap.size → W.heap[k]? = W0.heap[k]?) (h5 : Below B W0 W)
    (hs : RxS z B W0 W w5) (hv : Vl (B + 1) w5 v5 (L0 ++ (pre ++ [x]).map (jmpL e))) (hk : ∀ k, v5.ownBlock = some k → k < z ∨ W0.heap.size ≤ k) (hp : z ≤ p ∧ p < W0.heap.size) (hq : z ≤ q ∧ q < W0.heap.size) (hB : B < z) :
    KeepsFrom W0.heap.size W (w5.setCell ⟨B, 0, none⟩ v5) ∧ KpB p q W (w5.setCell ⟨B, 0, none⟩ v5) ∧ RxI z B W0 L0 e (pre ++ [x]) (w5.setCell ⟨B, 0, none⟩ v5) := by
  have hb5 : Bk 115 w5 B #[v] := hI.below hs.1 (by omega)
  have hoth : ∀ k, k ≠ B → (w5.setCell ⟨B, 0, none⟩ v5).heap[k]? = w5.heap[k]? := fun k hk => Below.heap_setCell _ _ _ _ hk
  refine ⟨(hs.2.2.1.trans (KeepsOthers.setCell w5 _ _)).from _, ⟨?_, ?_⟩, v5, hb5.set 0 v5, own_set hv (own_ne hv hb5 (by decide)), hk, fun k h1 h2 => (hoth k (by omega)).trans (hs.2.1 k h1 h2), ?_⟩
  · rw [hoth p (by omega), hs.2.1 p hp.1 hp.2, h4 p hp.1 hp.2]
  · rw [hoth q (by omega), hs.2.1 q hq.1 hq.2, h4 q hq.1 hq.2]
  · exact (h5.trans (hs.1.mono (by omega))).setCell (p := ⟨B, 0, none⟩) (Nat.le_refl _) _
theorem vl_snoc {base : Nat} {w : World} {v : Value} {L : List Ln} {p q r : Int} (h : w.ownsRow base 119 3 v (L.length + 1) (L.flatMap Ln.cells ++ [.int .i64 p, .int .i64 q, .int .i64 r])) : Vl base w v (L ++ [⟨p, q, r⟩]) := by
  have e : L.flatMap Ln.cells ++ [Value.int .i64 p, .int .i64 q, .int .i64 r] = (L ++ [(⟨p, q, r⟩ : Ln)]).flatMap Ln.cells := by rw [List.flatMap_append]; rfl
  have e2 : (L ++ [(⟨p, q, r⟩ : Ln)]).length = L.length + 1 := by simp
  unfold Vl
  rw [← e, e2]
  exact h
theorem parted_len (C : Option Addr) (cc m : Nat) (ms : List Mv) (w : World) (hm : ms.length = m) (hn : m ≤ 1000) (hcc : m ≤ cc) (hcm : cc ≤ 9223372036854775807) (hr : MSl w C ms) :
    Calls Try.prog 89 #[.slice C m cc] w fun e w' => ∃ (v : Value) (vs : List Value) (g cap : Nat), e = .returned v ∧ Below w.heap.size w w' ∧ vs.length = (spl [] (rotJ ms)).length ∧ (∀ j (h : j < vs.length) (h' : j < (spl [] (rotJ ms)).length), Vm 72 w.heap.size w' vs[j] (spl [] (rotJ ms))[j]) ∧
      ((spl [] (rotJ ms)).length = 0 ∨ (v = .slice (some ⟨g, 0, none⟩) (spl [] (rotJ ms)).length cap ∧ ∀ j u, vs[j]? = some u → w'.cell? ((⟨g, 0, none⟩ : Addr).add j) = some u)) := by
  subst hm
  refine (parted_any C cc ms w hn hcc hcm hr).mono ?_
  rintro e w' ⟨v, rfl, ⟨vs, h1, h2, h3⟩, hb⟩
  obtain ⟨A, cap, hv, _, _, h4⟩ := own_cells h2
  rcases h4 with h4 | ⟨g, rfl, _, _, hc⟩
  · exact ⟨v, vs, 0, 0, rfl, hb, h1, h3, .inl h4⟩
  · exact ⟨v, vs, g, cap, rfl, hb, h1, h3, .inr ⟨hv, fun j u hu => by rw [add_addr, Nat.zero_add]; exact hc j u hu⟩⟩
theorem tour_len2 {Y : List Ln} {f : Int} {hs : List Hop} (ht : Tour Y f hs) : hs.length = Y.length := by
  have := ht.2.length_eq
  rwa [List.length_map, List.length_range] at this
theorem jps_bd (l : List Sm) (t j : Int) : max 1 ((oddN (chJ l t j) l 16).length / 2) ≤ 8 := by
  have := oddN_len (chJ l t j) l 16
  omega
end Go.Proofs.Ytbhjhajnhpohlaa
