/- Texts joined: SpP, SpQ. Conditions: see each. -/
import Derived.Test.YtmgofdgbenfjmaaDoorStP
import Derived.Test.YtmgofdgbenfjmaaDoorPq1
import Derived.Test.YtmgofdgbenfjmaaDoorFl1
import Derived.Test.YtmgofdgbenfjmaaDoorMxP
import Derived.Test.YtmgofdgbenfjmaaDoorDv2
import Derived.Test.YtmgofdgbenfjmaaDoorPt1
namespace Go.Proofs.YtmgofdgbenfjmaaDoor

/-- the corners along the scan -/
def cornK (u : Int → Int → Bool) (n k : Nat) : List Cel := ((List.range k).map (celK n)).filter fun c => q3 u c.1 c.2
theorem cornK_succ (u : Int → Int → Bool) (n k : Nat) : cornK u n (k + 1) = cornK u n k ++ if q3 u (celK n k).1 (celK n k).2 then [celK n k] else [] := by
  unfold cornK
  rw [List.range_succ, List.map_append, List.filter_append]
  congr 1
  simp [List.filter_cons]
theorem cornK_len (u : Int → Int → Bool) (n k : Nat) : (cornK u n k).length ≤ k := by
  unfold cornK
  exact Nat.le_trans (List.length_filter_le _ _) (by simp)
theorem cornK_nodup (u : Int → Int → Bool) (n k : Nat) : (cornK u n k).Nodup := by
  unfold cornK
  refine List.Pairwise.filter _ ?_
  rw [List.pairwise_map]
  exact (List.nodup_iff_pairwise_ne.1 List.nodup_range).imp fun h e => h (celK_inj e)
theorem mem_cornK {u : Int → Int → Bool} {w h : Nat} (hs : ∀ x y, u x y = true → 0 ≤ x ∧ x < w ∧ 0 ≤ y ∧ y < h) (c : Cel) : c ∈ cornK u (w + 1) ((w + 1) * (h + 1)) ↔ q3 u c.1 c.2 = true := by
  unfold cornK
  rw [List.mem_filter, List.mem_map]
  constructor
  · exact fun h => h.2
  · intro hq
    refine ⟨?_, hq⟩
    have := q3_in hs hq
    obtain ⟨h1, h2⟩ := celK_idx (w := w + 1) (h := h + 1) (c := c) (by omega)
    exact ⟨idxC (w + 1) c, List.mem_range.2 h2, h1⟩
/-- the walls of chords -/
def walH (L : List Chd) (d : Cel) : Bool := L.any fun c => hwl c.1.2 (min c.1.1 c.2.1) (max c.1.1 c.2.1) d
def walV (L : List Chd) (d : Cel) : Bool := L.any fun c => vwl c.1.1 (min c.1.2 c.2.2) (max c.1.2 c.2.2) d
def endD (L : List Chd) (d : Cel) : Bool := L.any fun c => decide (d = c.1) || decide (d = c.2)
theorem any_take {α : Type} (f : α → Bool) (L : List α) {k : Nat} (h : k < L.length) : (L.take (k + 1)).any f = ((L.take k).any f || f L[k]) := by
  rw [List.take_succ_eq_append_getElem h, List.any_append]
  simp
/-- the rays from the corners that are left -/
def rayK (dn : Cel → Bool) (r : Cel → Int) (C : List Cel) (d : Cel) : Bool := C.any fun c => !dn c && hwl c.2 (min c.1 (r c)) (max c.1 (r c)) d
/-- one cell of the skin: marked cells, boxes -/
def spStep (us : Cel → Bool) (nx : Cel → List Cel) (n : Nat) (st : List Cel × List Bx) (c : Cel) : List Cel × List Bx :=
  if us c then (if c ∈ st.1 then st else ((fld nx us n st.1 c).1, st.2 ++ [boxL (fld nx us n st.1 c).2])) else st
def spK (us : Cel → Bool) (nx : Cel → List Cel) (n w k : Nat) : List Cel × List Bx := ((List.range k).map (celK w)).foldl (spStep us nx n) ([], [])
theorem spK_succ (us : Cel → Bool) (nx : Cel → List Cel) (n w k : Nat) : spK us nx n w (k + 1) = spStep us nx n (spK us nx n w k) (celK w k) := by
  unfold spK
  rw [List.range_succ, List.map_append, List.foldl_append]
  rfl
theorem spK_len (us : Cel → Bool) (nx : Cel → List Cel) (n w : Nat) : ∀ k, (spK us nx n w k).2.length ≤ k
  | 0 => Nat.le_refl _
  | k + 1 => by
    have ih := spK_len us nx n w k
    rw [spK_succ]
    unfold spStep
    split
    · split
      · omega
      · simp; omega
    · omega
def bxR (b : Bx) : Rn := ⟨b.x0.toNat, b.y0.toNat, (b.x1 - b.x0 + 1).toNat, (b.y1 - b.y0 + 1).toNat⟩

section
variable {p : Pln} {w h : Nat} {nx : Cel → List Cel}
/-- the neighbours that hang together -/
def Hng (p : Pln) (c d : Cel) : Prop := (d = (c.1, c.2 - 1) ∧ p.a c.1 c.2 = true) ∨ (d = (c.1, c.2 + 1) ∧ p.a c.1 (c.2 + 1) = true) ∨ (d = (c.1 - 1, c.2) ∧ p.l c.1 c.2 = true) ∨ (d = (c.1 + 1, c.2) ∧ p.l (c.1 + 1) c.2 = true)
theorem hng_in {B : Bx} (hB : IsBx p B) {c d : Cel} (hc : inB B c.1 c.2 = true) (h : Hng p c d) : inB B d.1 d.2 = true := by
  have k := inB_iff.1 hc
  rcases h with ⟨rfl, h⟩ | ⟨rfl, h⟩ | ⟨rfl, h⟩ | ⟨rfl, h⟩
  · have := (hB.a_ _ _ hc).1 h; exact inB_iff.2 ⟨k.1, k.2.1, by dsimp only; omega, by dsimp only; omega⟩
  · have := (hB.d_ _ _ hc).1 h; exact inB_iff.2 ⟨k.1, k.2.1, by dsimp only; omega, by dsimp only; omega⟩
  · have := (hB.l_ _ _ hc).1 h; exact inB_iff.2 ⟨by dsimp only; omega, by dsimp only; omega, k.2.2.1, k.2.2.2⟩
  · have := (hB.r_ _ _ hc).1 h; exact inB_iff.2 ⟨by dsimp only; omega, by dsimp only; omega, k.2.2.1, k.2.2.2⟩
theorem rch_box (hp : p.Ok w h) (hn : ∀ c d : Cel, p.u c.1 c.2 = true → p.u d.1 d.2 = true → (d ∈ nx c ↔ Hng p c d)) {B : Bx} (hB : IsBx p B) {c : Cel} (hc : inB B c.1 c.2 = true) (hu : p.u c.1 c.2 = true) (d : Cel) : Rch nx (fun c => p.u c.1 c.2) c d ↔ inB B d.1 d.2 = true := by
  have hcell := hB.cells hp hc hu
  constructor
  · intro hr
    induction hr with
    | refl => exact hc
    | step h1 h2 h3 ih => exact hng_in hB ih ((hn _ _ (hcell _ _ ih) h3).1 h2)
  · intro hd
    have st : ∀ {e f : Cel}, inB B e.1 e.2 = true → inB B f.1 f.2 = true → Rch nx (fun c => p.u c.1 c.2) c e → Hng p e f → Rch nx (fun c => p.u c.1 c.2) c f := fun {e f} he hf hr hh => .step hr ((hn e f (hcell _ _ he) (hcell _ _ hf)).2 hh) (hcell _ _ hf)
    have up : ∀ (n : Nat) (x y : Int), inB B x y = true → Rch nx (fun c => p.u c.1 c.2) c (x, y) → B.y0 ≤ y - n → Rch nx (fun c => p.u c.1 c.2) c (x, y - n) := fun n => by
      induction n with
      | zero => intro x y _ hr _; rw [Int.natCast_zero, Int.sub_zero]; exact hr
      | succ n ih =>
        intro x y hi hr hb
        have k := inB_iff.1 hi
        have h1 := ih x y hi hr (by omega)
        have h2 : inB B x (y - n) = true := inB_iff.2 ⟨k.1, k.2.1, by omega, by omega⟩
        have h3 : inB B x (y - (n + 1 : Nat)) = true := inB_iff.2 ⟨k.1, k.2.1, by omega, by omega⟩
        exact st (e := (x, y - n)) (f := (x, y - (n + 1 : Nat))) h2 h3 h1 (.inl ⟨by rw [show y - ((n + 1 : Nat) : Int) = y - n - 1 by omega], (hB.a_ _ _ h2).2 (by omega)⟩)
    have dn : ∀ (n : Nat) (x y : Int), inB B x y = true → Rch nx (fun c => p.u c.1 c.2) c (x, y) → y + n ≤ B.y1 → Rch nx (fun c => p.u c.1 c.2) c (x, y + n) := fun n => by
      induction n with
      | zero => intro x y _ hr _; rw [Int.natCast_zero, Int.add_zero]; exact hr
      | succ n ih =>
        intro x y hi hr hb
        have k := inB_iff.1 hi
        have h1 := ih x y hi hr (by omega)
        have h2 : inB B x (y + n) = true := inB_iff.2 ⟨k.1, k.2.1, by omega, by omega⟩
        have h3 : inB B x (y + (n + 1 : Nat)) = true := inB_iff.2 ⟨k.1, k.2.1, by omega, by omega⟩
        exact st (e := (x, y + n)) (f := (x, y + (n + 1 : Nat))) h2 h3 h1 (.inr (.inl ⟨by rw [show y + ((n + 1 : Nat) : Int) = y + n + 1 by omega], (hB.d_ _ _ h2).2 (by omega)⟩))
    have lf : ∀ (n : Nat) (x y : Int), inB B x y = true → Rch nx (fun c => p.u c.1 c.2) c (x, y) → B.x0 ≤ x - n → Rch nx (fun c => p.u c.1 c.2) c (x - n, y) := fun n => by
      induction n with
      | zero => intro x y _ hr _; rw [Int.natCast_zero, Int.sub_zero]; exact hr
      | succ n ih =>
        intro x y hi hr hb
        have k := inB_iff.1 hi
        have h1 := ih x y hi hr (by omega)
        have h2 : inB B (x - n) y = true := inB_iff.2 ⟨by omega, by omega, k.2.2.1, k.2.2.2⟩
        have h3 : inB B (x - (n + 1 : Nat)) y = true := inB_iff.2 ⟨by omega, by omega, k.2.2.1, k.2.2.2⟩
        exact st (e := (x - n, y)) (f := (x - (n + 1 : Nat), y)) h2 h3 h1 (.inr (.inr (.inl ⟨by rw [show x - ((n + 1 : Nat) : Int) = x - n - 1 by omega], (hB.l_ _ _ h2).2 (by omega)⟩)))
    have rt : ∀ (n : Nat) (x y : Int), inB B x y = true → Rch nx (fun c => p.u c.1 c.2) c (x, y) → x + n ≤ B.x1 → Rch nx (fun c => p.u c.1 c.2) c (x + n, y) := fun n => by
      induction n with
      | zero => intro x y _ hr _; rw [Int.natCast_zero, Int.add_zero]; exact hr
      | succ n ih =>
        intro x y hi hr hb
        have k := inB_iff.1 hi
        have h1 := ih x y hi hr (by omega)
        have h2 : inB B (x + n) y = true := inB_iff.2 ⟨by omega, by omega, k.2.2.1, k.2.2.2⟩
        have h3 : inB B (x + (n + 1 : Nat)) y = true := inB_iff.2 ⟨by omega, by omega, k.2.2.1, k.2.2.2⟩
        exact st (e := (x + n, y)) (f := (x + (n + 1 : Nat), y)) h2 h3 h1 (.inr (.inr (.inr ⟨by rw [show x + ((n + 1 : Nat) : Int) = x + n + 1 by omega], (hB.r_ _ _ h2).2 (by omega)⟩)))
    obtain ⟨cx, cy⟩ := c
    obtain ⟨dx, dy⟩ := d
    have kc := inB_iff.1 hc
    have kd := inB_iff.1 hd
    dsimp only at kc kd
    have h1 : Rch nx (fun c => p.u c.1 c.2) (cx, cy) (cx, dy) := by
      by_cases e : dy ≤ cy
      · have := up (cy - dy).toNat cx cy hc .refl (by omega)
        rwa [show cy - ((cy - dy).toNat : Int) = dy by omega] at this
      · have := dn (dy - cy).toNat cx cy hc .refl (by omega)
        rwa [show cy + ((dy - cy).toNat : Int) = dy by omega] at this
    have hm : inB B cx dy = true := inB_iff.2 ⟨kc.1, kc.2.1, kd.2.2.1, kd.2.2.2⟩
    by_cases e : dx ≤ cx
    · have := lf (cx - dx).toNat cx dy hm h1 (by omega)
      rwa [show cx - ((cx - dx).toNat : Int) = dx by omega] at this
    · have := rt (dx - cx).toNat cx dy hm h1 (by omega)
      rwa [show cx + ((dx - cx).toNat : Int) = dx by omega] at this
theorem box_of {B : Bx} {L : List Cel} (h0 : 0 ≤ B.x0 ∧ B.x0 ≤ B.x1 ∧ B.x1 ≤ 47 ∧ 0 ≤ B.y0 ∧ B.y0 ≤ B.y1 ∧ B.y1 ≤ 47) (hL : ∀ d, d ∈ L ↔ inB B d.1 d.2 = true) : boxL L = B := by
  have h1 := box_has ((hL (B.x0, B.y0)).2 (inB_iff.2 ⟨Int.le_refl _, h0.2.1, Int.le_refl _, h0.2.2.2.2.1⟩))
  have h2 := box_has ((hL (B.x1, B.y1)).2 (inB_iff.2 ⟨h0.2.1, Int.le_refl _, h0.2.2.2.2.1, Int.le_refl _⟩))
  rw [mem_box] at h1 h2
  dsimp only at h1 h2
  have h3 := fold_in (X0 := B.x0) (Y0 := B.y0) (X1 := B.x1) (Y1 := B.y1) L Bx.no (by unfold Bx.no; dsimp only; omega) fun c hc => by
    have := inB_iff.1 ((hL c).1 hc); omega
  have h3 : B.x0 ≤ (boxL L).x0 ∧ B.y0 ≤ (boxL L).y0 ∧ (boxL L).x1 ≤ B.x1 ∧ (boxL L).y1 ≤ B.y1 := h3
  have e0 : (boxL L).x0 = B.x0 := by omega
  have e1 : (boxL L).y0 = B.y0 := by omega
  have e2 : (boxL L).x1 = B.x1 := by omega
  have e3 : (boxL L).y1 = B.y1 := by omega
  revert e0 e1 e2 e3
  generalize boxL L = b
  obtain ⟨a1, a2, a3, a4⟩ := b
  obtain ⟨b1, b2, b3, b4⟩ := B
  dsimp only
  rintro rfl rfl rfl rfl
  rfl
def SpI (p : Pln) (st : List Cel × List Bx) : Prop := (∀ d, d ∈ st.1 ↔ ∃ B ∈ st.2, inB B d.1 d.2 = true) ∧ (∀ B ∈ st.2, IsBx p B ∧ ∃ x y, inB B x y = true ∧ p.u x y = true) ∧ st.2.Nodup
theorem SpI.step (hp : p.Ok w h) (hw : w ≤ 48) (hh : h ≤ 48) (hn : ∀ c d : Cel, p.u c.1 c.2 = true → p.u d.1 d.2 = true → (d ∈ nx c ↔ Hng p c d)) {U : List Cel} {n : Nat} (hU : ∀ c : Cel, p.u c.1 c.2 = true → c ∈ U) (hUn : U.length ≤ n) {st : List Cel × List Bx} (hI : SpI p st) (c : Cel) :
    SpI p (spStep (fun c => p.u c.1 c.2) nx n st c) ∧ (∀ d ∈ st.1, d ∈ (spStep (fun c => p.u c.1 c.2) nx n st c).1) ∧ (p.u c.1 c.2 = true → c ∈ (spStep (fun c => p.u c.1 c.2) nx n st c).1) := by
  obtain ⟨i1, i2, i3⟩ := hI
  unfold spStep
  by_cases hu : p.u c.1 c.2 = true
  · rw [if_pos hu]
    by_cases hc : c ∈ st.1
    · rw [if_pos hc]
      exact ⟨⟨i1, i2, i3⟩, fun _ h => h, fun _ => hc⟩
    · rw [if_neg hc]
      obtain ⟨B, hcB, hB⟩ := box_at hp hu
      have hr := rch_box hp hn hB hcB hu
      have hS : ∀ d, Rch nx (fun c => p.u c.1 c.2) c d → d ∉ st.1 := fun d hd hm => by
        obtain ⟨B', hB', hin⟩ := (i1 d).1 hm
        have := (i2 B' hB').1.uniq hB hin ((hr d).1 hd)
        subst this
        exact hc ((i1 c).2 ⟨B', hB', hcB⟩)
      obtain ⟨k1, k2, k3⟩ := fld_all (next := nx) (is := fun c => p.u c.1 c.2) hU (hU c hu) hS hUn
      have hcell := hB.cells hp hcB hu
      have hbx : boxL (fld nx (fun c => p.u c.1 c.2) n st.1 c).2 = B := by
        refine box_of ?_ fun d => (k3 d).trans (hr d)
        have h1 := hp.sup _ _ (hcell B.x0 B.y0 (inB_iff.2 ⟨Int.le_refl _, hB.ok.1, Int.le_refl _, hB.ok.2⟩))
        have h2 := hp.sup _ _ (hcell B.x1 B.y1 (inB_iff.2 ⟨hB.ok.1, Int.le_refl _, hB.ok.2, Int.le_refl _⟩))
        have := hB.ok
        omega
      rw [hbx]
      refine ⟨⟨fun d => ?_, fun B' hB' => ?_, ?_⟩, fun d hd => by rw [k1]; exact List.mem_append.2 (.inl hd), fun _ => by rw [k1]; exact List.mem_append.2 (.inr ((k3 c).2 .refl))⟩
      · show d ∈ (fld nx (fun c => p.u c.1 c.2) n st.1 c).1 ↔ _
        rw [k1, List.mem_append, i1 d, k3 d, hr d]
        constructor
        · rintro (⟨B', h1, h2⟩ | h1)
          · exact ⟨B', by simp [h1], h2⟩
          · exact ⟨B, by simp, h1⟩
        · rintro ⟨B', h1, h2⟩
          rcases List.mem_append.1 h1 with h1 | h1
          · exact .inl ⟨B', h1, h2⟩
          · simp at h1; subst h1; exact .inr h2
      · rcases List.mem_append.1 hB' with h1 | h1
        · exact i2 B' h1
        · simp at h1; subst h1; exact ⟨hB, c.1, c.2, hcB, hu⟩
      · show (st.2 ++ [B]).Nodup
        rw [List.nodup_append]
        exact ⟨i3, by simp, fun a ha b hb e => by
          simp at hb; subst hb; subst e
          exact hc ((i1 c).2 ⟨_, ha, hcB⟩)⟩
  · rw [if_neg hu]
    exact ⟨⟨i1, i2, i3⟩, fun _ h => h, fun h => absurd h hu⟩
theorem SpI.steps (hp : p.Ok w h) (hw : w ≤ 48) (hh : h ≤ 48) (hn : ∀ c d : Cel, p.u c.1 c.2 = true → p.u d.1 d.2 = true → (d ∈ nx c ↔ Hng p c d)) {U : List Cel} {n : Nat} (hU : ∀ c : Cel, p.u c.1 c.2 = true → c ∈ U) (hUn : U.length ≤ n) : ∀ (cs : List Cel) {st : List Cel × List Bx}, SpI p st →
    SpI p (cs.foldl (spStep (fun c => p.u c.1 c.2) nx n) st) ∧ (∀ d ∈ st.1, d ∈ (cs.foldl (spStep (fun c => p.u c.1 c.2) nx n) st).1) ∧ ∀ c ∈ cs, p.u c.1 c.2 = true → c ∈ (cs.foldl (spStep (fun c => p.u c.1 c.2) nx n) st).1
  | [], _, hI => ⟨hI, fun _ h => h, (fun c h => nomatch h)⟩
  | c :: cs, st, hI => by
    obtain ⟨h1, h2, h3⟩ := hI.step hp hw hh hn hU hUn c
    obtain ⟨k1, k2, k3⟩ := SpI.steps hp hw hh hn hU hUn cs h1
    refine ⟨k1, fun d hd => k2 d (h2 d hd), fun d hd hu => ?_⟩
    rcases List.mem_cons.1 hd with rfl | hd
    · exact k2 _ (h3 hu)
    · exact k3 d hd hu
/-- the floods are the boxes of the plane -/
theorem sp_dv (hp : p.Ok w h) (hw : w ≤ 48) (hh : h ≤ 48) (hn : ∀ c d : Cel, p.u c.1 c.2 = true → p.u d.1 d.2 = true → (d ∈ nx c ↔ Hng p c d)) {n : Nat} (hn3 : 2304 ≤ n) : Dv p.u (spK (fun c => p.u c.1 c.2) nx n w (w * h)).2 ∧ plnOf p.u (spK (fun c => p.u c.1 c.2) nx n w (w * h)).2 = p := by
  have hU : ∀ c : Cel, p.u c.1 c.2 = true → c ∈ (List.range (w * h)).map (celK w) := fun c hc => by
    obtain ⟨h1, h2⟩ := celK_idx (w := w) (h := h) (hp.sup _ _ hc)
    exact List.mem_map.2 ⟨_, List.mem_range.2 h2, h1⟩
  obtain ⟨⟨i1, i2, i3⟩, _, k3⟩ := SpI.steps hp hw hh hn hU (by rw [List.length_map, List.length_range]; exact Nat.le_trans (Nat.mul_le_mul hw hh) hn3) ((List.range (w * h)).map (celK w)) (st := ([], [])) ⟨fun d => ⟨(fun h => nomatch h), fun ⟨_, h, _⟩ => nomatch h⟩, (fun B h => nomatch h), List.nodup_nil⟩
  exact dv_of hp i3 i2 fun x y hu => (i1 (x, y)).1 (k3 (x, y) (hU (x, y) hu) hu)
end
end Go.Proofs.YtmgofdgbenfjmaaDoor
