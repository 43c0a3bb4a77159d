/- Plain law of the trail (Hierholzer): the stack and what was popped are walks, the degrees even, each line is had once. No conditions. -/
import Derived.Test.YtbhjhajnhpohlaaRd
import Derived.Test.YtbhjhajnhpohlaaSwP
namespace Go.Proofs.Ytbhjhajnhpohlaa

/-- a hop: a line and the way along it -/
structure Hop where
  k : Nat
  r : Bool
instance : Inhabited Ln := ⟨⟨0, 0, 0⟩⟩
def Ln.fr (s : Ln) (r : Bool) : Int := if r then s.b else s.a
def Ln.to_ (s : Ln) (r : Bool) : Int := if r then s.a else s.b
def lnAt (L : List Ln) (k : Nat) : Ln := L.getD k default
theorem lnAt_get {L : List Ln} {k : Nat} (h : k < L.length) : lnAt L k = L[k] := by simp [lnAt, List.getD, h]
def Hop.fr (L : List Ln) (h : Hop) : Int := (lnAt L h.k).fr h.r
def Hop.to_ (L : List Ln) (h : Hop) : Int := (lnAt L h.k).to_ h.r
def Hop.mv (L : List Ln) (h : Hop) : Mv := ⟨(lnAt L h.k).k, h.r⟩
/-- a walk along lines -/
inductive Trk (L : List Ln) : Int → List Hop → Int → Prop
  | nil (x : Int) : Trk L x [] x
  | cons {x y : Int} (h : Hop) (hs : List Hop) (hk : h.k < L.length) (hx : h.fr L = x) (t : Trk L (h.to_ L) hs y) : Trk L x (h :: hs) y
theorem Trk.append {L : List Ln} {x y z : Int} {hs gs : List Hop} (h : Trk L x hs y) (g : Trk L y gs z) : Trk L x (hs ++ gs) z := by
  induction h with
  | nil => exact g
  | cons h hs hk hx _ ih => exact .cons h _ hk hx (ih g)
theorem Trk.one {L : List Ln} (h : Hop) (hk : h.k < L.length) : Trk L (h.fr L) [h] (h.to_ L) := .cons h [] hk rfl (.nil _)
theorem Trk.snoc {L : List Ln} {x y : Int} {hs : List Hop} {h : Hop} (w : Trk L x (hs ++ [h]) y) : h.k < L.length ∧ Trk L x hs (h.fr L) ∧ h.to_ L = y := by
  induction hs generalizing x with
  | nil =>
    cases w with
    | cons _ _ hk hx t =>
      cases t
      subst hx
      exact ⟨hk, .nil _, rfl⟩
  | cons g gs ih =>
    cases w with
    | cons _ _ hk hx t =>
      obtain ⟨h1, h2, h3⟩ := ih t
      exact ⟨h1, .cons g gs hk hx h2, h3⟩
theorem Trk.lt {L : List Ln} {x y : Int} {hs : List Hop} (w : Trk L x hs y) : ∀ h ∈ hs, h.k < L.length := by
  induction w with
  | nil => intro h hh; cases hh
  | cons h hs hk _ _ ih =>
    intro g hg
    rcases List.mem_cons.1 hg with rfl | hg
    · exact hk
    · exact ih g hg
theorem Trk.nil_eq {L : List Ln} {x y : Int} (w : Trk L x [] y) : x = y := by cases w; rfl
/-- ends of a line at a joint -/
def lnInc (s : Ln) (v : Int) : Nat := (if s.a = v then 1 else 0) + (if s.b = v then 1 else 0)
def lnDeg (L : List Ln) (v : Int) : Nat := (L.map fun s => lnInc s v).sum
def hopDeg (L : List Ln) (hs : List Hop) (v : Int) : Nat := (hs.map fun h => lnInc (lnAt L h.k) v).sum
theorem inc_hop (L : List Ln) (h : Hop) (v : Int) : lnInc (lnAt L h.k) v = (if h.fr L = v then 1 else 0) + (if h.to_ L = v then 1 else 0) := by
  unfold lnInc Hop.fr Hop.to_ Ln.fr Ln.to_
  cases h.r
  · simp
  · simp [Nat.add_comm]
theorem Trk.par {L : List Ln} {x y : Int} {hs : List Hop} (w : Trk L x hs y) (v : Int) : hopDeg L hs v % 2 = ((if x = v then 1 else 0) + (if y = v then 1 else 0)) % 2 := by
  induction w with
  | nil x => simp [hopDeg]; split <;> rfl
  | cons h hs hk hx _ ih =>
    have e : hopDeg L (h :: hs) v = lnInc (lnAt L h.k) v + hopDeg L hs v := by simp [hopDeg]
    rw [e, inc_hop, hx]
    omega
theorem hopDeg_append (L : List Ln) (a b : List Hop) (v : Int) : hopDeg L (a ++ b) v = hopDeg L a v + hopDeg L b v := by
  unfold hopDeg; rw [List.map_append, List.sum_append_nat]
theorem hopDeg_rev (L : List Ln) (a : List Hop) (v : Int) : hopDeg L a.reverse v = hopDeg L a v := by
  unfold hopDeg; exact ((List.reverse_perm a).map _).sum_nat
theorem range_map_deg (L : List Ln) (v : Int) : ((List.range L.length).map fun k => lnInc (lnAt L k) v).sum = lnDeg L v := by
  unfold lnDeg
  congr 1
  apply List.ext_getElem
  · simp
  · intro i h1 h2
    have : i < L.length := by simpa using h2
    simp [lnAt_get this]
theorem sum_part (f : Nat → Nat) (p : Nat → Bool) : ∀ l : List Nat, (∀ k ∈ l, p k = false → f k = 0) → (l.map f).sum = ((l.filter p).map f).sum
  | [], _ => rfl
  | a :: l, h => by
    have ih := sum_part f p l (fun k hk => h k (List.mem_cons_of_mem _ hk))
    cases hp : p a
    · rw [List.filter_cons_of_neg (by simp [hp])]
      simp only [List.map_cons, List.sum_cons]
      rw [h a (by simp) hp, ih]; omega
    · rw [List.filter_cons_of_pos hp]
      simp only [List.map_cons, List.sum_cons]
      rw [ih]
/-- each number once, what is left out counts nothing -/
theorem sum_nodup {f : Nat → Nat} {n : Nat} {ks : List Nat} (hn : ks.Nodup) (hlt : ∀ k ∈ ks, k < n) (h0 : ∀ k, k < n → k ∉ ks → f k = 0) : (ks.map f).sum = ((List.range n).map f).sum := by
  rw [sum_part f (fun k => decide (k ∈ ks)) (List.range n) (fun k hk hp => h0 k (List.mem_range.1 hk) (of_decide_eq_false hp))]
  refine (List.Perm.map _ ?_).sum_nat
  refine (List.perm_ext_iff_of_nodup hn (List.nodup_range.sublist List.filter_sublist)).2 fun a => ?_
  rw [List.mem_filter, List.mem_range]
  constructor
  · intro h; exact ⟨hlt a h, decide_eq_true h⟩
  · intro h; exact of_decide_eq_true h.2

/-- the state of the trail: from f, t on top, s where the last popped began, the stack, the popped -/
structure TrI (L : List Ln) (f t s : Int) (st po : List Hop) : Prop where
  w1 : Trk L f st t
  w2 : Trk L s po.reverse f
  nd : ((st ++ po).map Hop.k).Nodup
  dn : ∀ h ∈ po, ∀ k, k < L.length → k ∉ (st ++ po).map Hop.k → lnInc (lnAt L k) (h.to_ L) = 0
theorem TrI.start (L : List Ln) (f : Int) : TrI L f f f [] [] := ⟨.nil _, .nil _, by simp, fun h hh => by cases hh⟩
theorem TrI.lt {L : List Ln} {f t s : Int} {st po : List Hop} (h : TrI L f t s st po) : ∀ k ∈ (st ++ po).map Hop.k, k < L.length := by
  intro k hk
  obtain ⟨g, hg, rfl⟩ := List.mem_map.1 hk
  rcases List.mem_append.1 hg with hg | hg
  · exact h.w1.lt g hg
  · exact h.w2.lt g (by simpa using hg)
theorem TrI.push {L : List Ln} {f t s : Int} {st po : List Hop} (h : TrI L f t s st po) {k : Nat} {r : Bool} (hk : k < L.length) (hu : k ∉ (st ++ po).map Hop.k) (hr : (lnAt L k).fr r = t) : TrI L f ((lnAt L k).to_ r) s (st ++ [⟨k, r⟩]) po := by
  refine TrI.mk (h.w1.append ?_) h.w2 ?_ ?_
  · have := Trk.one (L := L) ⟨k, r⟩ hk
    unfold Hop.fr Hop.to_ at this
    dsimp only at this
    rw [hr] at this
    exact this
  · have hp : ((st ++ [Hop.mk k r] ++ po).map Hop.k).Perm (k :: (st ++ po).map Hop.k) := by
      simp only [List.map_append, List.map_cons, List.map_nil, List.append_assoc]
      exact List.perm_middle
    exact hp.nodup_iff.2 (List.nodup_cons.2 ⟨hu, h.nd⟩)
  · intro g hg q hq hnq
    refine h.dn g hg q hq fun hin => hnq ?_
    simp only [List.map_append, List.mem_append] at hin ⊢
    rcases hin with hin | hin
    · exact .inl (.inl hin)
    · exact .inr hin
/-- where no line is left at the top joint it is where the last popped began -/
theorem TrI.stuck {L : List Ln} {f t s : Int} {st po : List Hop} (h : TrI L f t s st po) (hev : ∀ v, lnDeg L v % 2 = 0) (h0 : ∀ k, k < L.length → k ∉ (st ++ po).map Hop.k → lnInc (lnAt L k) t = 0) : s = t := by
  have e1 := sum_nodup (f := fun k => lnInc (lnAt L k) t) h.nd h.lt h0
  rw [range_map_deg] at e1
  have e2 : ((st ++ po).map Hop.k |>.map fun k => lnInc (lnAt L k) t) = (st ++ po).map fun h => lnInc (lnAt L h.k) t := by rw [List.map_map]; rfl
  rw [e2] at e1
  have e3 : hopDeg L (st ++ po) t = lnDeg L t := e1
  rw [hopDeg_append, ← hopDeg_rev L po] at e3
  have p1 := h.w1.par t
  have p2 := h.w2.par t
  have p3 := hev t
  rw [if_pos rfl] at p1
  by_cases hs : s = t
  · exact hs
  · rw [if_neg hs] at p2
    omega
theorem TrI.pop {L : List Ln} {f t s : Int} {st po : List Hop} {g : Hop} (h : TrI L f t s (st ++ [g]) po) (hev : ∀ v, lnDeg L v % 2 = 0) (h0 : ∀ k, k < L.length → k ∉ (st ++ [g] ++ po).map Hop.k → lnInc (lnAt L k) t = 0) : TrI L f (g.fr L) (g.fr L) st (po ++ [g]) := by
  have hst := h.stuck hev h0
  obtain ⟨hk, w1, hto⟩ := h.w1.snoc
  have hm : ∀ q, q ∉ (st ++ (po ++ [g])).map Hop.k → q ∉ (st ++ [g] ++ po).map Hop.k := by
    intro q hq hin
    apply hq
    simp only [List.map_append, List.mem_append] at hin ⊢
    rcases hin with (hin | hin) | hin
    · exact .inl hin
    · exact .inr (.inr hin)
    · exact .inr (.inl hin)
  refine ⟨w1, ?_, ?_, ?_⟩
  · rw [List.reverse_append]
    refine .cons g _ hk rfl ?_
    rw [hto, ← hst]
    exact h.w2
  · have hp : ((st ++ (po ++ [g])).map Hop.k).Perm ((st ++ [g] ++ po).map Hop.k) := by
      simp only [List.append_assoc]
      exact ((List.perm_append_comm).append_left st).map _
    exact hp.nodup_iff.2 h.nd
  · intro a ha q hq hnq
    rcases List.mem_append.1 ha with ha | ha
    · exact h.dn a ha q hq (hm q hnq)
    · have : a = g := by simpa using ha
      subst this
      rw [hto]
      exact h0 q hq (hm q hnq)

/-- all lines hang together with a joint -/
def Hangs (L : List Ln) (f : Int) : Prop := ∀ S : Int → Prop, S f → (∀ k, k < L.length → (S (lnAt L k).a ↔ S (lnAt L k).b)) → ∀ k, k < L.length → S (lnAt L k).a
/-- a closed walk that has each line once -/
def Tour (L : List Ln) (f : Int) (hs : List Hop) : Prop := Trk L f hs f ∧ (hs.map Hop.k).Perm (List.range L.length)
theorem Trk.src {L : List Ln} {x y : Int} {hs : List Hop} (w : Trk L x hs y) : ∀ h ∈ hs, h.fr L = x ∨ ∃ g ∈ hs, g.to_ L = h.fr L := by
  induction w with
  | nil => intro h hh; cases hh
  | cons h hs hk hx _ ih =>
    intro g hg
    rcases List.mem_cons.1 hg with rfl | hg
    · exact .inl hx
    · rcases ih g hg with h1 | ⟨q, hq, hq2⟩
      · exact .inr ⟨h, by simp, h1.symm⟩
      · exact .inr ⟨q, by simp [hq], hq2⟩
theorem inc_a {s : Ln} {v : Int} (h : lnInc s v = 0) : s.a ≠ v ∧ s.b ≠ v := by
  unfold lnInc at h
  constructor
  · intro e; rw [if_pos e] at h; omega
  · intro e; rw [if_pos e] at h; omega
theorem hop_ends (L : List Ln) (h : Hop) : (h.fr L = (lnAt L h.k).a ∧ h.to_ L = (lnAt L h.k).b) ∨ (h.fr L = (lnAt L h.k).b ∧ h.to_ L = (lnAt L h.k).a) := by
  unfold Hop.fr Hop.to_ Ln.fr Ln.to_
  cases h.r
  · exact .inl ⟨rfl, rfl⟩
  · exact .inr ⟨rfl, rfl⟩
/-- the bottom is popped: a tour is found -/
theorem TrI.done {L : List Ln} {f t s : Int} {po : List Hop} (h : TrI L f t s [] po) (hev : ∀ v, lnDeg L v % 2 = 0) (h0 : ∀ k, k < L.length → k ∉ ([] ++ po).map Hop.k → lnInc (lnAt L k) t = 0) (hc : Hangs L f) : Tour L f po.reverse := by
  have hft := h.w1.nil_eq
  have hst := h.stuck hev h0
  subst hft hst
  have hall : ∀ k, k < L.length → k ∈ po.map Hop.k := by
    let S : Int → Prop := fun v => v = s ∨ ∃ g ∈ po, g.to_ L = v
    have hS : ∀ v, S v → ∀ k, k < L.length → k ∉ po.map Hop.k → lnInc (lnAt L k) v = 0 := by
      intro v hv k hk hn
      rcases hv with rfl | ⟨g, hg, rfl⟩
      · exact h0 k hk hn
      · exact h.dn g hg k hk hn
    have hin : ∀ k, k ∈ po.map Hop.k → S (lnAt L k).a ∧ S (lnAt L k).b := by
      intro k hk
      obtain ⟨g, hg, rfl⟩ := List.mem_map.1 hk
      have h1 : S (g.to_ L) := .inr ⟨g, hg, rfl⟩
      have h2 : S (g.fr L) := by
        rcases h.w2.src g (by simpa using hg) with h3 | ⟨q, hq, hq2⟩
        · exact .inl h3
        · exact .inr ⟨q, by simpa using hq, hq2⟩
      rcases hop_ends L g with ⟨e1, e2⟩ | ⟨e1, e2⟩ <;> rw [e1] at h2 <;> rw [e2] at h1
      · exact ⟨h2, h1⟩
      · exact ⟨h1, h2⟩
    intro k hk
    refine Classical.byContradiction fun hn => ?_
    have hcl := hc S (.inl rfl) (fun q hq => by
      by_cases hqp : q ∈ po.map Hop.k
      · obtain ⟨a, b⟩ := hin q hqp
        exact ⟨fun _ => b, fun _ => a⟩
      · constructor
        · intro hs; exact absurd rfl (inc_a (hS _ hs q hq hqp)).1
        · intro hs; exact absurd rfl (inc_a (hS _ hs q hq hqp)).2) k hk
    exact absurd rfl (inc_a (hS _ hcl k hk hn)).1
  refine ⟨h.w2, ?_⟩
  refine (List.perm_ext_iff_of_nodup ?_ List.nodup_range).2 fun k => ?_
  · have := h.nd
    rw [List.nil_append] at this
    rw [List.map_reverse]
    exact (List.reverse_perm _).nodup_iff.2 this
  · rw [List.map_reverse, List.mem_reverse, List.mem_range]
    exact ⟨fun hk => h.lt k (by simpa using hk), hall k⟩
end Go.Proofs.Ytbhjhajnhpohlaa
