/- SeamSewn: the machine on the program of a sewing (plain), and the law walked. Conditions: the graph and the runs read as lists, each slice within 2^47 bytes. -/
import Derived.Test.YtbhjhajnhpohlaaMrc
import Derived.Test.YtbhjhajnhpohlaaMrn
import Derived.Test.YtbhjhajnhpohlaaCmp
import Derived.Test.YtbhjhajnhpohlaaThP
import Derived.Test.YtbhjhajnhpohlaaCma
import Derived.Test.YtbhjhajnhpohlaaTha
import Derived.Test.YtbhjhajnhpohlaaRo
namespace Go.Proofs.Ytbhjhajnhpohlaa
open Go.RowKit

/-- ops that go on without a fault -/
def Goes (fuel N : Int) (l : List Sm) : List Opr → Mc → Mc → Prop
  | [], m, m' => m' = m
  | o :: ops, m, m' => o.c ≠ 5 ∧ ∃ m1, pstep fuel N l o m = (0, m1) ∧ Goes fuel N l ops m1 m'
section
variable {fuel N : Int} {l : List Sm}
theorem Goes.app {a b : List Opr} : ∀ {m m1 m2 : Mc}, Goes fuel N l a m m1 → Goes fuel N l b m1 m2 → Goes fuel N l (a ++ b) m m2 := by
  induction a with
  | nil => intro m m1 m2 h k; cases h; exact k
  | cons o a ih =>
    intro m m1 m2 h k
    obtain ⟨h5, m3, h1, h2⟩ := h
    exact ⟨h5, m3, h1, ih h2 k⟩
theorem Goes.exec : ∀ {ops : List Opr} {m m' : Mc}, Goes fuel N l ops m m' → exec fuel N l ops m = (0, m')
  | [], m, m', h => by cases h; rfl
  | [o], m, m', h => by
    obtain ⟨h5, m1, h1, h2⟩ := h
    cases h2
    show (if o.c = 5 then _ else _) = _
    rw [if_neg h5, h1]
  | o :: o2 :: rest, m, m', h => by
    obtain ⟨h5, m1, h1, h2⟩ := h
    have ih := Goes.exec h2
    show (if o.c = 5 then _ else _) = _
    rw [if_neg h5, h1, if_pos rfl]
    exact ih
theorem Goes.one {o : Opr} {m m1 : Mc} (h5 : o.c ≠ 5) (h : pstep fuel N l o m = (0, m1)) : Goes fuel N l [o] m m1 := ⟨h5, m1, h, rfl⟩
theorem pstep_of {o : Opr} {m m1 : Mc} (hs : m.s < fuel) (h : pst N l o m = (0, m1)) : pstep fuel N l o m = (0, { m1 with s := m.s + 1 }) := by
  unfold pstep
  rw [if_neg (by omega), h, if_pos rfl]
end
/-- three times the length, for moves of a thread -/
def twM (l : List Sm) (t : Nat) (m : Mv) : Int := if m.thr l = (t : Int) then 3 * m.len l else 0
def tw (l : List Sm) (t : Nat) (D : List Mv) : Int := (D.map (twM l t)).sum
theorem tw_app (l : List Sm) (t : Nat) (a b : List Mv) : tw l t (a ++ b) = tw l t a + tw l t b := by unfold tw; rw [List.map_append, List.sum_append_int]
theorem tw_one (l : List Sm) (t : Nat) (m : Mv) : tw l t [m] = twM l t m := by simp [tw]
theorem len_bd {N : Int} {l : List Sm} (hl : ∀ s ∈ l, SmOk N s) (m : Mv) : 0 ≤ m.len l ∧ m.len l ≤ 10000 := by
  unfold Mv.len
  split
  · rename_i s hs
    have := hl _ (List.mem_of_getElem? hs)
    unfold SmOk at this
    omega
  · omega
theorem tw_bd {N : Int} {l : List Sm} (hl : ∀ s ∈ l, SmOk N s) (t : Nat) : ∀ D : List Mv, 0 ≤ tw l t D ∧ tw l t D ≤ 30000 * D.length
  | [] => by simp [tw]
  | m :: D => by
    have ih := tw_bd hl t D
    have hb := len_bd hl m
    have e : tw l t (m :: D) = twM l t m + tw l t D := by simp [tw]
    rw [e, List.length_cons]
    unfold twM
    split <;> omega
/-- a thread's number of runs -/
def cnT (l : List Sm) (t : Nat) (ds : List (List Mv)) : Nat := ds.countP fun r => decide (runT l r = (t : Int))
/-- the machine's state: n steps, at joint a, thread h in hand, ds runs and D moves done, x extra used by thread y -/
structure StI (l : List Sm) (n : Nat) (a h y x : Int) (ds : List (List Mv)) (D : List Mv) (m : Mc) : Prop where
  s : m.s = n
  a : m.a = a
  h : m.h = h
  k : m.k = ds.length
  sw : ∀ i : Nat, i < l.length → m.sw i = ((D.map Mv.k).count (i : Int) : Nat)
  us : ∀ t : Nat, t < 8 → m.us t = 10 * (cnT l t ds : Int) + (if y = (t : Int) then x else 0) + tw l t D
section
variable {fuel N : Int} {l : List Sm} {n : Nat} {a h y x : Int} {ds : List (List Mv)} {D : List Mv} {m : Mc}
theorem StI.corner (hm : StI l n a (-1) y x ds D m) (hf : (n : Int) < fuel) {g : Int} (hg : g < N) : ∃ m', Goes fuel N l [⟨1, g, false⟩] m m' ∧ StI l (n + 1) g (-1) y x ds D m' := by
  refine ⟨_, Goes.one (by show ¬ (1 : Int) = 5; decide) (pstep_of (by rw [hm.s]; exact hf) (m1 := { m with a := g }) ?_), ⟨?_, rfl, hm.h, hm.k, hm.sw, hm.us⟩⟩
  · unfold pst
    rw [if_neg (show ¬ (1 : Int) = 0 by decide), if_pos rfl, if_neg (by rw [hm.h]; decide), if_neg (by show ¬ N ≤ g; omega)]
  · show m.s + 1 = _
    rw [hm.s]; push_cast; rfl
theorem StI.pick (hm : StI l n a (-1) y x ds D m) (hf : (n : Int) < fuel) (g : Int) : ∃ m', Goes fuel N l [⟨0, g, false⟩] m m' ∧ StI l (n + 1) a g y x ds D m' := by
  refine ⟨_, Goes.one (by show ¬ (0 : Int) = 5; decide) (pstep_of (by rw [hm.s]; exact hf) (m1 := { m with h := g }) ?_), ⟨?_, hm.a, rfl, hm.k, hm.sw, hm.us⟩⟩
  · unfold pst
    rw [if_pos rfl, if_neg (by rw [hm.h]; decide)]
  · show m.s + 1 = _
    rw [hm.s]; push_cast; rfl
/-- the bounds of a state -/
theorem us_bd (hl : ∀ s ∈ l, SmOk N s) (hx : 0 ≤ x ∧ x ≤ 10) (hd : ds.length ≤ 64) (hD : D.length ≤ 64) (hm : StI l n a h y x ds D m) (t : Nat) (ht : t < 8) : 0 ≤ m.us t ∧ m.us t ≤ 2000000 := by
  have h1 := hm.us t ht
  have h2 := tw_bd hl t D
  have h3 : cnT l t ds ≤ ds.length := List.countP_le_length
  rw [h1]
  split <;> omega
theorem wrap_id {z : Int} (h : 0 ≤ z ∧ z ≤ 4000000) : wrap64 z = z := by unfold wrap64; omega
theorem StI.knot (hl : ∀ s ∈ l, SmOk N s) (hx : 0 ≤ x ∧ x ≤ 6) (hd : ds.length ≤ 64) (hD : D.length ≤ 64) (hy : 0 ≤ y ∧ y < 8) (hm : StI l n a y y x ds D m) (hf : (n : Int) < fuel) : ∃ m', Goes fuel N l [⟨2, 0, false⟩] m m' ∧ StI l (n + 1) a y y (x + 4) ds D m' := by
  obtain ⟨q, rfl⟩ := Int.eq_ofNat_of_zero_le hy.1
  refine ⟨_, Goes.one (by show ¬ (2 : Int) = 5; decide) (pstep_of (by rw [hm.s]; exact hf) (m1 := m.use 4) ?_), ⟨?_, hm.a, hm.h, hm.k, hm.sw, ?_⟩⟩
  · unfold pst
    rw [if_neg (show ¬ (2 : Int) = 0 by decide), if_neg (show ¬ (2 : Int) = 1 by decide), if_neg (by rw [hm.h]; omega), if_pos rfl]
  · show m.s + 1 = _
    rw [hm.s]; push_cast; rfl
  · intro t ht
    have hb := us_bd hl ⟨hx.1, by omega⟩ hd hD hm q (by omega)
    have h1 := hm.us t ht
    show upd m.us m.h.toNat (wrap64 (m.us m.h.toNat + 4)) t = _
    rw [hm.h, Int.toNat_natCast, wrap_id (by omega)]
    unfold upd
    by_cases he : t = q
    · subst he
      rw [if_pos rfl, h1, if_pos rfl, if_pos rfl]; omega
    · rw [if_neg he, h1, if_neg (by omega), if_neg (by omega)]
theorem StI.cut (hl : ∀ s ∈ l, SmOk N s) {r : List Mv} (hd : ds.length ≤ 64) (hD : D.length ≤ 64) (hy : 0 ≤ runT l r ∧ runT l r < 8) (hm : StI l n a (runT l r) (runT l r) 8 ds D m) (hf : (n : Int) < fuel) : ∃ m', Goes fuel N l [⟨4, 0, false⟩] m m' ∧ StI l (n + 1) a (-1) 0 0 (ds ++ [r]) D m' := by
  obtain ⟨q, hq⟩ := Int.eq_ofNat_of_zero_le hy.1
  refine ⟨_, Goes.one (by show ¬ (4 : Int) = 5; decide) (pstep_of (by rw [hm.s]; exact hf) (m1 := { m.use 2 with h := -1, k := wrap64 (m.k + 1) }) ?_), ⟨?_, hm.a, rfl, ?_, hm.sw, ?_⟩⟩
  · unfold pst
    rw [if_neg (show ¬ (4 : Int) = 0 by decide), if_neg (show ¬ (4 : Int) = 1 by decide), if_neg (by rw [hm.h]; omega), if_neg (show ¬ (4 : Int) = 2 by decide), if_pos rfl]
  · show m.s + 1 = _
    rw [hm.s]; push_cast; rfl
  · show wrap64 (m.k + 1) = _
    rw [hm.k, wrap_id (by omega)]; simp
  · intro t ht
    have hb := us_bd hl ⟨by decide, by decide⟩ hd hD hm q (by omega)
    have h1 := hm.us t ht
    show upd m.us m.h.toNat (wrap64 (m.us m.h.toNat + 2)) t = _
    have ec : cnT l t (ds ++ [r]) = cnT l t ds + (if runT l r = (t : Int) then 1 else 0) := by
      unfold cnT
      rw [List.countP_append, List.countP_cons, List.countP_nil]
      by_cases hh : runT l r = (t : Int) <;> simp [hh]
    rw [hm.h, hq, Int.toNat_natCast, wrap_id (by omega), ec]
    unfold upd
    rw [hq] at h1 ⊢
    by_cases he : t = q
    · subst he
      rw [if_pos rfl] at h1
      rw [if_pos rfl, h1, if_pos rfl]
      split <;> (push_cast; omega)
    · rw [if_neg (by omega)] at h1
      rw [if_neg he, h1, if_neg (by omega)]
      split <;> (push_cast; omega)
theorem StI.move (hl : ∀ s ∈ l, SmOk N s) (hx : 0 ≤ x ∧ x ≤ 6) (hd : ds.length ≤ 64) (hD : D.length ≤ 64) (hy : 0 ≤ y ∧ y < 8) (hm : StI l n a y y x ds D m) (hf : (n : Int) < fuel) {v : Mv} (hv : v.inG l) (ht : v.thr l = y) (ha : v.from l = a) : ∃ m', Goes fuel N l [opM v] m m' ∧ StI l (n + 1) (v.to_ l) y y x ds (D ++ [v]) m' := by
  obtain ⟨q, rfl⟩ := Int.eq_ofNat_of_zero_le hy.1
  have hlb := len_bd hl v
  refine ⟨_, Goes.one (by show ¬ (3 : Int) = 5; decide) (pstep_of (by rw [hm.s]; exact hf) (m1 := { m.use (wrap64 (3 * v.len l)) with sw := upd m.sw v.k.toNat (wrap64 (m.sw v.k.toNat + 1)), a := v.to_ l }) ?_), ⟨?_, rfl, hm.h, hm.k, ?_, ?_⟩⟩
  · unfold pst opM
    dsimp only
    rw [if_neg (show ¬ (3 : Int) = 0 by decide), if_neg (show ¬ (3 : Int) = 1 by decide), if_neg (by rw [hm.h]; omega), if_neg (show ¬ (3 : Int) = 2 by decide), if_neg (show ¬ (3 : Int) = 4 by decide), if_neg (by have := hv.2; omega), if_neg (by rw [hm.h]; exact fun hh => hh ht), if_neg (by rw [hm.a]; exact fun hh => hh ha.symm)]
  · show m.s + 1 = _
    rw [hm.s]; push_cast; rfl
  · intro i hi
    have h1 := hm.sw i hi
    have hv' := hv
    obtain ⟨hv0, hv1⟩ := hv'
    show upd m.sw v.k.toNat (wrap64 (m.sw v.k.toNat + 1)) i = _
    rw [List.map_append, List.count_append, List.map_cons, List.map_nil]
    unfold upd
    by_cases he : i = v.k.toNat
    · rw [if_pos he, ← he, h1]
      have hcl : (D.map Mv.k).count (i : Int) ≤ (D.map Mv.k).length := List.count_le_length
      rw [List.length_map] at hcl
      rw [wrap_id (by omega)]
      have : v.k = (i : Int) := by omega
      rw [this]
      simp
    · rw [if_neg he, h1]
      have : v.k ≠ (i : Int) := by omega
      rw [List.count_singleton]
      simp [this]
  · intro t ht8
    have hb := us_bd hl ⟨hx.1, by omega⟩ hd hD hm q (by omega)
    have h1 := hm.us t ht8
    show upd m.us m.h.toNat (wrap64 (m.us m.h.toNat + wrap64 (3 * v.len l))) t = _
    rw [hm.h, Int.toNat_natCast, wrap_id (z := 3 * v.len l) (by omega), wrap_id (by omega), tw_app, tw_one]
    unfold upd twM
    rw [ht]
    by_cases he : t = q
    · subst he
      rw [if_pos rfl, h1, if_pos rfl, if_pos rfl]; omega
    · rw [if_neg he, h1, if_neg (by omega), if_neg (by omega)]; omega
/-- the moves of a run, from its p-th on -/
theorem StI.moves (hl : ∀ s ∈ l, SmOk N s) {r : List Mv} (hr : GoodRun l r) (hy : 0 ≤ runT l r ∧ runT l r < 8) (hd : ds.length ≤ 64) (hD : D.length + r.length ≤ 64) (hf : (n : Int) + r.length ≤ fuel) (hx : 0 ≤ x ∧ x ≤ 6) : ∀ (j p : Nat) (m : Mc) (a : Int), p + j = r.length → (p < r.length → a = (r.getD p default).from l) → (p = r.length → a = runE l r) → StI l (n + p) a (runT l r) (runT l r) x ds (D ++ r.take p) m → ∃ m', Goes fuel N l ((r.drop p).map opM) m m' ∧ StI l (n + r.length) (runE l r) (runT l r) (runT l r) x ds (D ++ r) m'
  | 0, p, m, a, hp, _, he, hm => by
    obtain rfl : p = r.length := by omega
    rw [List.take_length] at hm
    rw [he rfl] at hm
    rw [List.drop_length]
    exact ⟨m, rfl, hm⟩
  | j + 1, p, m, a, hp, ha, _, hm => by
    have hlt : p < r.length := by omega
    obtain ⟨g1, g2, g3⟩ := hr.2 p hlt
    have hlen : (D ++ r.take p).length ≤ 64 := by rw [List.length_append, List.length_take]; omega
    obtain ⟨m1, s1, s2⟩ := hm.move (fuel := fuel) hl hx hd hlen hy (by push_cast; omega) g1 g3 (ha hlt).symm
    have e : D ++ r.take p ++ [r.getD p default] = D ++ r.take (p + 1) := by
      rw [List.take_succ_eq_append_getElem hlt, getD_get hlt, List.append_assoc]
    rw [e] at s2
    obtain ⟨m2, s3, s4⟩ := StI.moves hl hr hy hd hD hf hx j (p + 1) m1 _ (by omega) (fun hl2 => by
      obtain ⟨_, g5, _⟩ := hr.2 (p + 1) hl2
      rcases g5 with g5 | g5
      · omega
      · rw [Nat.add_sub_cancel] at g5; exact g5) (fun hl2 => by
      unfold runE
      rw [show r.length - 1 = p by omega]) s2
    refine ⟨m2, ?_, s4⟩
    rw [List.drop_eq_getElem_cons hlt, ← getD_get hlt, List.map_cons]
    exact Goes.app (a := [_]) s1 s3
/-- a run -/
theorem StI.run (hl : ∀ s ∈ l, SmOk N s) {r : List Mv} (hr : GoodRun l r) (hb : runB l r < N) (hd : ds.length < 64) (hD : D.length + r.length ≤ 64) (hf : (n : Int) + 5 + r.length ≤ fuel) (hm : StI l n a (-1) 0 0 ds D m) : ∃ m', Goes fuel N l (opB l r ++ r.map opM ++ opE) m m' ∧ StI l (n + (5 + r.length)) (runE l r) (-1) 0 0 (ds ++ [r]) (D ++ r) m' := by
  have hy := runT_rng hl hr
  have h0 : 0 < r.length := List.length_pos_iff.2 hr.1
  obtain ⟨m1, a1, b1⟩ := hm.corner (N := N) (fuel := fuel) (by omega) hb
  obtain ⟨m2, a2, b2⟩ := b1.pick (N := N) (fuel := fuel) (by push_cast; omega) (runT l r)
  have b2' : StI l (n + 1 + 1) (runB l r) (runT l r) (runT l r) 0 ds D m2 := ⟨b2.s, b2.a, b2.h, b2.k, b2.sw, fun t ht => by
    have := b2.us t ht
    rw [this]
    have e1 : (if (0 : Int) = (t : Int) then (0 : Int) else 0) = 0 := by split <;> rfl
    have e2 : (if runT l r = (t : Int) then (0 : Int) else 0) = 0 := by split <;> rfl
    rw [e1, e2]⟩
  obtain ⟨m3, a3, b3⟩ := b2'.knot (fuel := fuel) hl ⟨by decide, by decide⟩ (by omega) (by omega) hy (by push_cast; omega)
  obtain ⟨m4, a4, b4⟩ := StI.moves (fuel := fuel) (ds := ds) (D := D) (x := 0 + 4) (n := n + 1 + 1 + 1) hl hr hy (by omega) hD (by push_cast; omega) ⟨by decide, by decide⟩ r.length 0 m3 (runB l r) (by omega) (fun _ => rfl) (fun hh => by omega) (by rw [List.take_zero, List.append_nil]; exact b3)
  rw [List.drop_zero] at a4
  obtain ⟨m5, a5, b5⟩ := b4.knot (fuel := fuel) hl ⟨by decide, by decide⟩ (by omega) (by rw [List.length_append]; omega) hy (by push_cast; omega)
  obtain ⟨m6, a6, b6⟩ := StI.cut (fuel := fuel) (ds := ds) (D := D ++ r) hl (by omega) (by rw [List.length_append]; omega) hy b5 (by push_cast; omega)
  refine ⟨m6, ?_, ?_⟩
  · exact Goes.app (Goes.app (Goes.app (a := [_]) a1 (Goes.app (a := [_]) a2 a3)) a4) (Goes.app (a := [_]) a5 a6)
  · have e : n + (5 + r.length) = n + 1 + 1 + 1 + r.length + 1 + 1 := by omega
    rw [e]
    exact b6
end
theorem flat_snoc (ds : List (List Mv)) (r : List Mv) : (ds ++ [r]).flatten = ds.flatten ++ r := by simp
/-- all runs -/
theorem goes_all {fuel N : Int} {l : List Sm} (hok : GOk N l) {ls : List (List Mv)} (h : Sewing l ls) (hf : 500 ≤ fuel) : ∀ k, k ≤ ls.length → ∃ m' a, Goes fuel N l (cmp l (ls.take k)) mc0 m' ∧ StI l (cmp l (ls.take k)).length a (-1) 0 0 (ls.take k) (ls.take k).flatten m'
  | 0, _ => by
    refine ⟨mc0, 0, ?_, ?_⟩
    · rw [List.take_zero]; rfl
    · rw [List.take_zero]
      refine ⟨rfl, rfl, rfl, rfl, fun i _ => rfl, fun t _ => ?_⟩
      show (0 : Int) = _
      split <;> simp [cnT, tw]
  | k + 1, hk => by
    have hlt : k < ls.length := by omega
    obtain ⟨m1, a, g1, s1⟩ := goes_all hok h hf k (by omega)
    have hr := h.1 _ (List.getElem_mem hlt)
    have hnum := h.num
    have hok3 := hok.2.2.1
    obtain ⟨q, hq⟩ := Int.eq_ofNat_of_zero_le (show 0 ≤ N by have := hok.1; omega)
    have htk : ls.take (k + 1) = ls.take k ++ [ls[k]] := List.take_succ_eq_append_getElem hlt
    have hfl := take_flat (ls := ls) (k + 1)
    rw [htk, flat_snoc, List.length_append, h.2.2] at hfl
    have hcl := cmp_len l (ls.take k)
    have htl : (ls.take k).length ≤ k := by rw [List.length_take]; omega
    subst hq
    obtain ⟨m2, g2, s2⟩ := s1.run (fuel := fuel) (N := (q : Int)) hok.2.2.2 hr (run_rng hok.2.2.2 hr).2 (by omega) (by omega) (by rw [hcl]; push_cast; omega)
    refine ⟨m2, runE l ls[k], ?_, ?_⟩
    · rw [htk, cmp_snoc]; exact g1.app g2
    · rw [htk, flat_snoc, cmp_snoc, List.length_append]
      have e : (opB l ls[k] ++ ls[k].map opM ++ opE).length = 5 + ls[k].length := by simp [opB, opE]; omega
      rw [e]
      exact s2
/-- all of a thread's moves -/
theorem tw_all {l : List Sm} {ls : List (List Mv)} (h : Sewing l ls) (t : Nat) (h0 : ∀ s ∈ l, 0 ≤ s.t) : tw l t ls.flatten = addS (fun _ => 0) l l.length t := by
  have e1 : ls.flatten.map (twM l t) = (ls.flatten.map Mv.k).map (fun q : Int => twM l t ⟨q, false⟩) := by
    rw [List.map_map]; rfl
  unfold tw
  rw [e1, sum_perm (h.keys.map _)]
  have key : ∀ k, k ≤ l.length → (((List.range k).map fun i : Nat => (i : Int)).map (fun q : Int => twM l t ⟨q, false⟩)).sum = addS (fun _ => 0) l k t := by
    intro k
    induction k with
    | zero => intro _; rfl
    | succ k ih =>
      intro hk
      have hlt : k < l.length := by omega
      have h1 := h0 _ (List.getElem_mem hlt)
      obtain ⟨j, hj⟩ := Int.eq_ofNat_of_zero_le h1
      rw [List.range_succ, List.map_append, List.map_append, List.sum_append_int, ih (by omega), addS_succ hlt rfl hj]
      simp only [List.map_cons, List.map_nil, List.sum_cons, List.sum_nil]
      unfold twM Mv.thr Mv.len upd
      dsimp only
      rw [Int.toNat_natCast, List.getElem?_eq_getElem hlt]
      dsimp only
      by_cases he : t = j
      · subst he
        rw [if_pos hj, if_pos rfl]; omega
      · rw [if_neg (by omega), if_neg he]; omega
  exact key l.length (Nat.le_refl _)
theorem cmp_ok {N : Int} {l : List Sm} (hok : GOk N l) {ls : List (List Mv)} (h : Sewing l ls) : PrOk (cmp l ls) := by
  have h3 := hok.2.2.1
  have hN := hok.2.1
  obtain ⟨q, hq⟩ := Int.eq_ofNat_of_zero_le (show 0 ≤ N by have := hok.1; omega)
  subst hq
  intro o ho
  obtain ⟨r, hr, ho⟩ := List.mem_flatMap.1 ho
  have hg := h.1 r hr
  have hy := runT_rng hok.2.2.2 hg
  have hb := run_rng hok.2.2.2 hg
  have m7 : most 0 = 7 := rfl
  have m15 : most 1 = 15 := rfl
  have m63 : most 3 = 63 := rfl
  rcases List.mem_append.1 ho with ho | ho
  · rcases List.mem_append.1 ho with ho | ho
    · simp only [opB, List.mem_cons, List.not_mem_nil, or_false] at ho
      rcases ho with rfl | rfl | rfl
      · exact ⟨by show (0 : Int) ≤ 1; decide, by show (1 : Int) ≤ 5; decide, hb.1, by show runB l r ≤ most 1; omega, fun hh => (by cases hh)⟩
      · exact ⟨by show (0 : Int) ≤ 0; decide, by show (0 : Int) ≤ 5; decide, hy.1, by show runT l r ≤ most 0; omega, fun hh => (by cases hh)⟩
      · decide
    · obtain ⟨v, hv, rfl⟩ := List.mem_map.1 ho
      obtain ⟨i, hi, rfl⟩ := List.getElem_of_mem hv
      have hG := (hg.2 i hi).1
      rw [getD_get hi] at hG
      exact ⟨by show (0 : Int) ≤ 3; decide, by show (3 : Int) ≤ 5; decide, hG.1, by show r[i].k ≤ most 3; have := hG.2; omega, fun _ => rfl⟩
  · simp only [opE, List.mem_cons, List.not_mem_nil, or_false] at ho
    rcases ho with rfl | rfl <;> decide
/-- the machine on the program of a sewing -/
theorem sewn_exec {fuel N : Int} {l : List Sm} (hok : GOk N l) {ls : List (List Mv)} (h : Sewing l ls) (hf : 500 ≤ fuel) : ∃ m', exec fuel N l (cmp l ls) mc0 = (0, m') ∧ m'.h = -1 ∧ m'.k = ls.length ∧ (∀ i, i < l.length → m'.sw i = 1) ∧ ∀ t : Nat, t < 8 → m'.us t = 10 * (cnT l t ls : Int) + addS (fun _ => 0) l l.length t := by
  obtain ⟨m', a, h1, h2⟩ := goes_all hok h hf ls.length (Nat.le_refl _)
  rw [List.take_length] at h1 h2
  refine ⟨m', h1.exec, h2.h, h2.k, fun i hi => ?_, fun t ht => ?_⟩
  · rw [h2.sw i hi]
    have hmem : (i : Int) ∈ ls.flatten.map Mv.k := h.keys.mem_iff.2 (List.mem_map.2 ⟨i, List.mem_range.2 hi, rfl⟩)
    rw [h.2.1.count, if_pos hmem]; rfl
  · rw [h2.us t ht, tw_all h t (fun s hs => (hok.2.2.2 s hs).2.2.2.2.2.2.1)]
    have e1 : (if (0 : Int) = (t : Int) then (0 : Int) else 0) = 0 := by split <;> rfl
    rw [e1]; omega
/-- never less than Thread says -/
theorem sewn_least {N : Int} {l : List Sm} (hok : GOk N l) {ls : List (List Mv)} (h : Sewing l ls) (t : Nat) : thV N l t ≤ 10 * (cnT l t ls : Int) + addS (fun _ => 0) l l.length t := by
  obtain ⟨q, hq⟩ := Int.eq_ofNat_of_zero_le (show 0 ≤ N by have := hok.1; omega)
  subst hq
  have := least_T (n := q) (t := (t : Int)) hok.2.2.2 (by omega) h
  unfold thV cnT
  rw [Int.toNat_natCast]
  omega
/-- .. and as much, for the fewest runs -/
theorem sewn_best {N : Int} {l : List Sm} (hok : GOk N l) {R : List (List Mv)} (h : RunsI l (fun _ => True) (cE N l) R) {t : Nat} (ht : t < 8) : 10 * (cnT l t R : Int) + addS (fun _ => 0) l l.length t = thV N l t := by
  have h1 := thV_prog hok.2.2.2 h ht
  rw [addR_cnt _ R (fun r hr => (runT_rng hok.2.2.2 (h.good r hr)).1) t R.length (Nat.le_refl _), List.take_length] at h1
  unfold cnT
  omega

/-- the machine's report on the program of a sewing -/
def SwR (w : World) (N : Int) (l : List Sm) (ls : List (List Mv)) (e : Ending) (w' : World) : Prop :=
  Below w.heap.size w w' ∧ ∃ (s a : Int) (bs bu : Nat) (sw us : Nat → Int), e = .returned (.tuple #[.agg #[.int .i64 0, .int .i64 s, .int .i64 a, .int .i64 (-1), .int .i64 ls.length, .slice (some ⟨bs, 0, none⟩) l.length l.length, .slice (some ⟨bu, 0, none⟩) 8 8], .int .i64 0]) ∧
    Ow 3 bs l.length sw w' ∧ Ow 3 bu 8 us w' ∧ (∀ i, i < l.length → sw i = 1) ∧ (∀ t, t < 8 → thV N l t ≤ us t) ∧ (RunsI l (fun _ => True) (cE N l) ls → ∀ t, t < 8 → us t = thV N l t)
theorem swr_any {N : Int} {l : List Sm} (hok : GOk N l) {ls : List (List Mv)} (hs : Sewing l ls) (A : Option Addr) (cap : Nat) (C : Option Addr) (cc : Nat) (w : World) (hc : l.length ≤ cap) (hcm : cap ≤ 9223372036854775807) (h : SSl w A l) (hcc : (cmp l ls).length ≤ cc) (hcc2 : cc ≤ 9223372036854775807) (hr : OSl w C (cmp l ls)) :
    Calls Try.prog 41 #[.agg #[.int .i64 N, .slice A l.length cap], .slice C (cmp l ls).length cc, .int .i64 1000] w (SwR w N l ls) := by
  refine (Run_any N A cap l C cc (cmp l ls) 1000 w hc hcm h hcc hcc2 hr).mono fun e w' hh => ?_
  obtain ⟨hb, hh⟩ := hh
  refine ⟨hb, ?_⟩
  have hlen : (cmp l ls).length ≤ 4096 := by
    rw [cmp_len, hs.2.2]
    have := hs.num
    have := hok.2.2.1
    omega
  have hrn : RnOk N l (cmp l ls) 1000 := ⟨hok, by decide, by decide, hlen, cmp_ok hok hs⟩
  rcases hh with ⟨hno, _⟩ | ⟨_, bs, bu, he, h1, h2⟩
  · exact absurd hrn hno
  · obtain ⟨m', x1, x2, x3, x4, x5⟩ := sewn_exec (fuel := 1000) hok hs (by decide)
    rw [x1] at he h1 h2
    dsimp only at he h1 h2
    rw [x2, x3] at he
    refine ⟨_, _, bs, bu, _, _, he, h1, h2, x4, fun t ht => ?_, fun hR t ht => ?_⟩
    · rw [x5 t ht]; exact sewn_least hok hs t
    · rw [x5 t ht]; exact sewn_best hok hR ht

set_option maxRecDepth 100000 in
set_option maxHeartbeats 8000000 in
theorem sewn_no {N : Int} {A : Option Addr} {cap : Nat} {l : List Sm} {C : Option Addr} {cc : Nat} {ls : List (List Mv)} {w : World} (hok : ¬ GOk N l) (hc : l.length ≤ cap) (hcm : cap ≤ 9223372036854775807) (h : SSl w A l) (hcc : ls.length ≤ cc) (hcc2 : cc ≤ 9223372036854775807) (hr : RSl w C ls) :
    Calls Try.prog 14 #[.agg #[.int .i64 N, .slice A l.length cap], .slice C ls.length cc] w fun e w' => e = .returned (.bool true) ∧ Below w.heap.size w w' := by
  have HG := Lib.hid (fun W (h : SSl W A l) => graph_any N A cap l W hc hcm h)
  have HL := Lib.hid (fun W (h : RSl W C ls) => long_any C cc ls W hcc hcc2 h)
  have HRU := Lib.hid (fun A' cap' W (h1 : (cpy l).length ≤ cap') (h2 : cap' ≤ 9223372036854775807) (h : SSl W A' (cpy l)) => (Runs_any N A' cap' (cpy l) W h1 h2 h).mono (R' := fun e w' => e = .returned (.tuple #[.slice none 0 0, .int .i64 2]) ∧ Below W.heap.size W w') fun e w' hr => by
    rcases hr.cpd.2 with ⟨_, h4⟩ | ⟨h3, _⟩
    · exact ⟨h4, hr.1⟩
    · exact absurd h3 hok)
  have HTH := Lib.hid (fun A' cap' W (h1 : (cpy l).length ≤ cap') (h2 : cap' ≤ 9223372036854775807) (h : SSl W A' (cpy l)) => (Thread_any N A' cap' (cpy l) W h1 h2 h).mono (R' := fun e w' => e = .returned (.tuple #[.slice none 0 0, .int .i64 2]) ∧ Below W.heap.size W w') fun e w' hr => by
    rcases hr.cpd.2 with ⟨_, h4⟩ | ⟨h3, _⟩
    · exact ⟨h4, hr.1⟩
    · exact absurd h3 hok)
  have hv := vldG_no hok
  have HV := Lib.hid (fun W (h : SSl W A l) => rvalid_any N A cap l W hc hcm h)
  rw [hv] at HV
  have HW := Lib.hid (fun W (hW : Below w.heap.size w W) => And.intro (h.ext hW) (hr.ext hW))
  have HB0 := Lib.hid (Bk.new 24 w #[.int .i64 N, .slice A l.length cap])
  have HE0 := Lib.hid (ext_alloc w (.cells #[.int .i64 N, .slice A l.length cap] 24))
  clear h hr hok hv
  go_enter Try.func14, Try.ntmps14
  go_upto_region 3 with (first
    | (go_at_call 16; first
        | (refine (HG.out _ (HW.out _ HE0.out).1).mono ?_; rintro e w1 ⟨A1, c1, rfl, k1, k2, hs1, hx1⟩; have B1 := bext HE0.out hx1 HE0.out.size; have HK1 := Lib.hid (HB0.out.ext hx1); have HS1 := Lib.hid hs1; clear hs1 hx1)
        | (refine (HG.out _ (HW.out _ B2).1).mono ?_; rintro e w3 ⟨A3, c3, rfl, k3, k4, hs3, hx3⟩; have B3 := bext B2 hx3 B2.size; have HK3 := Lib.hid (HK2.out.ext hx3); have HS3 := Lib.hid hs3; clear hs3 hx3))
    | (go_at_call 49; refine (HRU.out _ _ _ k1 k2 HS1.out).mono ?_; rintro e w2 ⟨rfl, hx2⟩; have B2 := bext B1 hx2 B1.size; have HK2 := Lib.hid (HK1.out.ext hx2); obtain ⟨f1, f2, f3⟩ := HK2.out.facts; clear hx2)
    | (go_at_call 52; refine (HTH.out _ _ _ k3 k4 HS3.out).mono ?_; rintro e w4 ⟨rfl, hx4⟩; have B4 := bext B3 hx4 B3.size; have HK4 := Lib.hid (HK3.out.ext hx4); clear f1 f2 f3; obtain ⟨f1, f2, f3⟩ := HK4.out.facts; clear hx4))
  go_wp2_with (first
    | (go_at_call 24; refine (HL.out _ (HW.out _ B4).2).mono ?_; rintro e w5 ⟨⟨b, rfl⟩, hx5⟩; have B5 := bext B4 hx5 B4.size; have HK5 := Lib.hid (HK4.out.ext hx5); clear f1 f2 f3; obtain ⟨f1, f2, f3⟩ := HK5.out.facts; cases b)
    | (go_at_call 22; refine (HV.out _ (HW.out _ B5).1).mono ?_; rintro e w6 ⟨rfl, hx6⟩; have B6 := bext B5 hx6 B5.size)
    | (go_at_call 18; first | (refine (awake_any w6).mono ?_; rintro e w7 ⟨rfl, hx7⟩; have B7 := bext B6 hx7 B6.size) | (refine (awake_any w5).mono ?_; rintro e w7 ⟨rfl, hx7⟩; have B7 := bext B5 hx7 B5.size)))
  all_goals
    go_ret
    exact ⟨rfl, B7⟩

/-- what 'long' counts -/
def lng (ls : List (List Mv)) : Nat → Int
  | 0 => ls.length
  | k + 1 => match ls[k]? with
    | none => lng ls k
    | some r => wrap64 (lng ls k + r.length)
theorem lng_succ {ls : List (List Mv)} {k : Nat} (h : k < ls.length) : lng ls (k + 1) = wrap64 (lng ls k + (ls[k].length : Nat)) := by
  show (match ls[k]? with | none => _ | some r => _) = _
  rw [List.getElem?_eq_getElem h]
set_option maxRecDepth 100000 in
set_option maxHeartbeats 2000000 in
theorem long_one (C : Option Addr) (cc : Nat) (ls : List (List Mv)) (w : World) (hcc : ls.length ≤ cc) (hcc2 : cc ≤ 9223372036854775807) (hr : RSl w C ls) :
    Calls Try.prog 24 #[.slice C ls.length cc] w fun e w' => e = .returned (.bool (decide (1000 < lng ls ls.length))) ∧ Below w.heap.size w w' := by
  have HR := Lib.hid hr
  clear hr
  go_enter Try.func24, Try.ntmps24
  go_wp2
  go_loopg [10, 3] ls.length (fun g i z wr => ∃ (k : Nat) (x : Int), i = .int .i64 k ∧ z = .int .i64 x ∧ k ≤ ls.length ∧ g = ls.length - k ∧ Hid (x = lng ls k) ∧ Below w.heap.size w wr)
  case atStart => exact ⟨0, _, rfl, rfl, by omega, by omega, Lib.hid rfl, Below.refl _ _⟩
  case round =>
    obtain ⟨k, x, rfl, rfl, hk, hg, HX, hb⟩ := hrel
    have HG := Lib.hid hg
    clear hg
    by_cases hlt : k < ls.length
    · have hf := HR.out.ext hb
      have HE := Lib.hid (lng_succ hlt)
      rcases hf with hf | ⟨b, off, rfl, hblt, hcl⟩
      · rw [hf] at hlt; simp at hlt
      · obtain ⟨A', c', c1, k1, k2, hm⟩ := hcl k hlt
        obtain ⟨n, hn⟩ : ∃ n, n = ls[k].length := ⟨_, rfl⟩
        rw [← hn] at c1 k1 HE
        clear hn hcl hm
        go_wp2
        go_roundg (ls.length - (k + 1))
        case measure => have := HG.out; omega
        case rel => exact ⟨k + 1, _, by go_num, rfl, by omega, rfl, Lib.hid (by rw [HE.out, ← HX.out]), hb⟩
    · obtain rfl : k = ls.length := by omega
      go_wp2
      go_ret
      exact ⟨by rw [HX.out]; rfl, hb⟩

set_option maxRecDepth 100000 in
set_option maxHeartbeats 8000000 in
theorem sewn_ok {N : Int} {A : Option Addr} {cap : Nat} {l : List Sm} {C : Option Addr} {cc : Nat} {ls : List (List Mv)} {w : World} (hok : GOk N l) (hc : l.length ≤ cap) (hcm : cap ≤ 9223372036854775807) (h : SSl w A l) (hcc : ls.length ≤ cc) (hcc2 : cc ≤ 9223372036854775807) (hr : RSl w C ls) (hz : RSz ls) :
    Calls Try.prog 14 #[.agg #[.int .i64 N, .slice A l.length cap], .slice C ls.length cc] w fun e w' => e = .returned (.bool true) ∧ Below w.heap.size w w' := by
  have hg0 := fun W (h : SSl W A l) => graph_any N A cap l W hc hcm h
  rw [cpy_eq hok] at hg0
  have HG := Lib.hid hg0
  have HL := Lib.hid (fun W (h : RSl W C ls) => long_one C cc ls W hcc hcc2 h)
  have HU := Lib.hid (fun W (h : RSl W C ls) => runs_any C cc ls W hcc hcc2 hz h)
  have HRU := Lib.hid (fun A' cap' W (h1 : l.length ≤ cap') (h2 : cap' ≤ 9223372036854775807) (h : SSl W A' l) => (Runs_any N A' cap' l W h1 h2 h).mono (R' := fun e w' => (∃ R A' c', e = .returned (.tuple #[.slice A' (List.length R) c', .int .i64 0]) ∧ R.length ≤ c' ∧ c' ≤ 9223372036854775807 ∧ RSl w' A' R ∧ RunsI l (fun _ => True) (cE N l) R) ∧ Below W.heap.size W w') fun e w' hr => by
    rcases hr.2 with ⟨h3, _⟩ | ⟨_, R, A2, c2, h4, h5, h6, h7, h8, _⟩
    · exact absurd hok h3
    · exact ⟨⟨R, A2, c2, h4, h5, h6, h7, h8⟩, hr.1⟩)
  have HTH := Lib.hid (fun A' cap' W (h1 : l.length ≤ cap') (h2 : cap' ≤ 9223372036854775807) (h : SSl W A' l) => (Thread_any N A' cap' l W h1 h2 h).mono (R' := fun e w' => (∃ b, e = .returned (.tuple #[.slice (some ⟨b, 0, none⟩) 8 8, .int .i64 0]) ∧ Ow 3 b 8 (thV N l) w') ∧ Below W.heap.size W w') fun e w' hr => by
    rcases hr.2 with ⟨h3, _⟩ | ⟨_, h4⟩
    · exact absurd hok h3
    · exact ⟨h4, hr.1⟩)
  have HCY := Lib.hid (fun (xs : List (List Mv)) (hs : sewB l xs = true) A' cap' C' cc' W (h1 : l.length ≤ cap') (h2 : cap' ≤ 9223372036854775807) (h : SSl W A' l) (h3 : xs.length ≤ cc') (h4 : cc' ≤ 9223372036854775807) (hr : RSl W C' xs) => (Compile_any N A' cap' l C' cc' xs W h1 h2 h h3 h4 hr).mono (R' := fun e w' => (∃ A' c', e = .returned (.tuple #[.slice A' (cmp l xs).length c', .int .i64 0]) ∧ (cmp l xs).length ≤ c' ∧ c' ≤ maxLen ∧ OSl w' A' (cmp l xs)) ∧ Below W.heap.size W w') fun e w' hr => by
    rcases hr.2 with ⟨h3, _⟩ | ⟨_, h3, _⟩ | ⟨_, _, h4⟩
    · exact absurd hok h3
    · rw [hs] at h3; cases h3
    · exact ⟨h4, hr.1⟩)
  have HCN := Lib.hid (fun (xs : List (List Mv)) (hs : sewB l xs = false) A' cap' C' cc' W (h1 : l.length ≤ cap') (h2 : cap' ≤ 9223372036854775807) (h : SSl W A' l) (h3 : xs.length ≤ cc') (h4 : cc' ≤ 9223372036854775807) (hr : RSl W C' xs) => (Compile_any N A' cap' l C' cc' xs W h1 h2 h h3 h4 hr).mono (R' := fun e w' => e = .returned (.tuple #[.slice none 0 0, .int .i64 6]) ∧ Below W.heap.size W w') fun e w' hr => by
    rcases hr.2 with ⟨h3, _⟩ | ⟨_, _, h4⟩ | ⟨_, h3, _⟩
    · exact absurd hok h3
    · exact ⟨h4, hr.1⟩
    · rw [hs] at h3; cases h3)
  have HRN := Lib.hid (fun (xs : List (List Mv)) (hs : sewB l xs = true) => swr_any hok (sewB_iff.1 hs))
  have HW := Lib.hid (fun W (hW : Below w.heap.size w W) => And.intro (h.ext hW) (hr.ext hW))
  have HB0 := Lib.hid (Bk.new 24 w #[.int .i64 N, .slice A l.length cap])
  have HE0 := Lib.hid (ext_alloc w (.cells #[.int .i64 N, .slice A l.length cap] 24))
  obtain ⟨lb, hlb⟩ : ∃ b, b = decide (1000 < lng ls ls.length) := ⟨_, rfl⟩
  rw [← hlb] at HL
  have l64 := hok.2.2.1
  have hls : ls.length ≤ 6000000000000 := by have := hz.1; omega
  clear h hr hok hlb hg0 hz
  go_enter Try.func14, Try.ntmps14
  go_upto_region 3 with (first
    | (go_at_call 16; first
        | (refine (HG.out _ (HW.out _ HE0.out).1).mono ?_; rintro e w1 ⟨A1, c1, rfl, k1, k2, hs1, hx1⟩; have B1 := bext HE0.out hx1 HE0.out.size; have HK1 := Lib.hid (HB0.out.ext hx1); have HS1 := Lib.hid hs1; clear hs1 hx1)
        | (refine (HG.out _ (HW.out _ B2).1).mono ?_; rintro e w3 ⟨A3, c3, rfl, k3, k4, hs3, hx3⟩; have B3 := bext B2 hx3 B2.size; have HK3 := Lib.hid (HK2.out.ext hx3); have HS3 := Lib.hid hs3; have HR3 := Lib.hid (HR2.out.ext hx3); clear hs3 hx3))
    | (go_at_call 49; refine (HRU.out _ _ _ k1 k2 HS1.out).mono ?_; rintro e w2 ⟨⟨R, A2, c2, rfl, k5, k6, hr2, hI⟩, hx2⟩; have B2 := bext B1 hx2 B1.size; have HK2 := Lib.hid (HK1.out.ext hx2); have HR2 := Lib.hid hr2; have HI := Lib.hid hI; obtain ⟨f1, f2, f3⟩ := HK2.out.facts; clear hx2 hr2 hI)
    | (go_at_call 52; refine (HTH.out _ _ _ k3 k4 HS3.out).mono ?_; rintro e w4 ⟨⟨bt, rfl, ht4⟩, hx4⟩; have B4 := bext B3 hx4 B3.size; have HK4 := Lib.hid (HK3.out.ext hx4); have HT4 := Lib.hid ht4; have HR4 := Lib.hid (HR3.out.ext hx4); clear f1 f2 f3 ht4; obtain ⟨f1, f2, f3⟩ := HK4.out.facts; clear hx4))
  clear HRU HTH HR2 HR3 HS1 HS3 HK1 HK2 HK3
  cases lb
  rotate_left
  · go_wp2_with (first
      | (go_at_call 24; first
          | (refine (HL.out _ (HW.out _ B5).2).mono ?_; rintro e w6 ⟨rfl, hx6⟩; have B6 := bext B5 hx6 B5.size; clear f1 f2 f3; obtain ⟨f1, f2, f3⟩ := (HK5.out.ext hx6).facts)
          | (refine (HL.out _ (HW.out _ B4).2).mono ?_; rintro e w5 ⟨rfl, hx5⟩; have B5 := bext B4 hx5 B4.size; have HK5 := Lib.hid (HK4.out.ext hx5); clear f1 f2 f3; obtain ⟨f1, f2, f3⟩ := HK5.out.facts))
      | (go_at_call 18; refine (awake_any _).mono ?_; rintro e w7 ⟨rfl, hx7⟩; have B7 := bext B6 hx7 B6.size))
    go_ret
    exact ⟨rfl, B7⟩
  · go_wp2_with (first
      | (go_at_call 24; refine (HL.out _ (HW.out _ B4).2).mono ?_; rintro e w5 ⟨rfl, hx5⟩; have B5 := bext B4 hx5 B4.size; have HK5 := Lib.hid (HK4.out.ext hx5); have HT5 := Lib.hid (HT4.out.ext hx5); have HR5 := Lib.hid (HR4.out.ext hx5); clear f1 f2 f3 hx5; obtain ⟨f1, f2, f3⟩ := HK5.out.facts)
      | (go_at_call 26; refine (HU.out _ (HW.out _ B5).2).mono ?_; rintro e w6 ⟨A6, c6, rfl, k7, k8, hr6, hx6⟩; have B6 := bext B5 hx6 B5.size; have HK6 := Lib.hid (HK5.out.ext hx6); have HT6 := Lib.hid (HT5.out.ext hx6); have HR6 := Lib.hid (HR5.out.ext hx6); have HL6 := Lib.hid hr6; clear hr6 hx6))
    have hx7 := ext_alloc w6 (.cells #[.slice A2 R.length c2, .slice A6 ls.length c6] 47)
    have hn7 := Bk.new 47 w6 #[.slice A2 R.length c2, .slice A6 ls.length c6]
    obtain ⟨V, hV⟩ : ∃ V, V = w6.alloc (.cells #[.slice A2 R.length c2, .slice A6 ls.length c6] 47) := ⟨_, rfl⟩
    rw [← hV] at hx7 hn7 ⊢
    have HB7 := Lib.hid (bext B6 hx7 B6.size)
    have HK7 := Lib.hid (HK6.out.ext hx7)
    have HT7 := Lib.hid (HT6.out.ext hx7)
    have HR7 := Lib.hid (HR6.out.ext hx7)
    have HL7 := Lib.hid (HL6.out.ext hx7)
    have HN7 := Lib.hid hn7
    obtain ⟨bq, hbq⟩ : ∃ bq, bq = w6.heap.size := ⟨_, rfl⟩
    rw [← hbq] at HN7 ⊢
    clear hV hx7 hn7 hbq f1 f2 f3 B1 B2 B3 B4 B5 B6 HK4 HK5 HK6 HT4 HT5 HT6 HR4 HR5 HR6 HL6 HL HU
    go_loopg [63] 2 (fun g i wr => ∃ (k : Nat), i = .int .i64 k ∧ k ≤ 2 ∧ g = 2 - k ∧ Below V.heap.size V wr)
    case atStart => exact ⟨0, rfl, by omega, rfl, Below.refl _ _⟩
    case round =>
      obtain ⟨k, rfl, hk, hg, hb⟩ := hrel
      have HGO := Lib.hid hg
      clear hg
      have B8 := bext HB7.out hb HB7.out.size
      have HK8 := Lib.hid (HK7.out.ext hb)
      have HT8 := Lib.hid (HT7.out.ext hb)
      obtain ⟨f1, f2, f3⟩ := HK8.out.facts
      by_cases hlt : k < 2
      · have hxs : ∃ (xs : List (List Mv)) (Ax : Option Addr) (cx : Nat), (wr.cell? ⟨bq, k, none⟩ = some (.slice Ax xs.length cx)) ∧ RSl wr Ax xs ∧ xs.length ≤ cx ∧ cx ≤ 9223372036854775807 ∧ (k = 0 → sewB l xs = true ∧ RunsI l (fun _ => True) (cE N l) xs) := by
          have h8 := HN7.out.ext hb
          have hc0 := h8.cell 0
          have hc1 := h8.cell 1
          by_cases hk0 : k = 0
          · subst hk0
            exact ⟨R, A2, c2, by simpa using hc0, HR7.out.ext hb, k5, k6, fun _ => ⟨sewB_iff.2 HI.out.sews, HI.out⟩⟩
          · obtain rfl : k = 1 := by omega
            exact ⟨ls, A6, c6, by simpa using hc1, HL7.out.ext hb, k7, k8, fun h => by cases h⟩
        obtain ⟨xs, Ax, cx, hcell, hrx, kx1, kx2, hbest⟩ := hxs
        obtain ⟨q1, q2, q3⟩ := (HN7.out.ext hb).facts
        have HRX := Lib.hid hrx
        have HBE := Lib.hid hbest
        clear hrx hbest
        cases hsx : sewB l xs
        · have HSX := Lib.hid hsx
          have hk0 : ¬ k = 0 := fun h => by have := (HBE.out h).1; rw [hsx] at this; cases this
          have hk0' : ¬ (k : Int) = 0 := by omega
          clear hsx
          go_wp2_with (first
            | (go_at_call 16; refine (HG.out _ (HW.out _ B8).1).mono ?_; rintro e w9 ⟨A9, c9, rfl, k9, k10, hs9, hx9⟩; have B9 := bext B8 hx9 B8.size; have HS9 := Lib.hid hs9; have HX9 := Lib.hid (HRX.out.ext hx9); clear hs9)
            | (go_at_call 50; refine (HCN.out xs HSX.out _ _ _ _ _ k9 k10 HS9.out kx1 kx2 HX9.out).mono ?_; rintro e w10 ⟨rfl, hx10⟩; have B10 := bext B9 hx10 B9.size)
            | (go_at_call 18; refine (awake_any _).mono ?_; rintro e w11 ⟨rfl, hx11⟩; have B11 := bext B10 hx11 B10.size))
          go_ret
          exact ⟨rfl, B11⟩
        · have HSX := Lib.hid hsx
          clear hsx
          go_upto_region 13 with (first
            | (go_at_call 16; first
                | (refine (HG.out _ (HW.out _ B8).1).mono ?_; rintro e w9 ⟨A9, c9, rfl, k9, k10, hs9, hx9⟩; have B9 := bext B8 hx9 B8.size; have HS9 := Lib.hid hs9; have HX9 := Lib.hid (HRX.out.ext hx9); have HK9 := Lib.hid (HK8.out.ext hx9); have HT9 := Lib.hid (HT8.out.ext hx9); have HY9 := Lib.hid (bext hb hx9 hb.size); clear hs9)
                | (refine (HG.out _ (HW.out _ B10).1).mono ?_; rintro e w11 ⟨A11, c11, rfl, k11, k12, hs11, hx11⟩; have B11 := bext B10 hx11 B10.size; have HS11 := Lib.hid hs11; have HO11 := Lib.hid (HO10.out.ext hx11); have HK11 := Lib.hid (HK10.out.ext hx11); have HT11 := Lib.hid (HT10.out.ext hx11); have HY11 := Lib.hid (bext HY10.out hx11 HY10.out.size); clear hs11))
            | (go_at_call 50; refine (HCY.out xs HSX.out _ _ _ _ _ k9 k10 HS9.out kx1 kx2 HX9.out).mono ?_; rintro e w10 ⟨⟨A10, c10, rfl, k13, k14, ho10⟩, hx10⟩; have B10 := bext B9 hx10 B9.size; have HO10 := Lib.hid ho10; have HK10 := Lib.hid (HK9.out.ext hx10); have HT10 := Lib.hid (HT9.out.ext hx10); have HY10 := Lib.hid (bext HY9.out hx10 HY9.out.size); clear f1 f2 f3 ho10; obtain ⟨f1, f2, f3⟩ := HK10.out.facts)
            | (go_at_call 41; refine (HRN.out xs HSX.out _ _ _ _ _ k11 k12 HS11.out k13 (by unfold maxLen at k14; omega) HO11.out).mono ?_; rintro e w12 ⟨hx12, s', a', bs, bu, sw, us, rfl, hsw, hus, hs1, hu1, hu2⟩; have B12 := bext B11 hx12 B11.size; have HK12 := Lib.hid (HK11.out.ext hx12); have HT12 := Lib.hid (HT11.out.ext hx12); have HY12 := Lib.hid (bext HY11.out hx12 HY11.out.size)))
          have hx13 := ext_alloc w12 (.cells #[.int .i64 0, .int .i64 s', .int .i64 a', .int .i64 (-1), .int .i64 xs.length, .slice (some ⟨bs, 0, none⟩) l.length l.length, .slice (some ⟨bu, 0, none⟩) 8 8] 76)
          have hn13 := Bk.new 76 w12 #[.int .i64 0, .int .i64 s', .int .i64 a', .int .i64 (-1), .int .i64 xs.length, .slice (some ⟨bs, 0, none⟩) l.length l.length, .slice (some ⟨bu, 0, none⟩) 8 8]
          obtain ⟨X, hX⟩ : ∃ X, X = w12.alloc (.cells #[.int .i64 0, .int .i64 s', .int .i64 a', .int .i64 (-1), .int .i64 xs.length, .slice (some ⟨bs, 0, none⟩) l.length l.length, .slice (some ⟨bu, 0, none⟩) 8 8] 76) := ⟨_, rfl⟩
          rw [← hX] at hx13 hn13 ⊢
          have HY13 := Lib.hid (bext HY12.out hx13 HY12.out.size)
          have HK13 := Lib.hid (HK12.out.ext hx13)
          have HT13 := Lib.hid (HT12.out.ext hx13)
          have HSW := Lib.hid (hsw.ext hx13)
          have HUS := Lib.hid (hus.ext hx13)
          have HS1 := Lib.hid hs1
          have HU1 := Lib.hid hu1
          have HU2 := Lib.hid (fun h => hu2 (HBE.out h).2)
          have HN13 := Lib.hid hn13
          obtain ⟨br, hbr⟩ : ∃ br, br = w12.heap.size := ⟨_, rfl⟩
          rw [← hbr] at HN13 ⊢
          clear hX hx13 hn13 hsw hus hs1 hu1 hu2 hbr f1 f2 f3 q1 q2 q3 B9 B10 B11 B12 hx9 hx10 hx11 hx12 HK9 HK10 HK11 HK12 HT9 HT10 HT11 HT12 HY9 HY10 HY11 HY12 HS9 HX9 HO10 HO11 HS11 hcell
          obtain ⟨f1, f2, f3⟩ := HK13.out.facts
          obtain ⟨g1, g2, g3⟩ := HN13.out.facts
          go_wp2
          go_loopg [125] l.length (fun g i wr' => ∃ (j : Nat), i = .int .i64 j ∧ j ≤ l.length ∧ g = l.length - j ∧ wr' = X)
          case atStart => exact ⟨0, rfl, by omega, rfl, rfl⟩
          case round =>
            obtain ⟨j, rfl, hj, hg2, rfl⟩ := hrel
            have HG2 := Lib.hid hg2
            clear hg2
            by_cases hjl : j < l.length
            · have e1 := HSW.out.cell (i := j) hjl
              rw [HS1.out j hjl] at e1
              have e2 := HSW.out.frozen j
              have e3 := HSW.out.lt
              go_wp2
              go_roundg (l.length - (j + 1))
              case measure => have := HG2.out; omega
              case rel => exact ⟨j + 1, by go_num, by omega, rfl, rfl⟩
            · obtain rfl : j = l.length := by omega
              go_wp2
              go_loopg [135] 8 (fun g i wr' => ∃ (t : Nat), i = .int .i64 t ∧ t ≤ 8 ∧ g = 8 - t ∧ Hid (k < 2 ∧ Below V.heap.size V wr' ∧ Ow 3 bu 8 us wr' ∧ Ow 3 bt 8 (thV N l) wr' ∧ Below w.heap.size w wr'))
              case atStart => exact ⟨0, rfl, by omega, rfl, Lib.hid ⟨hlt, HY13.out, HUS.out, HT13.out, bext HB7.out HY13.out HB7.out.size⟩⟩
              case round =>
                obtain ⟨t, rfl, ht, hg3, HZ⟩ := hrel
                have HG3 := Lib.hid hg3
                clear hg3
                by_cases ht8 : t < 8
                · have e1 := HZ.out.2.2.1.cell (i := t) ht8
                  have e2 := HZ.out.2.2.1.frozen t
                  have e3 := HZ.out.2.2.1.lt
                  have d1 := HZ.out.2.2.2.1.cell (i := t) ht8
                  have d2 := HZ.out.2.2.2.1.frozen t
                  have d3 := HZ.out.2.2.2.1.lt
                  have hle := HU1.out t ht8
                  have heq : (k : Int) = 0 → us t = thV N l t := fun h => HU2.out (by omega) t ht8
                  obtain ⟨u, hu⟩ : ∃ u, u = us t := ⟨_, rfl⟩
                  obtain ⟨v, hv⟩ : ∃ v, v = thV N l t := ⟨_, rfl⟩
                  rw [← hu] at e1 hle heq
                  rw [← hv] at d1 hle heq
                  have HQ := Lib.hid heq
                  clear hu hv heq
                  by_cases hk0 : (k : Int) = 0
                  · obtain rfl : u = v := HQ.out hk0
                    obtain rfl : k = 0 := by omega
                    clear hk0
                    go_wp2
                    go_roundg (8 - (t + 1))
                    case measure => have := HG3.out; omega
                    case rel => exact ⟨t + 1, by go_num, by omega, rfl, HZ⟩
                  · go_wp2
                    go_roundg (8 - (t + 1))
                    case measure => have := HG3.out; omega
                    case rel => exact ⟨t + 1, by go_num, by omega, rfl, HZ⟩
                · obtain rfl : t = 8 := by omega
                  go_wp2
                  go_roundg (2 - (k + 1))
                  case measure => have := HGO.out; omega
                  case rel => exact ⟨k + 1, by go_num, by omega, rfl, HZ.out.2.1⟩
      · obtain rfl : k = 2 := by omega
        go_wp2_with (go_at_call 18; refine (awake_any _).mono ?_; rintro e w11 ⟨rfl, hx11⟩; have B11 := bext B8 hx11 B8.size)
        go_ret
        exact ⟨rfl, B11⟩
theorem law_sewn (N : Int) (A : Option Addr) (cap : Nat) (l : List Sm) (C : Option Addr) (cc : Nat) (ls : List (List Mv)) (w : World) (hc : l.length ≤ cap) (hcm : cap ≤ 9223372036854775807) (h : SSl w A l) (hcc : ls.length ≤ cc) (hcc2 : cc ≤ 9223372036854775807) (hr : RSl w C ls) (hz : RSz ls) :
    Calls Try.prog 14 #[.agg #[.int .i64 N, .slice A l.length cap], .slice C ls.length cc] w fun e w' => e = .returned (.bool true) ∧ Below w.heap.size w w' := by
  by_cases hok : GOk N l
  · exact sewn_ok hok hc hcm h hcc hcc2 hr hz
  · exact sewn_no hok hc hcm h hcc hcc2 hr
end Go.Proofs.Ytbhjhajnhpohlaa
