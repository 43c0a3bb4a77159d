/- Plain law of Runs, fourth part: no sewing has fewer runs. No conditions. -/
import Derived.Test.YtbhjhajnhpohlaaFwA
namespace Go.Proofs.Ytbhjhajnhpohlaa

/-- a class's share of a seam at a joint -/
def gJ (ch : Sm → Bool) (v : Nat) (s : Sm) : Int := if ch s then inc s v else 0
/-- .. of a move's seam -/
def gM (ch : Sm → Bool) (l : List Sm) (v : Nat) (k : Int) : Int := match l[k.toNat]? with | some s => gJ ch v s | none => 0
theorem deg_sum (ch : Sm → Bool) (v : Nat) : ∀ l : List Sm, deg ch l v = (l.map (gJ ch v)).sum
  | [] => rfl
  | s :: l => by
    rw [List.map_cons, List.sum_cons, ← deg_sum ch v l]; rfl
theorem sum_perm {a b : List Int} (h : a.Perm b) : a.sum = b.sum := by
  induction h with
  | nil => rfl
  | cons x _ ih => simp [ih]
  | swap x y l => simp; omega
  | trans _ _ ih1 ih2 => exact ih1.trans ih2
theorem Sewing.keys {l : List Sm} {ls : List (List Mv)} (h : Sewing l ls) : (ls.flatten.map Mv.k).Perm ((List.range l.length).map fun i : Nat => (i : Int)) := by
  have hin : ∀ x ∈ ls.flatten.map Mv.k, 0 ≤ x ∧ x < l.length := by
    intro x hx
    obtain ⟨m, hm, rfl⟩ := List.mem_map.1 hx
    obtain ⟨r, hr, hmr⟩ := List.mem_flatten.1 hm
    obtain ⟨i, hi, rfl⟩ := List.getElem_of_mem hmr
    have := ((h.1 r hr).2 i hi).1
    rw [getD_get hi] at this
    exact this
  have hnd2 : ((List.range l.length).map fun i : Nat => (i : Int)).Nodup := List.Pairwise.map _ (fun a b hab e => hab (by omega)) List.nodup_range
  refine (List.perm_ext_iff_of_nodup h.2.1 hnd2).2 fun q => ⟨fun hq => ?_, fun hq => ?_⟩
  · obtain ⟨h0, h1⟩ := hin q hq
    exact List.mem_map.2 ⟨q.toNat, List.mem_range.2 (by omega), by omega⟩
  · refine Classical.byContradiction fun hn => ?_
    obtain ⟨i, hi, rfl⟩ := List.mem_map.1 hq
    have hi' := List.mem_range.1 hi
    -- one more than there are
    have h2 : ((i : Int) :: ls.flatten.map Mv.k).Nodup := List.nodup_cons.2 ⟨hn, h.2.1⟩
    have h3 := nodup_len l.length _ h2 (fun x hx => by
      rcases List.mem_cons.1 hx with rfl | hx
      · omega
      · exact hin x hx)
    rw [List.length_cons, List.length_map, h.2.2] at h3
    omega
theorem flat_sum (g : Mv → Int) : ∀ ls : List (List Mv), (ls.flatten.map g).sum = (ls.map fun r => (r.map g).sum).sum
  | [] => rfl
  | r :: ls => by
    rw [List.flatten_cons, List.map_append, List.sum_append_int, List.map_cons, List.sum_cons, flat_sum g ls]
theorem sew_deg {l : List Sm} {ls : List (List Mv)} (h : Sewing l ls) (ch : Sm → Bool) (v : Nat) : deg ch l v = (ls.map fun r => (r.map fun m => gM ch l v m.k).sum).sum := by
  rw [← flat_sum, deg_sum]
  have e1 : ls.flatten.map (fun m => gM ch l v m.k) = (ls.flatten.map Mv.k).map (gM ch l v) := by rw [List.map_map]; rfl
  rw [e1, sum_perm (h.keys.map _)]
  congr 1
  apply List.ext_getElem
  · simp
  · intro i h1 h2
    have hi : i < l.length := by simpa using h1
    simp only [List.getElem_map, List.getElem_range]
    unfold gM
    rw [Int.toNat_natCast, List.getElem?_eq_getElem hi]
theorem sum_even {h : List Mv → Int} : ∀ ls : List (List Mv), (∀ r ∈ ls, h r % 2 = 0) → (ls.map h).sum % 2 = 0
  | [], _ => rfl
  | r :: ls, hh => by
    have h1 := hh r (by simp)
    have h2 := sum_even ls (fun x hx => hh x (by simp [hx]))
    rw [List.map_cons, List.sum_cons]; omega
/-- the joint where a run begins, where it ends -/
def runB (l : List Sm) (r : List Mv) : Int := (r.getD 0 default).from l
def runE (l : List Sm) (r : List Mv) : Int := (r.getD (r.length - 1) default).to_ l
/-- a move's ends at a joint -/
def mE (l : List Sm) (v : Int) (m : Mv) : Int := (if m.from l = v then 1 else 0) + (if m.to_ l = v then 1 else 0)
theorem mv_inc {l : List Sm} {m : Mv} (h : m.inG l) (v : Nat) : ∃ q, ∃ hq : q < l.length, m.k = (q : Int) ∧ m.thr l = l[q].t ∧ inc l[q] v = mE l v m ∧ ((m.from l = l[q].a ∧ m.to_ l = l[q].b) ∨ (m.from l = l[q].b ∧ m.to_ l = l[q].a)) := by
  obtain ⟨h0, h1⟩ := h
  have hq : m.k.toNat < l.length := by omega
  refine ⟨m.k.toNat, hq, by omega, ?_, ?_, ?_⟩
  · unfold Mv.thr; rw [List.getElem?_eq_getElem hq]
  · unfold mE Mv.from Mv.to_ inc
    rw [List.getElem?_eq_getElem hq]
    dsimp only
    cases m.r
    · rfl
    · exact Int.add_comm _ _
  · unfold Mv.from Mv.to_
    rw [List.getElem?_eq_getElem hq]
    dsimp only
    cases m.r
    · exact .inl ⟨rfl, rfl⟩
    · exact .inr ⟨rfl, rfl⟩
theorem par_take {l : List Sm} {r : List Mv} (h : GoodRun l r) (v : Nat) : ∀ i, i < r.length → ((r.take (i + 1)).map (mE l v)).sum % 2 = ((if runB l r = (v : Int) then 1 else 0) + (if (r.getD i default).to_ l = (v : Int) then (1 : Int) else 0)) % 2
  | 0, hi => by
    rw [List.take_succ_eq_append_getElem hi]
    unfold runB
    rw [getD_get hi]
    simp [mE]
  | i + 1, hi => by
    have ih := par_take h v i (by omega)
    obtain ⟨_, hf, _⟩ := h.2 (i + 1) hi
    have hfo : (r.getD i default).to_ l = (r.getD (i + 1) default).from l := by
      rcases hf with hf | hf
      · omega
      · rw [Nat.add_sub_cancel] at hf; exact hf
    rw [List.take_succ_eq_append_getElem hi, List.map_append, List.sum_append_int, List.map_cons, List.map_nil, List.sum_cons, List.sum_nil]
    rw [hfo] at ih
    rw [← getD_get hi]
    show (_ + (((if (r.getD (i + 1) default).from l = (v : Int) then (1 : Int) else 0) + (if (r.getD (i + 1) default).to_ l = (v : Int) then (1 : Int) else 0)) + 0)) % 2 = _
    generalize (if (r.getD (i + 1) default).from l = (v : Int) then (1 : Int) else 0) = y at *
    generalize (if (r.getD (i + 1) default).to_ l = (v : Int) then (1 : Int) else 0) = z at *
    generalize (if runB l r = (v : Int) then (1 : Int) else 0) = x at *
    have hy : y = 0 ∨ y = 1 ∨ True := .inr (.inr trivial)
    have h2 : ((List.map (mE l v) (List.take (i + 1) r)).sum + (y + z + 0)) % 2 = ((x + y) + (y + z)) % 2 := by omega
    omega
theorem run_par {l : List Sm} {r : List Mv} (h : GoodRun l r) (v : Nat) : (r.map (mE l v)).sum % 2 = ((if runB l r = (v : Int) then 1 else 0) + (if runE l r = (v : Int) then (1 : Int) else 0)) % 2 := by
  have h0 : 0 < r.length := List.length_pos_iff.2 h.1
  have := par_take h v (r.length - 1) (by omega)
  rw [List.take_of_length_le (by omega)] at this
  exact this
theorem sub_len : ∀ (a b : List Int), a.Nodup → (∀ x ∈ a, x ∈ b) → a.length ≤ b.length
  | [], _, _, _ => by simp
  | x :: a, b, hd, h => by
    obtain ⟨h1, h2⟩ := List.nodup_cons.1 hd
    have hx := h x (by simp)
    have ih := sub_len a (b.erase x) h2 (fun y hy => (List.mem_erase_of_ne (fun e => h1 (by rw [← e]; exact hy))).2 (h y (by simp [hy])))
    rw [List.length_erase_of_mem hx] at ih
    have : 0 < b.length := List.length_pos_of_mem hx
    rw [List.length_cons]; omega
section
variable {n : Nat} {l : List Sm} {t : Int}
/-- all of a run lies in one class -/
theorem run_cls (hl : ∀ s ∈ l, SmOk n s) {r : List Mv} (h : GoodRun l r) (ht : 0 ≤ t) (hr : runT l r = t) : ∀ i, i < r.length → kls l t ((r.getD i default).from l).toNat = kls l t (runB l r).toNat ∧ kls l t ((r.getD i default).to_ l).toNat = kls l t (runB l r).toNat := by
  have hmv : ∀ i, i < r.length → kls l t ((r.getD i default).from l).toNat = kls l t ((r.getD i default).to_ l).toNat := by
    intro i hi
    obtain ⟨h1, _, h3⟩ := h.2 i hi
    obtain ⟨q, hq, _, ht', _, he⟩ := mv_inc h1 0
    have hk := kls_ends hl ht hq (by rw [← ht']; exact h3.trans hr)
    rcases he with ⟨e1, e2⟩ | ⟨e1, e2⟩
    · rw [e1, e2]; exact hk
    · rw [e1, e2]; exact hk.symm
  intro i
  induction i with
  | zero => intro hi; exact ⟨rfl, (hmv 0 hi).symm⟩
  | succ i ih =>
    intro hi
    obtain ⟨_, h2⟩ := ih (by omega)
    obtain ⟨_, hf, _⟩ := h.2 (i + 1) hi
    have hfo : (r.getD i default).to_ l = (r.getD (i + 1) default).from l := by
      rcases hf with hf | hf
      · omega
      · rw [Nat.add_sub_cancel] at hf; exact hf
    rw [hfo] at h2
    exact ⟨h2, (hmv (i + 1) hi).symm.trans h2⟩
theorem run_rng (hl : ∀ s ∈ l, SmOk n s) {r : List Mv} (h : GoodRun l r) : 0 ≤ runB l r ∧ runB l r < n := by
  have h0 : 0 < r.length := List.length_pos_iff.2 h.1
  obtain ⟨q, hq, _, _, _, he⟩ := mv_inc (h.2 0 h0).1 0
  have := hl _ (List.getElem_mem hq)
  unfold SmOk at this
  unfold runB
  rcases he with ⟨e, _⟩ | ⟨e, _⟩ <;> rw [e] <;> omega
/-- a run's moves are of a class, or none is -/
theorem run_chJ (hl : ∀ s ∈ l, SmOk n s) {r : List Mv} (h : GoodRun l r) (ht : 0 ≤ t) (j : Int) {m : Mv} (hm : m ∈ r) : ∃ q, ∃ hq : q < l.length, m.k = (q : Int) ∧ (chJ l t j l[q] = true ↔ runT l r = t ∧ kls l t (runB l r).toNat = j) := by
  obtain ⟨i, hi, rfl⟩ := List.getElem_of_mem hm
  obtain ⟨h1, _, h3⟩ := h.2 i hi
  rw [getD_get hi] at h1
  obtain ⟨q, hq, e, ht', _, he⟩ := mv_inc h1 0
  refine ⟨q, hq, e, ?_⟩
  have hth : r[i].thr l = runT l r := by unfold thd at h3; rw [getD_get hi] at h3; exact h3
  rw [chJ_iff, ← ht', hth]
  constructor
  · rintro ⟨e1, e2⟩
    obtain ⟨c1, c2⟩ := run_cls hl h ht e1 i hi
    rw [getD_get hi] at c1 c2
    refine ⟨e1, ?_⟩
    rcases he with ⟨a1, a2⟩ | ⟨a1, a2⟩
    · rw [← c1, a1]; exact e2
    · rw [← c2, a2]; exact e2
  · rintro ⟨e1, e2⟩
    obtain ⟨c1, c2⟩ := run_cls hl h ht e1 i hi
    rw [getD_get hi] at c1 c2
    refine ⟨e1, ?_⟩
    rcases he with ⟨a1, a2⟩ | ⟨a1, a2⟩
    · rw [← a1, c1]; exact e2
    · rw [← a2, c2]; exact e2
/-- the least number of runs of a class is met -/
theorem least_J (hl : ∀ s ∈ l, SmOk n s) (ht : 0 ≤ t) {ls : List (List Mv)} (h : Sewing l ls) (j : Int) : fwJ l t j ≤ (ls.filter fun r => decide (runT l r = t)).countP fun r => decide (kls l t (runB l r).toNat = j) := by
  rw [List.countP_eq_length_filter, List.filter_filter]
  generalize hRJ : ls.filter (fun r => decide (kls l t (runB l r).toNat = j) && decide (runT l r = t)) = RJ
  have hmem : ∀ r, r ∈ RJ ↔ r ∈ ls ∧ (runT l r = t ∧ kls l t (runB l r).toNat = j) := by
    intro r
    rw [← hRJ, List.mem_filter, Bool.and_eq_true, decide_eq_true_iff, decide_eq_true_iff]
    exact ⟨fun ⟨a, b, c⟩ => ⟨a, c, b⟩, fun ⟨a, b, c⟩ => ⟨a, c, b⟩⟩
  unfold fwJ
  split
  · omega
  · rename_i hne
    have h1 : 1 ≤ RJ.length := by
      obtain ⟨s, hs⟩ := List.exists_mem_of_ne_nil _ hne
      obtain ⟨q, hq, _, hc, _⟩ := (lnsC_mem l.length (Nat.le_refl _)).1 hs
      have hk : (q : Int) ∈ ls.flatten.map Mv.k := h.keys.mem_iff.2 (List.mem_map.2 ⟨q, List.mem_range.2 hq, rfl⟩)
      obtain ⟨m, hm, e⟩ := List.mem_map.1 hk
      obtain ⟨r, hr, hmr⟩ := List.mem_flatten.1 hm
      obtain ⟨q', hq', e', hiff⟩ := run_chJ hl (h.1 r hr) ht j hmr
      obtain rfl : q' = q := by omega
      exact List.length_pos_of_mem ((hmem r).2 ⟨hr, hiff.1 hc⟩)
    have h2 : (oddN (chJ l t j) l 16).length ≤ 2 * RJ.length := by
      have hs := sub_len (oddN (chJ l t j) l 16) (RJ.flatMap fun r => [runB l r, runE l r]) (oddN_nodup _ _ _) (fun x hx => by
        obtain ⟨v, rfl, _, hd⟩ := oddN_mem 16 x hx
        refine Classical.byContradiction fun hn => ?_
        rw [sew_deg h] at hd
        have hev := sum_even (h := fun r => (r.map fun m => gM (chJ l t j) l v m.k).sum) ls (fun r hr => by
          by_cases hin : runT l r = t ∧ kls l t (runB l r).toNat = j
          · have e : (r.map fun m => gM (chJ l t j) l v m.k) = r.map (mE l v) := by
              refine List.map_congr_left fun m hm => ?_
              obtain ⟨q, hq, e, hiff⟩ := run_chJ hl (h.1 r hr) ht j hm
              obtain ⟨i, hi, rfl⟩ := List.getElem_of_mem hm
              have hG := ((h.1 r hr).2 i hi).1
              rw [getD_get hi] at hG
              obtain ⟨q', hq', e', _, hinc, _⟩ := mv_inc hG v
              obtain rfl : q' = q := by omega
              unfold gM gJ
              rw [e, Int.toNat_natCast, List.getElem?_eq_getElem hq]
              dsimp only
              rw [if_pos (hiff.2 hin), hinc]
            show (r.map fun m => gM (chJ l t j) l v m.k).sum % 2 = 0
            rw [e, run_par (h.1 r hr)]
            have hnb : ¬ runB l r = v := fun e => hn (List.mem_flatMap.2 ⟨r, (hmem r).2 ⟨hr, hin⟩, by rw [← e]; simp⟩)
            have hne : ¬ runE l r = v := fun e => hn (List.mem_flatMap.2 ⟨r, (hmem r).2 ⟨hr, hin⟩, by rw [← e]; simp⟩)
            rw [if_neg hnb, if_neg hne]
            rfl
          · have e : (r.map fun m => gM (chJ l t j) l v m.k) = r.map fun _ => (0 : Int) := by
              refine List.map_congr_left fun m hm => ?_
              obtain ⟨q, hq, e, hiff⟩ := run_chJ hl (h.1 r hr) ht j hm
              unfold gM gJ
              rw [e, Int.toNat_natCast, List.getElem?_eq_getElem hq]
              dsimp only
              rw [if_neg (fun hc => hin (hiff.1 hc))]
            show (r.map fun m => gM (chJ l t j) l v m.k).sum % 2 = 0
            rw [e]
            have z : ∀ r : List Mv, (r.map fun _ => (0 : Int)).sum = 0 := fun r => by induction r <;> simp_all
            rw [z]; rfl)
        omega)
      have hfl : ∀ R : List (List Mv), (R.flatMap fun r => [runB l r, runE l r]).length = 2 * R.length := fun R => by
        induction R with
        | nil => rfl
        | cons r R ih => rw [List.flatMap_cons, List.length_append, ih, List.length_cons]; simp; omega
      rw [hfl] at hs
      exact hs
    omega
/-- no sewing has fewer runs of a thread -/
theorem least_T (hl : ∀ s ∈ l, SmOk n s) (ht : 0 ≤ t) {ls : List (List Mv)} (h : Sewing l ls) : fwT l t n ≤ ls.countP fun r => decide (runT l r = t) := by
  rw [List.countP_eq_length_filter, count_split (f := fun r => kls l t (runB l r).toNat) n (fun r hr => by
    have hg := run_rng hl (h.1 r (List.mem_filter.1 hr).1)
    exact (kls_inv t hl).rng _ (by omega))]
  have key : ∀ m : Nat, fwT l t m ≤ ((List.range m).map fun j : Nat => (ls.filter fun r => decide (runT l r = t)).countP fun r => decide (kls l t (runB l r).toNat = (j : Int))).sum := by
    intro m
    induction m with
    | zero => simp [fwT]
    | succ m ih =>
      have := least_J hl ht h (m : Int)
      rw [List.range_succ, List.map_append, List.sum_append_nat]
      simp only [List.map_cons, List.map_nil, List.sum_cons, List.sum_nil]
      show fwT l t m + fwJ l t m ≤ _
      omega
  exact key n
end
theorem least_all {N : Int} {l : List Sm} (hok : GOk N l) {ls : List (List Mv)} (h : Sewing l ls) : fwN N l ≤ ls.length := by
  obtain ⟨n, hn⟩ := Int.eq_ofNat_of_zero_le (show 0 ≤ N by have := hok.1; omega)
  subst hn
  rw [count_split (f := runT l) 8 (fun r hr' => runT_rng hok.2.2.2 (h.1 r hr')), fwN, Int.toNat_natCast]
  have key : ∀ m : Nat, fwA l n m ≤ ((List.range m).map fun t : Nat => ls.countP fun r => decide (runT l r = (t : Int))).sum := by
    intro m
    induction m with
    | zero => simp [fwA]
    | succ m ih =>
      have := least_T (n := n) (t := (m : Int)) hok.2.2.2 (by omega) h
      rw [List.range_succ, List.map_append, List.sum_append_nat]
      simp only [List.map_cons, List.map_nil, List.sum_cons, List.sum_nil]
      show fwA l n m + fwT l m n ≤ _
      omega
  exact key 8
end Go.Proofs.Ytbhjhajnhpohlaa
