/- Texts joined: FlQ, FlR, Uf, UfP. Conditions: see each. -/
import Derived.Test.YtmgofdgbenfjmaaDoorMp1
namespace Go.Proofs.YtmgofdgbenfjmaaDoor

/-- reached from c by steps to cells that are in -/
inductive Rch (next : Cel → List Cel) (is : Cel → Bool) (c : Cel) : Cel → Prop
  | refl : Rch next is c c
  | step {d e : Cel} : Rch next is c d → e ∈ next d → is e = true → Rch next is c e
section
variable {next : Cel → List Cel} {is : Cel → Bool} {c d e : Cel}
theorem Rch.good (h : Rch next is c d) (hc : is c = true) : is d = true := by
  cases h with
  | refl => exact hc
  | step _ _ h => exact h
theorem Rch.trans (h : Rch next is c d) (k : Rch next is d e) : Rch next is c e := by
  induction k with
  | refl => exact h
  | step _ h2 h3 ih => exact .step ih h2 h3
theorem Rch.symm (hn : ∀ a b, b ∈ next a → a ∈ next b) (hc : is c = true) (h : Rch next is c d) : Rch next is d c := by
  induction h with
  | refl => exact .refl
  | step h1 h2 _ ih => exact (Rch.step .refl (hn _ _ h2) (h1.good hc)).trans ih
theorem Rch.congr {next' : Cel → List Cel} {is' : Cel → Bool} (hn : ∀ a b, b ∈ next a → b ∈ next' a) (hi : ∀ a, is a = true → is' a = true) (h : Rch next is c d) : Rch next' is' c d := by
  induction h with
  | refl => exact .refl
  | step _ h2 h3 ih => exact .step ih (hn _ _ h2) (hi _ h3)
/-- one row of neighbours looked at -/
theorem flSteps_eq (is : Cel → Bool) (S : List Cel) : ∀ (cs : List Cel) (st : List Cel × List Cel), st.1 = S ++ st.2 → (cs.foldl (flStep is) st).1 = S ++ (cs.foldl (flStep is) st).2 ∧ (∃ t, (cs.foldl (flStep is) st).2 = st.2 ++ t ∧ ∀ x ∈ t, x ∈ cs ∧ is x = true) ∧ ∀ x ∈ cs, is x = true → x ∈ (cs.foldl (flStep is) st).1
  | [], st, h => ⟨h, ⟨[], by simp, fun x hx => by simp at hx⟩, fun x hx => by simp at hx⟩
  | y :: cs, st, h => by
    have h1 : (flStep is st y).1 = S ++ (flStep is st y).2 := by
      unfold flStep
      split
      · exact h
      · split
        · show st.1 ++ [y] = S ++ (st.2 ++ [y]); rw [h, List.append_assoc]
        · exact h
    have h2 : ∃ t, (flStep is st y).2 = st.2 ++ t ∧ ∀ x ∈ t, x = y ∧ is x = true := by
      unfold flStep
      split
      · exact ⟨[], by simp, fun x hx => by simp at hx⟩
      · split
        · rename_i hy
          exact ⟨[y], rfl, fun x hx => by simp at hx; subst hx; exact ⟨rfl, hy⟩⟩
        · exact ⟨[], by simp, fun x hx => by simp at hx⟩
    have h3 : is y = true → y ∈ (flStep is st y).1 := by
      intro hy
      unfold flStep
      split
      · assumption
      · simp
    obtain ⟨i1, ⟨t, i2, i3⟩, i4⟩ := flSteps_eq is S cs (flStep is st y) h1
    obtain ⟨t0, j2, j3⟩ := h2
    rw [List.foldl_cons]
    refine ⟨i1, ⟨t0 ++ t, by rw [i2, j2, List.append_assoc], fun x hx => ?_⟩, fun x hx hi => ?_⟩
    · rcases List.mem_append.1 hx with hx | hx
      · obtain ⟨rfl, h⟩ := j3 x hx; exact ⟨by simp, h⟩
      · obtain ⟨h, h'⟩ := i3 x hx; exact ⟨by simp [h], h'⟩
    · rcases List.mem_cons.1 hx with rfl | hx
      · have h5 := h3 hi
        rw [h1] at h5
        rw [i1, i2]
        rcases List.mem_append.1 h5 with h5 | h5
        · exact List.mem_append.2 (.inl h5)
        · exact List.mem_append.2 (.inr (List.mem_append.2 (.inl h5)))
      · exact i4 x hx hi
/-- a flood under way: i cells looked at -/
structure FlG (next : Cel → List Cel) (is : Cel → Bool) (S : List Cel) (c : Cel) (i : Nat) (st : List Cel × List Cel) : Prop where
  mk_ : st.1 = S ++ st.2
  cin : c ∈ st.2
  rch : ∀ d ∈ st.2, Rch next is c d
  done : ∀ j (h : j < st.2.length), j < i → ∀ e ∈ next st.2[j], is e = true → e ∈ st.2
theorem flGo_good {U S : List Cel} (hU : ∀ c, is c = true → c ∈ U) (hS : ∀ d, Rch next is c d → d ∉ S) : ∀ (n i : Nat) (st : List Cel × List Cel), U.length ≤ n + i → FlI U st → FlG next is S c i st → ∃ i', FlG next is S c i' (flGo next is n i st) ∧ (flGo next is n i st).2.length ≤ i'
  | 0, i, st, hn, hI, hG => ⟨i, hG, by have := hI.len; show st.2.length ≤ i; omega⟩
  | n + 1, i, st, hn, hI, hG => by
    by_cases hi : i < st.2.length
    · rw [flGo_step _ _ _ _ _ hi]
      obtain ⟨s1, ⟨t, s2, s3⟩, s4⟩ := flSteps_eq is S (next st.2[i]) st hG.mk_
      have hr := hG.rch _ (List.getElem_mem hi)
      have hin : ∀ e ∈ next st.2[i], is e = true → e ∈ ((next st.2[i]).foldl (flStep is) st).2 := by
        intro e he hie
        have h5 := s4 e he hie
        rw [s1] at h5
        rcases List.mem_append.1 h5 with h5 | h5
        · exact absurd h5 (hS e (.step hr he hie))
        · exact h5
      refine flGo_good hU hS n (i + 1) _ (by omega) (hI.steps hU _) ⟨s1, ?_, ?_, ?_⟩
      · rw [s2]; exact List.mem_append.2 (.inl hG.cin)
      · intro d hd
        rw [s2] at hd
        rcases List.mem_append.1 hd with hd | hd
        · exact hG.rch d hd
        · obtain ⟨h6, h7⟩ := s3 d hd
          exact .step hr h6 h7
      · intro j hj hji e he hie
        have hjl : j < st.2.length := by omega
        have ej : ((next st.2[i]).foldl (flStep is) st).2[j] = st.2[j] := by
          have : ((next st.2[i]).foldl (flStep is) st).2[j]? = st.2[j]? := by rw [s2, List.getElem?_append_left hjl]
          rw [List.getElem?_eq_getElem hj, List.getElem?_eq_getElem hjl] at this
          exact Option.some.inj this
        rw [ej] at he
        by_cases hlt : j < i
        · have := hG.done j hjl hlt e he hie
          rw [s2]; exact List.mem_append.2 (.inl this)
        · obtain rfl : j = i := by omega
          exact hin e he hie
    · rw [flGo_end _ _ _ _ _ (by omega)]
      exact ⟨i, hG, by omega⟩
/-- a whole flood: what is reached, once each; the marks -/
theorem fld_all {U S : List Cel} {n : Nat} (hU : ∀ c, is c = true → c ∈ U) (hc : c ∈ U) (hS : ∀ d, Rch next is c d → d ∉ S) (hn : U.length ≤ n) : (fld next is n S c).1 = S ++ (fld next is n S c).2 ∧ (fld next is n S c).2.Nodup ∧ ∀ d, d ∈ (fld next is n S c).2 ↔ Rch next is c d := by
  have hI : FlI U (S ++ [c], [c]) := ⟨fun x hx => by simp at hx; subst hx; simp, by simp, fun x hx => by simp at hx; subst hx; exact hc⟩
  obtain ⟨i', hG, hl⟩ := flGo_good (next := next) (is := is) (c := c) hU hS n 0 (S ++ [c], [c]) (by omega) hI ⟨rfl, by simp, fun d hd => by simp at hd; subst hd; exact .refl, fun j _ h => by omega⟩
  refine ⟨hG.mk_, (FlI.go hU n 0 hI).2.1, fun d => ⟨fun h => hG.rch d h, fun h => ?_⟩⟩
  induction h with
  | refl => exact hG.cin
  | step _ h2 h3 ih =>
    obtain ⟨j, hj, rfl⟩ := List.getElem_of_mem ih
    exact hG.done j hj (by show j < i'; have : j < (flGo next is n 0 (S ++ [c], [c])).2.length := hj; omega) _ h2 h3
end
/-- parts hang on the set of their cells alone -/
theorem box_perm {l l' : List Cel} (h : l.Perm l') : boxL l = boxL l' := by
  unfold boxL
  refine h.foldl_eq' (fun x _ y _ b => ?_) Bx.no
  unfold Bx.with_
  simp only [Bx.mk.injEq]
  omega
theorem sum_permN {a b : List Nat} (h : a.Perm b) : a.sum = b.sum := by
  induction h with
  | nil => rfl
  | cons x _ ih => simp [ih]
  | swap x y l => simp; omega
  | trans _ _ ih1 ih2 => exact ih1.trans ih2
theorem edge_perm {l l' : List Cel} (h : l.Perm l') : edgeL l = edgeL l' := by
  unfold edgeL
  have e : (fun c => ((sidesL c).filter fun d => decide (d ∉ l)).length) = fun c => ((sidesL c).filter fun d => decide (d ∉ l')).length := by
    funext c
    congr 2
    funext d
    rw [decide_eq_decide, h.mem_iff]
  rw [e]
  exact sum_permN (h.map _)
theorem hole_perm {l l' : List Cel} (h : l.Perm l') (b : Bx) (n : Nat) : holesL l b n = holesL l' b n := by
  have e : freeL l b = freeL l' b := by
    funext c
    unfold freeL
    have : decide (c ∉ l) = decide (c ∉ l') := by rw [decide_eq_decide, h.mem_iff]
    rw [this]
  have e2 : holeStep l b n = holeStep l' b n := by
    funext st c
    unfold holeStep
    rw [e]
    by_cases hc : c ∈ l ∨ c ∈ st.1
    · rw [if_pos hc, if_pos (by rw [← h.mem_iff]; exact hc)]
    · rw [if_neg hc, if_neg (by rw [← h.mem_iff]; exact hc)]
  unfold holesL
  rw [e, e2]
theorem part_perm {l l' : List Cel} (h : l.Perm l') (n : Nat) : partL l n = partL l' n := by
  unfold partL
  rw [h.length_eq, edge_perm h, box_perm h, hole_perm h]
/-- what a class function must do: alike where reached, and its value is the first of the scan -/
structure RtOk (us : Cel → Bool) (cs : List Cel) (rt : Cel → Cel) : Prop where
  nd : cs.Nodup
  all : ∀ c, us c = true → c ∈ cs
  iff : ∀ c d, us c = true → us d = true → (Rch sidesL us c d ↔ rt c = rt d)
  good : ∀ c, us c = true → us (rt c) = true
  idem : ∀ c, us c = true → rt (rt c) = rt c
  first : ∀ i (h : i < cs.length), us cs[i] = true → ∃ j, ∃ hj : j < cs.length, j ≤ i ∧ rt cs[i] = cs[j]
/-- the parts, by a class function -/
def rtParts (us : Cel → Bool) (cs : List Cel) (rt : Cel → Cel) (n : Nat) (ds : List Cel) : List Prt := (ds.filter fun c => us c && decide (rt c = c)).map fun c => partL (cs.filter fun d => us d && decide (rt d = c)) n
theorem nodup_at {cs : List Cel} (h : cs.Nodup) {i j : Nat} (hi : i < cs.length) (hj : j < cs.length) (he : cs[i] = cs[j]) : i = j := by
  rcases Nat.lt_trichotomy i j with hl | hl | hl
  · exact absurd he (List.pairwise_iff_getElem.1 h i j hi hj hl)
  · exact hl
  · exact absurd he.symm (List.pairwise_iff_getElem.1 h j i hj hi hl)
theorem parts_go {us : Cel → Bool} {cs : List Cel} {rt : Cel → Cel} (h : RtOk us cs rt) {n : Nat} (hn : cs.length ≤ n) : ∀ k, k ≤ cs.length → (∀ d, d ∈ ((cs.take k).foldl (partStep us n) ([], [])).1 ↔ ∃ j, ∃ hj : j < cs.length, j < k ∧ us cs[j] = true ∧ us d = true ∧ rt cs[j] = rt d) ∧ ((cs.take k).foldl (partStep us n) ([], [])).2 = rtParts us cs rt n (cs.take k)
  | 0, _ => by
    refine ⟨fun d => ⟨fun hd => by simp at hd, fun ⟨j, _, hj, _⟩ => by omega⟩, rfl⟩
  | k + 1, hk => by
    have hlt : k < cs.length := by omega
    obtain ⟨i1, i2⟩ := parts_go h hn k (by omega)
    rw [List.take_succ_eq_append_getElem hlt, List.foldl_append]
    obtain ⟨st, hst⟩ : ∃ st, st = (cs.take k).foldl (partStep us n) ([], []) := ⟨_, rfl⟩
    rw [← hst] at i1 i2 ⊢
    show (∀ d, d ∈ (partStep us n st cs[k]).1 ↔ _) ∧ (partStep us n st cs[k]).2 = _
    unfold partStep
    have hsp : rtParts us cs rt n (cs.take k ++ [cs[k]]) = rtParts us cs rt n (cs.take k) ++ rtParts us cs rt n [cs[k]] := by
      unfold rtParts; rw [List.filter_append, List.map_append]
    rw [hsp]
    by_cases hu : us cs[k] = true
    · rw [if_pos hu]
      by_cases hm : cs[k] ∈ st.1
      · rw [if_pos hm]
        obtain ⟨j, hj, hjk, hju, _, hjr⟩ := (i1 _).1 hm
        -- its class began before
        have hne : ¬ rt cs[k] = cs[k] := by
          intro he
          obtain ⟨j', hj', hle, hjr'⟩ := h.first j hj hju
          have := nodup_at h.nd hj' hlt (by rw [← hjr', hjr, he])
          omega
        refine ⟨fun d => ?_, ?_⟩
        · rw [i1 d]
          constructor
          · rintro ⟨j1, h1, h2, h3⟩; exact ⟨j1, h1, by omega, h3⟩
          · rintro ⟨j1, h1, h2, h3, h4, h5⟩
            by_cases hlt2 : j1 < k
            · exact ⟨j1, h1, hlt2, h3, h4, h5⟩
            · obtain rfl : j1 = k := by omega
              exact ⟨j, hj, hjk, hju, h4, hjr.trans h5⟩
        · rw [i2]
          have : rtParts us cs rt n [cs[k]] = [] := by unfold rtParts; simp [hne]
          rw [this, List.append_nil]
      · rw [if_neg hm]
        have heq : rt cs[k] = cs[k] := by
          obtain ⟨j, hj, hle, hjr⟩ := h.first k hlt hu
          by_cases hjk : j = k
          · subst hjk; exact hjr
          · refine absurd ((i1 _).2 ⟨j, hj, by omega, ?_, hu, ?_⟩) hm
            · rw [← hjr]; exact h.good _ hu
            · rw [← hjr]; exact h.idem _ hu
        have hS : ∀ d, Rch sidesL us cs[k] d → d ∉ st.1 := by
          intro d hd hdm
          obtain ⟨j, hj, hjk, hju, hdu, hjr⟩ := (i1 d).1 hdm
          have e := (h.iff _ _ hu hdu).1 hd
          exact hm ((i1 _).2 ⟨j, hj, hjk, hju, hu, by rw [hjr, ← e]⟩)
        obtain ⟨f1, f2, f3⟩ := fld_all (U := cs) (n := n) h.all (h.all _ hu) hS hn
        refine ⟨fun d => ?_, ?_⟩
        · rw [show ((fld sidesL us n st.1 cs[k]).1, st.2 ++ [partL (fld sidesL us n st.1 cs[k]).2 n]).1 = (fld sidesL us n st.1 cs[k]).1 from rfl, f1, List.mem_append, i1 d, f3 d]
          constructor
          · rintro (⟨j1, h1, h2, h3⟩ | hd)
            · exact ⟨j1, h1, by omega, h3⟩
            · have hdu := hd.good hu
              exact ⟨k, hlt, by omega, hu, hdu, (h.iff _ _ hu hdu).1 hd⟩
          · rintro ⟨j1, h1, h2, h3, h4, h5⟩
            by_cases hlt2 : j1 < k
            · exact .inl ⟨j1, h1, hlt2, h3, h4, h5⟩
            · obtain rfl : j1 = k := by omega
              exact .inr ((h.iff _ _ hu h4).2 h5)
        · show st.2 ++ [partL (fld sidesL us n st.1 cs[k]).2 n] = _
          rw [i2]
          have e1 : rtParts us cs rt n [cs[k]] = [partL (cs.filter fun d => us d && decide (rt d = cs[k])) n] := by unfold rtParts; simp [hu, heq]
          rw [e1]
          have hp : (fld sidesL us n st.1 cs[k]).2.Perm (cs.filter fun d => us d && decide (rt d = cs[k])) := by
            refine (List.perm_ext_iff_of_nodup f2 (h.nd.filter _)).2 fun d => ?_
            rw [f3 d, List.mem_filter, Bool.and_eq_true, decide_eq_true_iff]
            constructor
            · intro hd
              have hdu := hd.good hu
              exact ⟨h.all _ hdu, hdu, by rw [← (h.iff _ _ hu hdu).1 hd, heq]⟩
            · rintro ⟨_, hdu, he⟩
              exact (h.iff _ _ hu hdu).2 (by rw [he, heq])
          rw [part_perm hp]
    · rw [if_neg hu]
      refine ⟨fun d => ?_, ?_⟩
      · rw [i1 d]
        constructor
        · rintro ⟨j1, h1, h2, h3⟩; exact ⟨j1, h1, by omega, h3⟩
        · rintro ⟨j1, h1, h2, h3, h4, h5⟩
          by_cases hlt2 : j1 < k
          · exact ⟨j1, h1, hlt2, h3, h4, h5⟩
          · obtain rfl : j1 = k := by omega
            exact absurd h3 hu
      · rw [i2]
        have : rtParts us cs rt n [cs[k]] = [] := by unfold rtParts; simp [hu]
        rw [this, List.append_nil]
/-- Parts, by a class function -/
theorem parts_rt {us : Cel → Bool} {w h n : Nat} {rt : Cel → Cel} (hr : RtOk us (boxCells ⟨0, 0, (w : Int) - 1, (h : Int) - 1⟩) rt) (hn : (boxCells ⟨0, 0, (w : Int) - 1, (h : Int) - 1⟩).length ≤ n) : partsL us w h n = rtParts us (boxCells ⟨0, 0, (w : Int) - 1, (h : Int) - 1⟩) rt n (boxCells ⟨0, 0, (w : Int) - 1, (h : Int) - 1⟩) := by
  have := (parts_go hr hn _ (Nat.le_refl _)).2
  rw [List.take_length] at this
  exact this

/-- k new classes are met along a list, where those of M are known -/
inductive Fc (R : Cel → Cel → Prop) (is : Cel → Bool) : List Cel → List Cel → Nat → Prop
  | nil (M : List Cel) : Fc R is M [] 0
  | skip {M ds : List Cel} {c : Cel} {k : Nat} : (is c = false ∨ ∃ m ∈ M, R m c) → Fc R is M ds k → Fc R is M (c :: ds) k
  | new {M ds : List Cel} {c : Cel} {k : Nat} : is c = true → (¬ ∃ m ∈ M, R m c) → Fc R is (c :: M) ds k → Fc R is M (c :: ds) (k + 1)
section
variable {R : Cel → Cel → Prop} {is : Cel → Bool}
theorem Fc.uniq {M ds : List Cel} {k k' : Nat} (h : Fc R is M ds k) (h' : Fc R is M ds k') : k = k' := by
  induction h generalizing k' with
  | nil => cases h'; rfl
  | skip h1 _ ih =>
    cases h' with
    | skip _ h3 => exact ih h3
    | new h3 h4 _ =>
      rcases h1 with h1 | h1
      · rw [h1] at h3; cases h3
      · exact absurd h1 h4
  | new h1 h2 _ ih =>
    cases h' with
    | skip h3 _ =>
      rcases h3 with h3 | h3
      · rw [h1] at h3; cases h3
      · exact absurd h3 h2
    | new _ _ h3 => rw [ih h3]
/-- what is known or out may be left out -/
theorem Fc.drop {p : Cel → Bool} {M ds : List Cel} {k : Nat} (h : Fc R is M ds k) (hp : ∀ c ∈ ds, p c = false → is c = false ∨ ∃ m ∈ M, R m c) : Fc R is M (ds.filter p) k := by
  induction h with
  | nil M => exact .nil M
  | @skip M ds c k h1 _ ih =>
    have ih := ih (fun x hx => hp x (by simp [hx]))
    cases hc : p c
    · rw [List.filter_cons_of_neg (by simp [hc])]; exact ih
    · rw [List.filter_cons_of_pos hc]; exact .skip h1 ih
  | @new M ds c k h1 h2 _ ih =>
    have ih := ih (fun x hx hpx => by
      rcases hp x (by simp [hx]) hpx with h | ⟨m, hm, h⟩
      · exact .inl h
      · exact .inr ⟨m, by simp [hm], h⟩)
    cases hc : p c
    · rcases hp c (by simp) hc with h | h
      · rw [h1] at h; cases h
      · exact absurd h h2
    · rw [List.filter_cons_of_pos hc]; exact .new h1 h2 ih
end
theorem near_symm (a b : Cel) (h : b ∈ nearL a) : a ∈ nearL b := by
  obtain ⟨a1, a2⟩ := a
  obtain ⟨b1, b2⟩ := b
  simp only [nearL, List.mem_cons, List.not_mem_nil, or_false, Prod.mk.injEq] at h ⊢
  omega
theorem sides_symm (a b : Cel) (h : b ∈ sidesL a) : a ∈ sidesL b := by
  obtain ⟨a1, a2⟩ := a
  obtain ⟨b1, b2⟩ := b
  simp only [sidesL, List.mem_cons, List.not_mem_nil, or_false, Prod.mk.injEq] at h ⊢
  omega
/-- the program counts new classes -/
theorem hole_fc {l : List Cel} {b : Bx} {n : Nat} {U : List Cel} (hU : ∀ c, freeL l b c = true → c ∈ U) (hn : U.length ≤ n) : ∀ (ds : List Cel) (M : List Cel) (st : List Cel × Nat), (∀ c ∈ ds, c ∉ l → freeL l b c = true) → (∀ m ∈ M, freeL l b m = true) → (∀ d, d ∈ st.1 ↔ ∃ m ∈ M, Rch nearL (freeL l b) m d) → ∃ k, (ds.foldl (holeStep l b n) st).2 = st.2 + k ∧ Fc (Rch nearL (freeL l b)) (freeL l b) M ds k
  | [], M, st, _, _, _ => ⟨0, rfl, .nil M⟩
  | c :: ds, M, st, h1, h2, h3 => by
    rw [List.foldl_cons]
    have h1' : ∀ c ∈ ds, c ∉ l → freeL l b c = true := fun x hx => h1 x (by simp [hx])
    by_cases hc : c ∈ l ∨ c ∈ st.1
    · have e : holeStep l b n st c = st := by unfold holeStep; rw [if_pos hc]
      rw [e]
      obtain ⟨k, i1, i2⟩ := hole_fc hU hn ds M st h1' h2 h3
      refine ⟨k, i1, .skip ?_ i2⟩
      rcases hc with hc | hc
      · left
        unfold freeL
        simp [hc]
      · exact .inr ((h3 c).1 hc)
    · have e : holeStep l b n st c = ((fld nearL (freeL l b) n st.1 c).1, st.2 + 1) := by unfold holeStep; rw [if_neg hc]
      rw [e]
      have hcl : c ∉ l := fun h => hc (.inl h)
      have hcm : c ∉ st.1 := fun h => hc (.inr h)
      have hf := h1 c (by simp) hcl
      have hS : ∀ d, Rch nearL (freeL l b) c d → d ∉ st.1 := by
        intro d hd hdm
        obtain ⟨m, hm, hr⟩ := (h3 d).1 hdm
        exact hcm ((h3 c).2 ⟨m, hm, hr.trans (hd.symm near_symm hf)⟩)
      obtain ⟨f1, f2, f3⟩ := fld_all (U := U) (n := n) hU (hU c hf) hS hn
      obtain ⟨k, i1, i2⟩ := hole_fc hU hn ds (c :: M) ((fld nearL (freeL l b) n st.1 c).1, st.2 + 1) h1' (fun m hm => by
        rcases List.mem_cons.1 hm with rfl | hm
        · exact hf
        · exact h2 m hm) (fun d => by
        show d ∈ (fld nearL (freeL l b) n st.1 c).1 ↔ _
        rw [f1, List.mem_append, h3 d, f3 d]
        constructor
        · rintro (⟨m, hm, h⟩ | h)
          · exact ⟨m, by simp [hm], h⟩
          · exact ⟨c, by simp, h⟩
        · rintro ⟨m, hm, h⟩
          rcases List.mem_cons.1 hm with rfl | hm
          · exact .inr h
          · exact .inl ⟨m, hm, h⟩)
      refine ⟨k + 1, by rw [i1]; show st.2 + 1 + k = _; omega, .new hf (fun ⟨m, hm, h⟩ => hcm ((h3 c).2 ⟨m, hm, h⟩)) i2⟩
theorem holes_fc {l : List Cel} {b : Bx} {n : Nat} {U : List Cel} (hU : ∀ c, freeL l b c = true → c ∈ U) (hn : U.length ≤ n) (hc : freeL l b (b.x0 - 1, b.y0 - 1) = true) (hb : ∀ c ∈ boxCells b, c ∉ l → freeL l b c = true) : Fc (Rch nearL (freeL l b)) (freeL l b) [(b.x0 - 1, b.y0 - 1)] (boxCells b) (holesL l b n) := by
  obtain ⟨f1, f2, f3⟩ := fld_all (S := []) (U := U) (n := n) hU (hU _ hc) (fun d _ h => by simp at h) hn
  obtain ⟨k, i1, i2⟩ := hole_fc hU hn (boxCells b) [(b.x0 - 1, b.y0 - 1)] ((fld nearL (freeL l b) n [] (b.x0 - 1, b.y0 - 1)).1, 0) hb (fun m hm => by simp at hm; subst hm; exact hc) (fun d => by
    show d ∈ (fld nearL (freeL l b) n [] (b.x0 - 1, b.y0 - 1)).1 ↔ _
    rw [f1, List.nil_append, f3 d]
    constructor
    · intro h; exact ⟨_, by simp, h⟩
    · rintro ⟨m, hm, h⟩; simp at hm; subst hm; exact h)
  have e : holesL l b n = k := by unfold holesL; rw [i1]; show 0 + k = k; omega
  rw [e]; exact i2
/-- the box with a ring around it -/
def Bx.fr (b : Bx) : Bx := ⟨b.x0 - 1, b.y0 - 1, b.x1 + 1, b.y1 + 1⟩
def Bx.inB (b : Bx) (c : Cel) : Bool := decide (b.x0 ≤ c.1) && decide (c.1 ≤ b.x1) && decide (b.y0 ≤ c.2) && decide (c.2 ≤ b.y1)
theorem rowL_ring {b : Bx} {W : Nat} (hW : b.x1 + 1 - b.x0 = W) {y : Int} (hy : b.y0 ≤ y ∧ y ≤ b.y1) : (rowL (b.x0 - 1) (W + 2) y).filter b.inB = rowL b.x0 W y := by
  unfold rowL
  rw [List.range_succ_eq_map, List.map_cons, List.range_succ, List.map_append, List.map_append]
  rw [List.filter_cons_of_neg (by unfold Bx.inB; simp; omega), List.filter_append]
  have h2 : List.filter b.inB (List.map (fun i : Nat => (b.x0 - 1 + (i : Int), y)) (List.map Nat.succ [W])) = [] := by
    rw [List.filter_eq_nil_iff]
    intro c hc
    simp at hc
    subst hc
    unfold Bx.inB
    simp; omega
  rw [h2, List.append_nil, List.map_map]
  have h3 : ((fun i : Nat => (b.x0 - 1 + (i : Int), y)) ∘ Nat.succ) = fun i : Nat => (b.x0 + (i : Int), y) := by
    funext i
    show (b.x0 - 1 + ((i + 1 : Nat) : Int), y) = _
    rw [show b.x0 - 1 + ((i + 1 : Nat) : Int) = b.x0 + (i : Int) by omega]
  rw [h3, List.filter_eq_self]
  intro c hc
  obtain ⟨i, hi, rfl⟩ := List.mem_map.1 hc
  have := List.mem_range.1 hi
  unfold Bx.inB
  simp; omega
theorem rowL_out {b : Bx} {x : Int} {n : Nat} {y : Int} (hy : ¬ (b.y0 ≤ y ∧ y ≤ b.y1)) : (rowL x n y).filter b.inB = [] := by
  rw [List.filter_eq_nil_iff]
  intro c hc
  obtain ⟨i, _, rfl⟩ := List.mem_map.1 hc
  unfold Bx.inB
  simp only [Bool.and_eq_true, decide_eq_true_eq]
  omega
theorem ring_filter {b : Bx} (hx : b.x0 ≤ b.x1) (hy : b.y0 ≤ b.y1) : (boxCells b.fr).filter b.inB = boxCells b := by
  obtain ⟨W, hW⟩ := Int.eq_ofNat_of_zero_le (show 0 ≤ b.x1 + 1 - b.x0 by omega)
  obtain ⟨H, hH⟩ := Int.eq_ofNat_of_zero_le (show 0 ≤ b.y1 + 1 - b.y0 by omega)
  unfold boxCells Bx.fr
  dsimp only
  rw [show (b.y1 + 1 + 1 - (b.y0 - 1)).toNat = H + 2 by omega, show (b.x1 + 1 + 1 - (b.x0 - 1)).toNat = W + 2 by omega, show (b.y1 + 1 - b.y0).toNat = H by omega, show (b.x1 + 1 - b.x0).toNat = W by omega]
  rw [List.filter_flatMap, List.range_succ_eq_map, List.flatMap_cons, List.range_succ, List.map_append, List.flatMap_append]
  rw [rowL_out (by show ¬ (b.y0 ≤ b.y0 - 1 + ((0 : Nat) : Int) ∧ _); omega), List.nil_append]
  have h2 : List.flatMap (fun j : Nat => (rowL (b.x0 - 1) (W + 2) (b.y0 - 1 + (j : Int))).filter b.inB) (List.map Nat.succ [H]) = [] := by
    simp only [List.map_cons, List.map_nil, List.flatMap_cons, List.flatMap_nil, List.append_nil]
    exact rowL_out (by show ¬ (_ ∧ b.y0 - 1 + ((H + 1 : Nat) : Int) ≤ b.y1); omega)
  rw [h2, List.append_nil, List.flatMap_map]
  rw [List.flatMap_def, List.flatMap_def]
  congr 1
  refine List.map_congr_left fun j hj => ?_
  have := List.mem_range.1 hj
  rw [rowL_ring hW (by show b.y0 ≤ b.y0 - 1 + ((j + 1 : Nat) : Int) ∧ b.y0 - 1 + ((j + 1 : Nat) : Int) ≤ b.y1; omega)]
  rw [show b.y0 - 1 + ((Nat.succ j : Nat) : Int) = b.y0 + (j : Int) by omega]
theorem ring_head {b : Bx} (hx : b.x0 ≤ b.x1) (hy : b.y0 ≤ b.y1) : ∃ rest, boxCells b.fr = (b.x0 - 1, b.y0 - 1) :: rest := by
  obtain ⟨W, hW⟩ := Int.eq_ofNat_of_zero_le (show 0 ≤ b.x1 + 1 - b.x0 by omega)
  obtain ⟨H, hH⟩ := Int.eq_ofNat_of_zero_le (show 0 ≤ b.y1 + 1 - b.y0 by omega)
  unfold boxCells Bx.fr rowL
  dsimp only
  rw [show (b.y1 + 1 + 1 - (b.y0 - 1)).toNat = H + 2 by omega, show (b.x1 + 1 + 1 - (b.x0 - 1)).toNat = W + 2 by omega]
  rw [List.range_succ_eq_map (n := H + 1), List.flatMap_cons, List.range_succ_eq_map (n := W + 1), List.map_cons, List.cons_append]
  exact ⟨_, by rw [show b.x0 - 1 + ((0 : Nat) : Int) = b.x0 - 1 by omega, show b.y0 - 1 + ((0 : Nat) : Int) = b.y0 - 1 by omega]⟩
section
variable {is : Cel → Bool} {c : Cel}
theorem go_row {x y : Int} (h : Rch nearL is c (x, y)) : ∀ n : Nat, (∀ i : Nat, i ≤ n → is (x + i, y) = true) → Rch nearL is c (x + (n : Int), y)
  | 0, _ => by rw [show x + ((0 : Nat) : Int) = x by omega]; exact h
  | n + 1, hi => by
    have ih := go_row h n (fun i hin => hi i (by omega))
    refine .step ih ?_ (hi (n + 1) (Nat.le_refl _))
    rw [show x + ((n + 1 : Nat) : Int) = x + (n : Int) + 1 by omega]
    simp [nearL]
theorem go_col {x y : Int} (h : Rch nearL is c (x, y)) : ∀ n : Nat, (∀ i : Nat, i ≤ n → is (x, y + i) = true) → Rch nearL is c (x, y + (n : Int))
  | 0, _ => by rw [show y + ((0 : Nat) : Int) = y by omega]; exact h
  | n + 1, hi => by
    have ih := go_col h n (fun i hin => hi i (by omega))
    refine .step ih ?_ (hi (n + 1) (Nat.le_refl _))
    rw [show y + ((n + 1 : Nat) : Int) = y + (n : Int) + 1 by omega]
    simp [nearL]
end
/-- the ring is one class -/
theorem ring_one {l : List Cel} {b : Bx} (hl : ∀ c ∈ l, b.inB c = true) {c : Cel} (hc : freeL l b c = true) (ho : b.inB c = false) : Rch nearL (freeL l b) (b.x0 - 1, b.y0 - 1) c := by
  obtain ⟨x, y⟩ := c
  have hin : b.x0 - 1 ≤ x ∧ x ≤ b.x1 + 1 ∧ b.y0 - 1 ≤ y ∧ y ≤ b.y1 + 1 := by
    unfold freeL at hc
    simp only [Bool.and_eq_true, decide_eq_true_eq] at hc
    omega
  have hfree : ∀ u v : Int, b.x0 - 1 ≤ u → u ≤ b.x1 + 1 → b.y0 - 1 ≤ v → v ≤ b.y1 + 1 → (u < b.x0 ∨ b.x1 < u ∨ v < b.y0 ∨ b.y1 < v) → freeL l b (u, v) = true := by
    intro u v h1 h2 h3 h4 h5
    have hn : (u, v) ∉ l := by
      intro h
      have := hl _ h
      unfold Bx.inB at this
      simp only [Bool.and_eq_true, decide_eq_true_eq] at this
      omega
    unfold freeL
    simp only [Bool.and_eq_true, decide_eq_true_eq]
    exact ⟨⟨⟨⟨hn, h1⟩, h2⟩, h3⟩, h4⟩
  have hout : x < b.x0 ∨ b.x1 < x ∨ y < b.y0 ∨ b.y1 < y := by
    refine Classical.byContradiction fun h => ?_
    have : b.inB (x, y) = true := by
      unfold Bx.inB
      simp only [Bool.and_eq_true, decide_eq_true_eq]
      omega
    rw [ho] at this; cases this
  obtain ⟨n, hn⟩ := Int.eq_ofNat_of_zero_le (show 0 ≤ x - (b.x0 - 1) by omega)
  obtain ⟨m, hm⟩ := Int.eq_ofNat_of_zero_le (show 0 ≤ y - (b.y0 - 1) by omega)
  have ex : b.x0 - 1 + (n : Int) = x := by omega
  have ey : b.y0 - 1 + (m : Int) = y := by omega
  by_cases hh : y < b.y0 ∨ b.y1 < y
  · -- down the left side, then along the row
    have h1 := go_col (is := freeL l b) (c := (b.x0 - 1, b.y0 - 1)) .refl m (fun i hi => hfree _ _ (by omega) (by omega) (by omega) (by omega) (.inl (by omega)))
    rw [ey] at h1
    have h2 := go_row h1 n (fun i hi => hfree _ _ (by omega) (by omega) (by omega) (by omega) (.inr (.inr hh)))
    rw [ex] at h2
    exact h2
  · -- along the top, then down
    have h1 := go_row (is := freeL l b) (c := (b.x0 - 1, b.y0 - 1)) .refl n (fun i hi => hfree _ _ (by omega) (by omega) (by omega) (by omega) (.inr (.inr (.inl (by omega)))))
    rw [ex] at h1
    have h2 := go_col h1 m (fun i hi => hfree _ _ (by omega) (by omega) (by omega) (by omega) (by omega))
    rw [ey] at h2
    exact h2
/-- the reference's count over the frame is one more than the holes -/
theorem holes_frame {l : List Cel} {b : Bx} {n K : Nat} (hx : b.x0 ≤ b.x1) (hy : b.y0 ≤ b.y1) (hl : ∀ c ∈ l, b.inB c = true) {U : List Cel} (hU : ∀ c, freeL l b c = true → c ∈ U) (hn : U.length ≤ n) (h : Fc (Rch nearL (freeL l b)) (freeL l b) [] (boxCells b.fr) K) : K = holesL l b n + 1 := by
  have hc : freeL l b (b.x0 - 1, b.y0 - 1) = true := by
    have hnl : (b.x0 - 1, b.y0 - 1) ∉ l := by
      intro h
      have := hl _ h
      unfold Bx.inB at this
      simp only [Bool.and_eq_true, decide_eq_true_eq] at this
      omega
    unfold freeL
    simp only [Bool.and_eq_true, decide_eq_true_eq]
    exact ⟨⟨⟨⟨hnl, by omega⟩, by omega⟩, by omega⟩, by omega⟩
  have hb : ∀ c ∈ boxCells b, c ∉ l → freeL l b c = true := by
    intro c hcb hcl
    rw [← ring_filter hx hy, List.mem_filter] at hcb
    have hin := hcb.2
    unfold Bx.inB at hin
    simp only [Bool.and_eq_true, decide_eq_true_eq] at hin
    unfold freeL
    simp only [Bool.and_eq_true, decide_eq_true_eq]
    exact ⟨⟨⟨⟨hcl, by omega⟩, by omega⟩, by omega⟩, by omega⟩
  have h1 := holes_fc hU hn hc hb
  obtain ⟨rest, hr⟩ := ring_head hx hy
  rw [hr] at h
  cases h with
  | skip h2 _ =>
    rcases h2 with h2 | ⟨m, hm, _⟩
    · rw [hc] at h2; cases h2
    · simp at hm
  | @new _ _ _ k _ _ h2 =>
    have h3 := h2.drop (p := b.inB) (fun c _ hp => by
      cases hfc : freeL l b c
      · exact .inl rfl
      · exact .inr ⟨_, by simp, ring_one hl hfc hp⟩)
    have e : rest.filter b.inB = boxCells b := by
      rw [← ring_filter hx hy, hr, List.filter_cons_of_neg]
      unfold Bx.inB
      simp only [Bool.and_eq_true, decide_eq_true_eq]
      omega
    rw [e] at h3
    rw [h3.uniq h1]

/-- the root: n steps at most -/
def rootP (up : Nat → Nat) : Nat → Nat → Nat
  | 0, i => i
  | n + 1, i => if up i = i then i else rootP up n (up i)
def rtU (up : Nat → Nat) (i : Nat) : Nat := rootP up i i
def updN (d : Nat → Nat) (i v : Nat) : Nat → Nat := fun k => if k = i then v else d k
section
variable {up : Nat → Nat} (hd : ∀ i, up i ≤ i)
include hd
theorem rootP_more : ∀ n m i, i ≤ n → i ≤ m → rootP up n i = rootP up m i
  | 0, m, i, h1, _ => by
    obtain rfl : i = 0 := by omega
    have h0 : up 0 = 0 := by have := hd 0; omega
    cases m with
    | zero => rfl
    | succ m => show 0 = if up 0 = 0 then 0 else _; rw [if_pos h0]
  | n + 1, m, i, h1, h2 => by
    show (if up i = i then i else rootP up n (up i)) = _
    cases m with
    | zero =>
      obtain rfl : i = 0 := by omega
      have h0 : up 0 = 0 := by have := hd 0; omega
      rw [if_pos h0]; rfl
    | succ m =>
      show _ = if up i = i then i else rootP up m (up i)
      by_cases h : up i = i
      · rw [if_pos h, if_pos h]
      · rw [if_neg h, if_neg h]
        have := hd i
        exact rootP_more n m (up i) (by omega) (by omega)
theorem rtU_step {i : Nat} (h : up i ≠ i) : rtU up i = rtU up (up i) := by
  have := hd i
  unfold rtU
  cases i with
  | zero => omega
  | succ i =>
    show (if up (i + 1) = i + 1 then i + 1 else rootP up i (up (i + 1))) = _
    rw [if_neg h]
    exact rootP_more hd i _ _ (by omega) (Nat.le_refl _)
omit hd in
theorem rtU_self {i : Nat} (h : up i = i) : rtU up i = i := by
  unfold rtU
  cases i with
  | zero => rfl
  | succ i => show (if up (i + 1) = i + 1 then i + 1 else _) = _; rw [if_pos h]
theorem rtU_le (i : Nat) : rtU up i ≤ i := by
  induction i using Nat.strongRecOn with
  | _ i ih =>
    by_cases h : up i = i
    · rw [rtU_self h]; exact Nat.le_refl _
    · rw [rtU_step hd h]
      have h1 := hd i
      have := ih (up i) (by omega)
      omega
theorem rtU_fix (i : Nat) : up (rtU up i) = rtU up i := by
  induction i using Nat.strongRecOn with
  | _ i ih =>
    by_cases h : up i = i
    · rw [rtU_self h]; exact h
    · rw [rtU_step hd h]
      have h1 := hd i
      exact ih (up i) (by omega)
theorem updN_le {M m : Nat} (hle : m ≤ M) : ∀ i, updN up M m i ≤ i := by
  intro i
  unfold updN
  split
  · omega
  · exact hd i
/-- two roots joined -/
theorem rtU_join {M m : Nat} (hM : up M = M) (hm : up m = m) (hle : m ≤ M) (x : Nat) : rtU (updN up M m) x = if rtU up x = M then m else rtU up x := by
  have hd' := updN_le hd hle
  induction x using Nat.strongRecOn with
  | _ x ih =>
    by_cases h : up x = x
    · rw [rtU_self h]
      by_cases hx : x = M
      · subst hx
        rw [if_pos rfl]
        by_cases hmx : m = x
        · subst hmx
          exact rtU_self (by unfold updN; rw [if_pos rfl])
        · have e : updN up x m x = m := by unfold updN; rw [if_pos rfl]
          rw [rtU_step hd' (by rw [e]; exact hmx), e]
          exact rtU_self (by unfold updN; rw [if_neg hmx]; exact hm)
      · rw [if_neg hx]
        exact rtU_self (by unfold updN; rw [if_neg hx]; exact h)
    · have hx : x ≠ M := fun e => h (by rw [e]; exact hM)
      have e : updN up M m x = up x := by unfold updN; rw [if_neg hx]
      rw [rtU_step hd' (by rw [e]; exact h), e, rtU_step hd h]
      have h1 := hd x
      exact ih (up x) (by omega)
end
/-- classes under way: J the pairs joined so far; R what may be joined -/
structure UfI (R : Nat → Nat → Prop) (ok : Nat → Prop) (J : Nat → Nat → Prop) (up : Nat → Nat) : Prop where
  le : ∀ i, up i ≤ i
  rel : ∀ i, ok i → R i (rtU up i) ∧ ok (rtU up i)
  join : ∀ a b, J a b → rtU up a = rtU up b
theorem UfI.start {R : Nat → Nat → Prop} {ok : Nat → Prop} (hr : ∀ i, ok i → R i i) : UfI R ok (fun _ _ => False) (fun i => i) :=
  ⟨fun _ => Nat.le_refl _, fun i h => by rw [rtU_self rfl]; exact ⟨hr i h, h⟩, fun _ _ h => h.elim⟩
theorem UfI.add {R : Nat → Nat → Prop} {ok : Nat → Prop} {J : Nat → Nat → Prop} {up : Nat → Nat} (h : UfI R ok J up) (hs : ∀ a b, ok a → R a b → R b a) (ht : ∀ a b c, R a b → R b c → R a c) {a b : Nat} (ha : ok a) (hb : ok b) (hab : R a b) :
    UfI R ok (fun x y => J x y ∨ (x = a ∧ y = b)) (updN up (max (rtU up a) (rtU up b)) (min (rtU up a) (rtU up b))) := by
  have fa := rtU_fix h.le a
  have fb := rtU_fix h.le b
  obtain ⟨ra, oa⟩ := h.rel a ha
  obtain ⟨rb, ob⟩ := h.rel b hb
  have hM : up (max (rtU up a) (rtU up b)) = max (rtU up a) (rtU up b) := by
    rcases Nat.le_total (rtU up a) (rtU up b) with hh | hh
    · rw [Nat.max_eq_right hh]; exact fb
    · rw [Nat.max_eq_left hh]; exact fa
  have hm : up (min (rtU up a) (rtU up b)) = min (rtU up a) (rtU up b) := by
    rcases Nat.le_total (rtU up a) (rtU up b) with hh | hh
    · rw [Nat.min_eq_left hh]; exact fa
    · rw [Nat.min_eq_right hh]; exact fb
  have hle : min (rtU up a) (rtU up b) ≤ max (rtU up a) (rtU up b) := by omega
  have hj := rtU_join h.le hM hm hle
  have rab : R (rtU up a) (rtU up b) := ht _ _ _ (hs _ _ ha ra) (ht _ _ _ hab rb)
  have rba : R (rtU up b) (rtU up a) := hs _ _ oa rab
  refine ⟨updN_le h.le hle, fun i hi => ?_, fun x y hxy => ?_⟩
  · obtain ⟨ri, oi⟩ := h.rel i hi
    rw [hj i]
    split
    · rename_i he
      rw [he] at ri oi
      rcases Nat.le_total (rtU up a) (rtU up b) with hh | hh
      · rw [Nat.max_eq_right hh] at ri
        rw [Nat.min_eq_left hh]
        exact ⟨ht _ _ _ ri rba, oa⟩
      · rw [Nat.max_eq_left hh] at ri
        rw [Nat.min_eq_right hh]
        exact ⟨ht _ _ _ ri rab, ob⟩
    · exact ⟨ri, oi⟩
  · rw [hj x, hj y]
    rcases hxy with hxy | ⟨rfl, rfl⟩
    · rw [h.join x y hxy]
    · rcases Nat.le_total (rtU up x) (rtU up y) with hh | hh
      · rw [Nat.max_eq_right hh, Nat.min_eq_left hh]
        by_cases he : rtU up x = rtU up y
        · rw [he]
        · rw [if_neg he, if_pos rfl]
      · rw [Nat.max_eq_left hh, Nat.min_eq_right hh]
        by_cases he : rtU up y = rtU up x
        · rw [he]
        · rw [if_pos rfl, if_neg he]

/-- the k-th cell of a grid of width w -/
def celK (w k : Nat) : Cel := (((k % w : Nat) : Int), ((k / w : Nat) : Int))
theorem celK_at {w x y : Nat} (hx : x < w) : celK w (w * y + x) = ((x : Int), (y : Int)) := by
  unfold celK
  rw [Nat.mul_add_mod, Nat.mod_eq_of_lt hx, Nat.mul_add_div (by omega), Nat.div_eq_of_lt hx, Nat.add_zero]
theorem box_cells (w h : Nat) : boxCells ⟨0, 0, (w : Int) - 1, (h : Int) - 1⟩ = (List.range (w * h)).map (celK w) := by
  unfold boxCells
  dsimp only
  rw [show ((h : Int) - 1 + 1 - 0).toNat = h by omega, show ((w : Int) - 1 + 1 - 0).toNat = w by omega]
  induction h with
  | zero => simp
  | succ h ih =>
    rw [List.range_succ, List.flatMap_append, ih, Nat.mul_succ, List.range_add, List.map_append]
    congr 1
    rw [List.flatMap_cons, List.flatMap_nil, List.append_nil, List.map_map]
    unfold rowL
    refine List.map_congr_left fun i hi => ?_
    have hi := List.mem_range.1 hi
    show ((0 : Int) + (i : Int), (0 : Int) + (h : Int)) = celK w (w * h + i)
    rw [celK_at hi, Int.zero_add, Int.zero_add]
theorem celK_inj {w a b : Nat} (h : celK w a = celK w b) : a = b := by
  unfold celK at h
  have h1 : a % w = b % w := by have := congrArg Prod.fst h; dsimp only at this; omega
  have h2 : a / w = b / w := by have := congrArg Prod.snd h; dsimp only at this; omega
  rw [← Nat.div_add_mod a w, ← Nat.div_add_mod b w, h1, h2]
/-- a cell's number -/
def idxC (w : Nat) (c : Cel) : Nat := w * c.2.toNat + c.1.toNat
theorem celK_idx {w h : Nat} {c : Cel} (hc : 0 ≤ c.1 ∧ c.1 < w ∧ 0 ≤ c.2 ∧ c.2 < h) : celK w (idxC w c) = c ∧ idxC w c < w * h := by
  obtain ⟨x, y⟩ := c
  obtain ⟨h1, h2, h3, h4⟩ := hc
  obtain ⟨p, rfl⟩ := Int.eq_ofNat_of_zero_le h1
  obtain ⟨q, rfl⟩ := Int.eq_ofNat_of_zero_le h3
  unfold idxC
  dsimp only at h2 h4 ⊢
  rw [Int.toNat_natCast, Int.toNat_natCast]
  refine ⟨celK_at (by omega), ?_⟩
  have hq : q + 1 ≤ h := by omega
  have := Nat.mul_le_mul_left w hq
  rw [Nat.mul_succ] at this
  omega
/-- the classes at the end make a class function -/
theorem rt_ok {us : Cel → Bool} {w h : Nat} {J : Nat → Nat → Prop} {up : Nat → Nat} (hg : ∀ c, us c = true → 0 ≤ c.1 ∧ c.1 < w ∧ 0 ≤ c.2 ∧ c.2 < h)
    (hu : UfI (fun a b => Rch sidesL us (celK w a) (celK w b)) (fun a => us (celK w a) = true) J up)
    (hJ : ∀ x y : Nat, us ((x : Int), (y : Int)) = true → (us ((x : Int) + 1, (y : Int)) = true → J (w * y + x) (w * y + x + 1)) ∧ (us ((x : Int), (y : Int) + 1) = true → J (w * y + x) (w * (y + 1) + x))) :
    RtOk us (boxCells ⟨0, 0, (w : Int) - 1, (h : Int) - 1⟩) (fun c => celK w (rtU up (idxC w c))) := by
  rw [box_cells]
  have hidx : ∀ c, us c = true → celK w (idxC w c) = c ∧ idxC w c < w * h := fun c hc => celK_idx (hg c hc)
  have hat : ∀ a, idxC w (celK w a) = a ∨ w = 0 := by
    intro a
    by_cases hw : w = 0
    · exact .inr hw
    · left
      unfold idxC celK
      dsimp only
      rw [Int.toNat_natCast, Int.toNat_natCast, Nat.div_add_mod]
  -- side by side: one root
  have hside : ∀ c d, us c = true → us d = true → d ∈ sidesL c → rtU up (idxC w c) = rtU up (idxC w d) := by
    have key : ∀ c d, us c = true → us d = true → (d = (c.1 + 1, c.2) ∨ d = (c.1, c.2 + 1)) → rtU up (idxC w c) = rtU up (idxC w d) := by
      intro c d hc hd hcd
      obtain ⟨x, y⟩ := c
      obtain ⟨g1, g2, g3, g4⟩ := hg _ hc
      obtain ⟨p, rfl⟩ := Int.eq_ofNat_of_zero_le g1
      obtain ⟨q, rfl⟩ := Int.eq_ofNat_of_zero_le g3
      obtain ⟨j1, j2⟩ := hJ p q hc
      rcases hcd with rfl | rfl
      · have := hu.join _ _ (j1 hd)
        unfold idxC
        dsimp only
        rw [Int.toNat_natCast, Int.toNat_natCast, this, show ((p : Int) + 1).toNat = p + 1 by omega]
        rfl
      · have := hu.join _ _ (j2 hd)
        unfold idxC
        dsimp only
        rw [Int.toNat_natCast, Int.toNat_natCast, this, show ((q : Int) + 1).toNat = q + 1 by omega]
    intro c d hc hd hm
    have hm' := hm
    obtain ⟨x, y⟩ := c
    obtain ⟨u, v⟩ := d
    simp only [sidesL, List.mem_cons, List.not_mem_nil, or_false, Prod.mk.injEq] at hm'
    rcases hm' with ⟨a, b⟩ | ⟨a, b⟩ | ⟨a, b⟩ | ⟨a, b⟩
    · refine (key (u, v) (x, y) hd hc (.inr ?_)).symm
      simp only [Prod.mk.injEq]; omega
    · refine (key (u, v) (x, y) hd hc (.inl ?_)).symm
      simp only [Prod.mk.injEq]; omega
    · refine key (x, y) (u, v) hc hd (.inl ?_)
      simp only [Prod.mk.injEq]; omega
    · refine key (x, y) (u, v) hc hd (.inr ?_)
      simp only [Prod.mk.injEq]; omega
  have hrel : ∀ c, us c = true → Rch sidesL us c (celK w (rtU up (idxC w c))) ∧ us (celK w (rtU up (idxC w c))) = true := by
    intro c hc
    obtain ⟨e, _⟩ := hidx c hc
    have := hu.rel (idxC w c) (by rw [e]; exact hc)
    rw [e] at this
    exact this
  refine ⟨?_, ?_, ?_, fun c hc => (hrel c hc).2, ?_, ?_⟩
  · exact List.Pairwise.map _ (fun a b hab e => hab (celK_inj e)) List.nodup_range
  · intro c hc
    obtain ⟨e, hl⟩ := hidx c hc
    exact List.mem_map.2 ⟨_, List.mem_range.2 hl, e⟩
  · intro c d hc hd
    constructor
    · intro h
      have : rtU up (idxC w c) = rtU up (idxC w d) := by
        clear hd
        induction h with
        | refl => rfl
        | step h1 h2 h3 ih => exact ih.trans (hside _ _ (h1.good hc) h3 h2)
      show celK w _ = celK w _
      rw [this]
    · intro h
      obtain ⟨r1, o1⟩ := hrel c hc
      obtain ⟨r2, _⟩ := hrel d hd
      have h : celK w (rtU up (idxC w c)) = celK w (rtU up (idxC w d)) := h
      rw [h] at r1
      exact r1.trans (r2.symm sides_symm hd)
  · intro c hc
    show celK w (rtU up (idxC w (celK w (rtU up (idxC w c))))) = _
    rcases hat (rtU up (idxC w c)) with e | hw
    · rw [e, rtU_self (rtU_fix hu.le _)]
    · have := hg c hc; omega
  · intro i hi hui
    have hi' : i < w * h := by simpa using hi
    have e : ((List.range (w * h)).map (celK w))[i] = celK w i := by simp
    rw [e] at hui ⊢
    refine ⟨rtU up i, ?_, rtU_le hu.le i, ?_⟩
    · have := rtU_le hu.le i
      rw [List.length_map, List.length_range]; omega
    · show celK w (rtU up (idxC w (celK w i))) = _
      rcases hat i with e2 | hw
      · rw [e2]; simp
      · subst hw; omega

/-- a part's edge: neighbours that are not usable -/
theorem edge_us {us : Cel → Bool} {cs : List Cel} {rt : Cel → Cel} (h : RtOk us cs rt) (c : Cel) : edgeL (cs.filter fun d => us d && decide (rt d = c)) = ((cs.filter fun d => us d && decide (rt d = c)).map fun x => ((sidesL x).filter fun d => !us d).length).sum := by
  unfold edgeL
  congr 1
  refine List.map_congr_left fun x hx => ?_
  congr 1
  refine List.filter_congr fun d hd => ?_
  rw [List.mem_filter, Bool.and_eq_true, decide_eq_true_iff] at hx
  obtain ⟨_, hxu, hxc⟩ := hx
  cases hdu : us d
  · have hn : d ∉ cs.filter fun d => us d && decide (rt d = c) := fun hm => by
      rw [List.mem_filter, hdu] at hm; simp at hm
    simp only [decide_eq_true hn]; rfl
  · have hin : d ∈ cs.filter fun d => us d && decide (rt d = c) := by
      rw [List.mem_filter, Bool.and_eq_true, decide_eq_true_iff]
      refine ⟨h.all _ hdu, hdu, ?_⟩
      rw [← hxc]
      exact ((h.iff _ _ hxu hdu).1 (.step .refl hd hdu)).symm
    simp only [decide_eq_false (fun hn : d ∉ _ => hn hin)]; rfl

/-- the neighbours joined so far: rows above y, cells left of x, d of the two at x -/
def CjD (us : Cel → Bool) (n : Nat) (J : Nat → Nat → Prop) (y x d : Nat) : Prop := ∀ a b : Nat, us ((a : Int), (b : Int)) = true →
  ((b < y ∨ (b = y ∧ (a < x ∨ (a = x ∧ 0 < d)))) → us ((a : Int) + 1, (b : Int)) = true → J (n * b + a) (n * b + a + 1)) ∧
  ((b < y ∨ (b = y ∧ (a < x ∨ (a = x ∧ 1 < d)))) → us ((a : Int), (b : Int) + 1) = true → J (n * b + a) (n * (b + 1) + a))
def UcI (us : Cel → Bool) (n : Nat) (up : Nat → Nat) (y x d : Nat) : Prop :=
  ∃ J, UfI (fun a b => Rch sidesL us (celK n a) (celK n b)) (fun a => us (celK n a) = true) J up ∧ CjD us n J y x d
section
variable {us : Cel → Bool} {n h : Nat} {up : Nat → Nat} {y x d : Nat}
theorem UcI.start (us : Cel → Bool) (n : Nat) : UcI us n (fun i => i) 0 0 0 := ⟨_, UfI.start fun _ _ => .refl, fun a b _ => ⟨fun hh => by omega, fun hh => by omega⟩⟩
theorem UcI.le (k : UcI us n up y x d) : ∀ i, up i ≤ i := by obtain ⟨J, h, _⟩ := k; exact h.le
theorem UcI.cell (k : UcI us n up y x 2) : UcI us n up y (x + 1) 0 := by
  obtain ⟨J, h1, h2⟩ := k
  exact ⟨J, h1, fun a b hu => ⟨fun hh => (h2 a b hu).1 (by omega), fun hh => (h2 a b hu).2 (by omega)⟩⟩
theorem UcI.row (hg : ∀ c, us c = true → 0 ≤ c.1 ∧ c.1 < n ∧ 0 ≤ c.2 ∧ c.2 < h) (k : UcI us n up y n 0) : UcI us n up (y + 1) 0 0 := by
  obtain ⟨J, h1, h2⟩ := k
  refine ⟨J, h1, fun a b hu => ?_⟩
  have := hg _ hu
  dsimp only at this
  exact ⟨fun hh => (h2 a b hu).1 (by omega), fun hh => (h2 a b hu).2 (by omega)⟩
theorem UcI.skip0 (k : UcI us n up y x 0) (hn : ¬ (us ((x : Int), (y : Int)) = true ∧ us ((x : Int) + 1, (y : Int)) = true)) : UcI us n up y x 1 := by
  obtain ⟨J, h1, h2⟩ := k
  refine ⟨J, h1, fun a b hu => ⟨fun hh hu2 => ?_, fun hh => (h2 a b hu).2 (by omega)⟩⟩
  by_cases e : b = y ∧ a = x
  · obtain ⟨rfl, rfl⟩ := e; exact absurd ⟨hu, hu2⟩ hn
  · exact (h2 a b hu).1 (by omega) hu2
theorem UcI.skip1 (k : UcI us n up y x 1) (hn : ¬ (us ((x : Int), (y : Int)) = true ∧ us ((x : Int), (y : Int) + 1) = true)) : UcI us n up y x 2 := by
  obtain ⟨J, h1, h2⟩ := k
  refine ⟨J, h1, fun a b hu => ⟨fun hh => (h2 a b hu).1 (by omega), fun hh hu2 => ?_⟩⟩
  by_cases e : b = y ∧ a = x
  · obtain ⟨rfl, rfl⟩ := e; exact absurd ⟨hu, hu2⟩ hn
  · exact (h2 a b hu).2 (by omega) hu2
variable (hg : ∀ c, us c = true → 0 ≤ c.1 ∧ c.1 < n ∧ 0 ≤ c.2 ∧ c.2 < h)
include hg
theorem UcI.join0 (k : UcI us n up y x 0) (hu : us ((x : Int), (y : Int)) = true) (hv : us ((x : Int) + 1, (y : Int)) = true) :
    UcI us n (updN up (max (rtU up (n * y + x)) (rtU up (n * y + x + 1))) (min (rtU up (n * y + x)) (rtU up (n * y + x + 1)))) y x 1 := by
  obtain ⟨J, h1, h2⟩ := k
  have g1 := hg _ hu
  have g2 := hg _ hv
  dsimp only at g1 g2
  have e1 : celK n (n * y + x) = ((x : Int), (y : Int)) := celK_at (by omega)
  have e2 : celK n (n * y + x + 1) = ((x : Int) + 1, (y : Int)) := (celK_at (x := x + 1) (by omega)).trans (by push_cast; rfl)
  refine ⟨_, h1.add (fun a b ha hab => hab.symm sides_symm ha) (fun a b c hab hbc => hab.trans hbc) (a := n * y + x) (b := n * y + x + 1) ?_ ?_ ?_, fun a b hua => ⟨fun hh hu2 => ?_, fun hh hu2 => .inl ((h2 a b hua).2 (by omega) hu2)⟩⟩
  · rw [e1]; exact hu
  · rw [e2]; exact hv
  · rw [e1, e2]; exact .step .refl (by simp [sidesL]) hv
  · by_cases e : b = y ∧ a = x
    · obtain ⟨rfl, rfl⟩ := e; exact .inr ⟨rfl, rfl⟩
    · exact .inl ((h2 a b hua).1 (by omega) hu2)
theorem UcI.join1 (k : UcI us n up y x 1) (hu : us ((x : Int), (y : Int)) = true) (hv : us ((x : Int), (y : Int) + 1) = true) :
    UcI us n (updN up (max (rtU up (n * y + x)) (rtU up (n * (y + 1) + x))) (min (rtU up (n * y + x)) (rtU up (n * (y + 1) + x)))) y x 2 := by
  obtain ⟨J, h1, h2⟩ := k
  have g1 := hg _ hu
  have g2 := hg _ hv
  dsimp only at g1 g2
  have e1 : celK n (n * y + x) = ((x : Int), (y : Int)) := celK_at (by omega)
  have e2 : celK n (n * (y + 1) + x) = ((x : Int), (y : Int) + 1) := (celK_at (by omega)).trans (by push_cast; rfl)
  refine ⟨_, h1.add (fun a b ha hab => hab.symm sides_symm ha) (fun a b c hab hbc => hab.trans hbc) (a := n * y + x) (b := n * (y + 1) + x) ?_ ?_ ?_, fun a b hua => ⟨fun hh hu2 => .inl ((h2 a b hua).1 (by omega) hu2), fun hh hu2 => ?_⟩⟩
  · rw [e1]; exact hu
  · rw [e2]; exact hv
  · rw [e1, e2]; exact .step .refl (by simp [sidesL]) hv
  · by_cases e : b = y ∧ a = x
    · obtain ⟨rfl, rfl⟩ := e; exact .inr ⟨rfl, rfl⟩
    · exact .inl ((h2 a b hua).2 (by omega) hu2)
theorem UcI.ok (k : UcI us n up h 0 0) : RtOk us (boxCells ⟨0, 0, (n : Int) - 1, (h : Int) - 1⟩) (fun c => celK n (rtU up (idxC n c))) := by
  obtain ⟨J, h1, h2⟩ := k
  refine rt_ok hg h1 fun a b hu => ?_
  have := hg _ hu
  dsimp only at this
  exact ⟨(h2 a b hu).1 (by omega), (h2 a b hu).2 (by omega)⟩
end
/-- the class of the k-th cell -/
def clsK (us : Cel → Bool) (n : Nat) (up : Nat → Nat) (k : Nat) : Int := if us (celK n k) then (rtU up k : Int) else -1
end Go.Proofs.YtmgofdgbenfjmaaDoor
