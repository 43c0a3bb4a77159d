/- Plain: a flood marks what is reached; Parts by a class function. No conditions. -/
import Derived.Test.YtmgofdgbenfjmaaDoorFlP
namespace Go.Proofs.YtmgofdgbenfjmaaDoor

/-- reached from c by steps to cells that are in -/
inductive Rch (next : Cel → List Cel) (is : Cel → Bool) (c : Cel) : Cel → Prop
  | refl : Rch next is c c
  | step {d e : Cel} : Rch next is c d → e ∈ next d → is e = true → Rch next is c e
section
variable {next : Cel → List Cel} {is : Cel → Bool} {c d e : Cel}
theorem Rch.good (h : Rch next is c d) (hc : is c = true) : is d = true := by
  cases h with
  | refl => exact hc
  | step _ _ h => exact h
theorem Rch.trans (h : Rch next is c d) (k : Rch next is d e) : Rch next is c e := by
  induction k with
  | refl => exact h
  | step _ h2 h3 ih => exact .step ih h2 h3
theorem Rch.symm (hn : ∀ a b, b ∈ next a → a ∈ next b) (hc : is c = true) (h : Rch next is c d) : Rch next is d c := by
  induction h with
  | refl => exact .refl
  | step h1 h2 _ ih => exact (Rch.step .refl (hn _ _ h2) (h1.good hc)).trans ih
theorem Rch.congr {next' : Cel → List Cel} {is' : Cel → Bool} (hn : ∀ a b, b ∈ next a → b ∈ next' a) (hi : ∀ a, is a = true → is' a = true) (h : Rch next is c d) : Rch next' is' c d := by
  induction h with
  | refl => exact .refl
  | step _ h2 h3 ih => exact .step ih (hn _ _ h2) (hi _ h3)
/-- one row of neighbours looked at -/
theorem flSteps_eq (is : Cel → Bool) (S : List Cel) : ∀ (cs : List Cel) (st : List Cel × List Cel), st.1 = S ++ st.2 → (cs.foldl (flStep is) st).1 = S ++ (cs.foldl (flStep is) st).2 ∧ (∃ t, (cs.foldl (flStep is) st).2 = st.2 ++ t ∧ ∀ x ∈ t, x ∈ cs ∧ is x = true) ∧ ∀ x ∈ cs, is x = true → x ∈ (cs.foldl (flStep is) st).1
  | [], st, h => ⟨h, ⟨[], by simp, fun x hx => by simp at hx⟩, fun x hx => by simp at hx⟩
  | y :: cs, st, h => by
    have h1 : (flStep is st y).1 = S ++ (flStep is st y).2 := by
      unfold flStep
      split
      · exact h
      · split
        · show st.1 ++ [y] = S ++ (st.2 ++ [y]); rw [h, List.append_assoc]
        · exact h
    have h2 : ∃ t, (flStep is st y).2 = st.2 ++ t ∧ ∀ x ∈ t, x = y ∧ is x = true := by
      unfold flStep
      split
      · exact ⟨[], by simp, fun x hx => by simp at hx⟩
      · split
        · rename_i hy
          exact ⟨[y], rfl, fun x hx => by simp at hx; subst hx; exact ⟨rfl, hy⟩⟩
        · exact ⟨[], by simp, fun x hx => by simp at hx⟩
    have h3 : is y = true → y ∈ (flStep is st y).1 := by
      intro hy
      unfold flStep
      split
      · assumption
      · simp
    obtain ⟨i1, ⟨t, i2, i3⟩, i4⟩ := flSteps_eq is S cs (flStep is st y) h1
    obtain ⟨t0, j2, j3⟩ := h2
    rw [List.foldl_cons]
    refine ⟨i1, ⟨t0 ++ t, by rw [i2, j2, List.append_assoc], fun x hx => ?_⟩, fun x hx hi => ?_⟩
    · rcases List.mem_append.1 hx with hx | hx
      · obtain ⟨rfl, h⟩ := j3 x hx; exact ⟨by simp, h⟩
      · obtain ⟨h, h'⟩ := i3 x hx; exact ⟨by simp [h], h'⟩
    · rcases List.mem_cons.1 hx with rfl | hx
      · have h5 := h3 hi
        rw [h1] at h5
        rw [i1, i2]
        rcases List.mem_append.1 h5 with h5 | h5
        · exact List.mem_append.2 (.inl h5)
        · exact List.mem_append.2 (.inr (List.mem_append.2 (.inl h5)))
      · exact i4 x hx hi
/-- a flood under way: i cells looked at -/
structure FlG (next : Cel → List Cel) (is : Cel → Bool) (S : List Cel) (c : Cel) (i : Nat) (st : List Cel × List Cel) : Prop where
  mk_ : st.1 = S ++ st.2
  cin : c ∈ st.2
  rch : ∀ d ∈ st.2, Rch next is c d
  done : ∀ j (h : j < st.2.length), j < i → ∀ e ∈ next st.2[j], is e = true → e ∈ st.2
theorem flGo_good {U S : List Cel} (hU : ∀ c, is c = true → c ∈ U) (hS : ∀ d, Rch next is c d → d ∉ S) : ∀ (n i : Nat) (st : List Cel × List Cel), U.length ≤ n + i → FlI U st → FlG next is S c i st → ∃ i', FlG next is S c i' (flGo next is n i st) ∧ (flGo next is n i st).2.length ≤ i'
  | 0, i, st, hn, hI, hG => ⟨i, hG, by have := hI.len; show st.2.length ≤ i; omega⟩
  | n + 1, i, st, hn, hI, hG => by
    by_cases hi : i < st.2.length
    · rw [flGo_step _ _ _ _ _ hi]
      obtain ⟨s1, ⟨t, s2, s3⟩, s4⟩ := flSteps_eq is S (next st.2[i]) st hG.mk_
      have hr := hG.rch _ (List.getElem_mem hi)
      have hin : ∀ e ∈ next st.2[i], is e = true → e ∈ ((next st.2[i]).foldl (flStep is) st).2 := by
        intro e he hie
        have h5 := s4 e he hie
        rw [s1] at h5
        rcases List.mem_append.1 h5 with h5 | h5
        · exact absurd h5 (hS e (.step hr he hie))
        · exact h5
      refine flGo_good hU hS n (i + 1) _ (by omega) (hI.steps hU _) ⟨s1, ?_, ?_, ?_⟩
      · rw [s2]; exact List.mem_append.2 (.inl hG.cin)
      · intro d hd
        rw [s2] at hd
        rcases List.mem_append.1 hd with hd | hd
        · exact hG.rch d hd
        · obtain ⟨h6, h7⟩ := s3 d hd
          exact .step hr h6 h7
      · intro j hj hji e he hie
        have hjl : j < st.2.length := by omega
        have ej : ((next st.2[i]).foldl (flStep is) st).2[j] = st.2[j] := by
          have : ((next st.2[i]).foldl (flStep is) st).2[j]? = st.2[j]? := by rw [s2, List.getElem?_append_left hjl]
          rw [List.getElem?_eq_getElem hj, List.getElem?_eq_getElem hjl] at this
          exact Option.some.inj this
        rw [ej] at he
        by_cases hlt : j < i
        · have := hG.done j hjl hlt e he hie
          rw [s2]; exact List.mem_append.2 (.inl this)
        · obtain rfl : j = i := by omega
          exact hin e he hie
    · rw [flGo_end _ _ _ _ _ (by omega)]
      exact ⟨i, hG, by omega⟩
/-- a whole flood: what is reached, once each; the marks -/
theorem fld_all {U S : List Cel} {n : Nat} (hU : ∀ c, is c = true → c ∈ U) (hc : c ∈ U) (hS : ∀ d, Rch next is c d → d ∉ S) (hn : U.length ≤ n) : (fld next is n S c).1 = S ++ (fld next is n S c).2 ∧ (fld next is n S c).2.Nodup ∧ ∀ d, d ∈ (fld next is n S c).2 ↔ Rch next is c d := by
  have hI : FlI U (S ++ [c], [c]) := ⟨fun x hx => by simp at hx; subst hx; simp, by simp, fun x hx => by simp at hx; subst hx; exact hc⟩
  obtain ⟨i', hG, hl⟩ := flGo_good (next := next) (is := is) (c := c) hU hS n 0 (S ++ [c], [c]) (by omega) hI ⟨rfl, by simp, fun d hd => by simp at hd; subst hd; exact .refl, fun j _ h => by omega⟩
  refine ⟨hG.mk_, (FlI.go hU n 0 hI).2.1, fun d => ⟨fun h => hG.rch d h, fun h => ?_⟩⟩
  induction h with
  | refl => exact hG.cin
  | step _ h2 h3 ih =>
    obtain ⟨j, hj, rfl⟩ := List.getElem_of_mem ih
    exact hG.done j hj (by show j < i'; have : j < (flGo next is n 0 (S ++ [c], [c])).2.length := hj; omega) _ h2 h3
end
/-- parts hang on the set of their cells alone -/
theorem box_perm {l l' : List Cel} (h : l.Perm l') : boxL l = boxL l' := by
  unfold boxL
  refine h.foldl_eq' (fun x _ y _ b => ?_) Bx.no
  unfold Bx.with_
  simp only [Bx.mk.injEq]
  omega
theorem sum_permN {a b : List Nat} (h : a.Perm b) : a.sum = b.sum := by
  induction h with
  | nil => rfl
  | cons x _ ih => simp [ih]
  | swap x y l => simp; omega
  | trans _ _ ih1 ih2 => exact ih1.trans ih2
theorem edge_perm {l l' : List Cel} (h : l.Perm l') : edgeL l = edgeL l' := by
  unfold edgeL
  have e : (fun c => ((sidesL c).filter fun d => decide (d ∉ l)).length) = fun c => ((sidesL c).filter fun d => decide (d ∉ l')).length := by
    funext c
    congr 2
    funext d
    rw [decide_eq_decide, h.mem_iff]
  rw [e]
  exact sum_permN (h.map _)
theorem hole_perm {l l' : List Cel} (h : l.Perm l') (b : Bx) (n : Nat) : holesL l b n = holesL l' b n := by
  have e : freeL l b = freeL l' b := by
    funext c
    unfold freeL
    have : decide (c ∉ l) = decide (c ∉ l') := by rw [decide_eq_decide, h.mem_iff]
    rw [this]
  have e2 : holeStep l b n = holeStep l' b n := by
    funext st c
    unfold holeStep
    rw [e]
    by_cases hc : c ∈ l ∨ c ∈ st.1
    · rw [if_pos hc, if_pos (by rw [← h.mem_iff]; exact hc)]
    · rw [if_neg hc, if_neg (by rw [← h.mem_iff]; exact hc)]
  unfold holesL
  rw [e, e2]
theorem part_perm {l l' : List Cel} (h : l.Perm l') (n : Nat) : partL l n = partL l' n := by
  unfold partL
  rw [h.length_eq, edge_perm h, box_perm h, hole_perm h]
/-- what a class function must do: alike where reached, and its value is the first of the scan -/
structure RtOk (us : Cel → Bool) (cs : List Cel) (rt : Cel → Cel) : Prop where
  nd : cs.Nodup
  all : ∀ c, us c = true → c ∈ cs
  iff : ∀ c d, us c = true → us d = true → (Rch sidesL us c d ↔ rt c = rt d)
  good : ∀ c, us c = true → us (rt c) = true
  idem : ∀ c, us c = true → rt (rt c) = rt c
  first : ∀ i (h : i < cs.length), us cs[i] = true → ∃ j, ∃ hj : j < cs.length, j ≤ i ∧ rt cs[i] = cs[j]
/-- the parts, by a class function -/
def rtParts (us : Cel → Bool) (cs : List Cel) (rt : Cel → Cel) (n : Nat) (ds : List Cel) : List Prt := (ds.filter fun c => us c && decide (rt c = c)).map fun c => partL (cs.filter fun d => us d && decide (rt d = c)) n
theorem nodup_at {cs : List Cel} (h : cs.Nodup) {i j : Nat} (hi : i < cs.length) (hj : j < cs.length) (he : cs[i] = cs[j]) : i = j := by
  rcases Nat.lt_trichotomy i j with hl | hl | hl
  · exact absurd he (List.pairwise_iff_getElem.1 h i j hi hj hl)
  · exact hl
  · exact absurd he.symm (List.pairwise_iff_getElem.1 h j i hj hi hl)
theorem parts_go {us : Cel → Bool} {cs : List Cel} {rt : Cel → Cel} (h : RtOk us cs rt) {n : Nat} (hn : cs.length ≤ n) : ∀ k, k ≤ cs.length → (∀ d, d ∈ ((cs.take k).foldl (partStep us n) ([], [])).1 ↔ ∃ j, ∃ hj : j < cs.length, j < k ∧ us cs[j] = true ∧ us d = true ∧ rt cs[j] = rt d) ∧ ((cs.take k).foldl (partStep us n) ([], [])).2 = rtParts us cs rt n (cs.take k)
  | 0, _ => by
    refine ⟨fun d => ⟨fun hd => by simp at hd, fun ⟨j, _, hj, _⟩ => by omega⟩, rfl⟩
  | k + 1, hk => by
    have hlt : k < cs.length := by omega
    obtain ⟨i1, i2⟩ := parts_go h hn k (by omega)
    rw [List.take_succ_eq_append_getElem hlt, List.foldl_append]
    obtain ⟨st, hst⟩ : ∃ st, st = (cs.take k).foldl (partStep us n) ([], []) := ⟨_, rfl⟩
    rw [← hst] at i1 i2 ⊢
    show (∀ d, d ∈ (partStep us n st cs[k]).1 ↔ _) ∧ (partStep us n st cs[k]).2 = _
    unfold partStep
    have hsp : rtParts us cs rt n (cs.take k ++ [cs[k]]) = rtParts us cs rt n (cs.take k) ++ rtParts us cs rt n [cs[k]] := by
      unfold rtParts; rw [List.filter_append, List.map_append]
    rw [hsp]
    by_cases hu : us cs[k] = true
    · rw [if_pos hu]
      by_cases hm : cs[k] ∈ st.1
      · rw [if_pos hm]
        obtain ⟨j, hj, hjk, hju, _, hjr⟩ := (i1 _).1 hm
        -- its class began before
        have hne : ¬ rt cs[k] = cs[k] := by
          intro he
          obtain ⟨j', hj', hle, hjr'⟩ := h.first j hj hju
          have := nodup_at h.nd hj' hlt (by rw [← hjr', hjr, he])
          omega
        refine ⟨fun d => ?_, ?_⟩
        · rw [i1 d]
          constructor
          · rintro ⟨j1, h1, h2, h3⟩; exact ⟨j1, h1, by omega, h3⟩
          · rintro ⟨j1, h1, h2, h3, h4, h5⟩
            by_cases hlt2 : j1 < k
            · exact ⟨j1, h1, hlt2, h3, h4, h5⟩
            · obtain rfl : j1 = k := by omega
              exact ⟨j, hj, hjk, hju, h4, hjr.trans h5⟩
        · rw [i2]
          have : rtParts us cs rt n [cs[k]] = [] := by unfold rtParts; simp [hne]
          rw [this, List.append_nil]
      · rw [if_neg hm]
        have heq : rt cs[k] = cs[k] := by
          obtain ⟨j, hj, hle, hjr⟩ := h.first k hlt hu
          by_cases hjk : j = k
          · subst hjk; exact hjr
          · refine absurd ((i1 _).2 ⟨j, hj, by omega, ?_, hu, ?_⟩) hm
            · rw [← hjr]; exact h.good _ hu
            · rw [← hjr]; exact h.idem _ hu
        have hS : ∀ d, Rch sidesL us cs[k] d → d ∉ st.1 := by
          intro d hd hdm
          obtain ⟨j, hj, hjk, hju, hdu, hjr⟩ := (i1 d).1 hdm
          have e := (h.iff _ _ hu hdu).1 hd
          exact hm ((i1 _).2 ⟨j, hj, hjk, hju, hu, by rw [hjr, ← e]⟩)
        obtain ⟨f1, f2, f3⟩ := fld_all (U := cs) (n := n) h.all (h.all _ hu) hS hn
        refine ⟨fun d => ?_, ?_⟩
        · rw [show ((fld sidesL us n st.1 cs[k]).1, st.2 ++ [partL (fld sidesL us n st.1 cs[k]).2 n]).1 = (fld sidesL us n st.1 cs[k]).1 from rfl, f1, List.mem_append, i1 d, f3 d]
          constructor
          · rintro (⟨j1, h1, h2, h3⟩ | hd)
            · exact ⟨j1, h1, by omega, h3⟩
            · have hdu := hd.good hu
              exact ⟨k, hlt, by omega, hu, hdu, (h.iff _ _ hu hdu).1 hd⟩
          · rintro ⟨j1, h1, h2, h3, h4, h5⟩
            by_cases hlt2 : j1 < k
            · exact .inl ⟨j1, h1, hlt2, h3, h4, h5⟩
            · obtain rfl : j1 = k := by omega
              exact .inr ((h.iff _ _ hu h4).2 h5)
        · show st.2 ++ [partL (fld sidesL us n st.1 cs[k]).2 n] = _
          rw [i2]
          have e1 : rtParts us cs rt n [cs[k]] = [partL (cs.filter fun d => us d && decide (rt d = cs[k])) n] := by unfold rtParts; simp [hu, heq]
          rw [e1]
          have hp : (fld sidesL us n st.1 cs[k]).2.Perm (cs.filter fun d => us d && decide (rt d = cs[k])) := by
            refine (List.perm_ext_iff_of_nodup f2 (h.nd.filter _)).2 fun d => ?_
            rw [f3 d, List.mem_filter, Bool.and_eq_true, decide_eq_true_iff]
            constructor
            · intro hd
              have hdu := hd.good hu
              exact ⟨h.all _ hdu, hdu, by rw [← (h.iff _ _ hu hdu).1 hd, heq]⟩
            · rintro ⟨_, hdu, he⟩
              exact (h.iff _ _ hu hdu).2 (by rw [he, heq])
          rw [part_perm hp]
    · rw [if_neg hu]
      refine ⟨fun d => ?_, ?_⟩
      · rw [i1 d]
        constructor
        · rintro ⟨j1, h1, h2, h3⟩; exact ⟨j1, h1, by omega, h3⟩
        · rintro ⟨j1, h1, h2, h3, h4, h5⟩
          by_cases hlt2 : j1 < k
          · exact ⟨j1, h1, hlt2, h3, h4, h5⟩
          · obtain rfl : j1 = k := by omega
            exact absurd h3 hu
      · rw [i2]
        have : rtParts us cs rt n [cs[k]] = [] := by unfold rtParts; simp [hu]
        rw [this, List.append_nil]
/-- Parts, by a class function -/
theorem parts_rt {us : Cel → Bool} {w h n : Nat} {rt : Cel → Cel} (hr : RtOk us (boxCells ⟨0, 0, (w : Int) - 1, (h : Int) - 1⟩) rt) (hn : (boxCells ⟨0, 0, (w : Int) - 1, (h : Int) - 1⟩).length ≤ n) : partsL us w h n = rtParts us (boxCells ⟨0, 0, (w : Int) - 1, (h : Int) - 1⟩) rt n (boxCells ⟨0, 0, (w : Int) - 1, (h : Int) - 1⟩) := by
  have := (parts_go hr hn _ (Nat.le_refl _)).2
  rw [List.take_length] at this
  exact this
end Go.Proofs.YtmgofdgbenfjmaaDoor
