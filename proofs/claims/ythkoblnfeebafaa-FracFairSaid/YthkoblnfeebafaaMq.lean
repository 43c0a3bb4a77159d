/- Plain law of the shares: how many pieces are left, who gets one, the reference's choice, the order. No conditions. -/
import Derived.Test.YthkoblnfeebafaaMc
import Derived.Test.YthkoblnfeebafaaMk
namespace Go.Proofs.Ythkoblnfeebafaa

def sumTo (f : Nat → Int) : Nat → Int
  | 0 => 0
  | n + 1 => sumTo f n + f n
theorem sumTo_upd (f : Nat → Int) (i : Nat) (v : Int) : ∀ m, sumTo (upd f i v) m = sumTo f m + if i < m then v - f i else 0
  | 0 => by simp [sumTo]
  | m + 1 => by
    unfold sumTo
    rw [sumTo_upd f i v m]
    unfold upd
    by_cases h1 : i < m
    · rw [if_pos h1, if_neg (by omega), if_pos (by omega)]; omega
    · by_cases h2 : m = i
      · subst h2; rw [if_neg h1, if_pos rfl, if_pos (by omega)]; omega
      · rw [if_neg h1, if_neg h2, if_neg (by omega)]; omega
theorem sumTo_congr {f g : Nat → Int} : ∀ {m : Nat}, (∀ i, i < m → f i = g i) → sumTo f m = sumTo g m
  | 0, _ => rfl
  | m + 1, h => by
    unfold sumTo
    rw [sumTo_congr (fun i hi => h i (by omega)), h m (by omega)]
theorem Sws.sum {m : Nat} {d e : Nat → Int} (K : Int → Int) (h : Sws 0 m d e) : sumTo (fun k => K (e k)) m = sumTo (fun k => K (d k)) m := by
  induction h with
  | refl => rfl
  | step i j _ h1 h2 h3 h4 ih =>
    rename_i e' _
    have hk : (fun k => K (sw e' i j k)) = upd (upd (fun k => K (e' k)) i (K (e' j))) j (K (e' i)) := by
      funext k
      unfold sw upd
      split
      · rfl
      · split <;> rfl
    rw [hk, sumTo_upd, sumTo_upd, if_pos h2, if_pos h4, ih]
    unfold upd
    by_cases hij : j = i
    · rw [if_pos hij, hij]; omega
    · rw [if_neg hij]; dsimp only; omega
theorem sumTo_le {f : Nat → Int} {B : Int} : ∀ {m : Nat}, (∀ i, i < m → f i ≤ B) → sumTo f m ≤ m * B
  | 0, _ => by simp [sumTo]
  | m + 1, h => by
    unfold sumTo
    have h1 := sumTo_le (f := f) (B := B) (m := m) (fun i hi => h i (by omega))
    have h2 := h m (by omega)
    have e : ((m + 1 : Nat) : Int) * B = (m : Int) * B + B := by
      rw [Int.natCast_add, Int.add_mul]; omega
    omega
theorem sumTo_nonneg {f : Nat → Int} : ∀ {m : Nat}, (∀ i, i < m → 0 ≤ f i) → 0 ≤ sumTo f m
  | 0, _ => by simp [sumTo]
  | m + 1, h => by
    unfold sumTo
    have h1 := sumTo_nonneg (f := f) (m := m) (fun i hi => h i (by omega))
    have h2 := h m (by omega)
    omega
/-- beyond j all is zero -/
theorem sumTo_cut {f : Nat → Int} {j : Nat} : ∀ {m : Nat}, j ≤ m → (∀ i, j ≤ i → i < m → f i = 0) → sumTo f m = sumTo f j
  | 0, h, _ => by rw [show j = 0 by omega]
  | m + 1, h, hz => by
    by_cases hj : j = m + 1
    · rw [hj]
    · have h1 := sumTo_cut (f := f) (j := j) (m := m) (by omega) (fun i i1 i2 => hz i i1 (by omega))
      show sumTo f m + f m = sumTo f j
      rw [h1, hz m (by omega) (by omega)]; omega
theorem sumTo_mul (n : Int) (f : Nat → Int) : ∀ m, sumTo (fun i => n * f i) m = n * sumTo f m
  | 0 => by simp [sumTo]
  | m + 1 => by
    unfold sumTo
    rw [sumTo_mul n f m, Int.mul_add]
theorem sumTo_div (f : Nat → Int) (s : Int) : ∀ m, sumTo f m = s * sumTo (fun i => f i / s) m + sumTo (fun i => f i % s) m
  | 0 => by simp [sumTo]
  | m + 1 => by
    unfold sumTo
    have h := sumTo_div f s m
    have e := Int.mul_ediv_add_emod (f m) s
    rw [Int.mul_add]
    omega

/-- the pieces that are left, times the sum, are the remainders -/
theorem left_eq {n s : Int} {x : Nat → Int} {m : Nat} (hs : sumTo x m = s) : s * (n - sumTo (fun i => n * x i / s) m) = sumTo (fun i => n * x i % s) m := by
  have h1 := sumTo_div (fun i => n * x i) s m
  rw [sumTo_mul, hs] at h1
  have e : s * (n - sumTo (fun i => n * x i / s) m) = n * s - s * sumTo (fun i => n * x i / s) m := by rw [Int.mul_sub, Int.mul_comm s n]
  omega
theorem left_range {n s : Int} {x : Nat → Int} {m : Nat} (hs : sumTo x m = s) (h1 : 1 ≤ s) : 0 ≤ n - sumTo (fun i => n * x i / s) m ∧ n - sumTo (fun i => n * x i / s) m ≤ m := by
  have he := left_eq (n := n) hs
  have r0 := sumTo_nonneg (f := fun i => n * x i % s) (m := m) (fun i _ => Int.emod_nonneg _ (by omega))
  have r1 := sumTo_le (f := fun i => n * x i % s) (B := s) (m := m) (fun i _ => Int.le_of_lt (Int.emod_lt_of_pos _ (by omega)))
  generalize n - sumTo (fun i => n * x i / s) m = L at *
  constructor
  · refine Int.not_lt.1 fun h => ?_
    have : s * L < 0 := Int.mul_neg_of_pos_of_neg (by omega) h
    omega
  · refine Int.not_lt.1 fun h => ?_
    have h2 : s * ((m : Int) + 1) ≤ s * L := Int.mul_le_mul_of_nonneg_left (by omega) (by omega)
    have e : s * ((m : Int) + 1) = (m : Int) * s + s := by rw [Int.mul_add, Int.mul_comm]; omega
    omega
/-- who gets one has a remainder -/
theorem first_pos {n s : Int} {x : Nat → Int} {m : Nat} {K : Int → Int} {d d0 : Nat → Int} (hs : sumTo x m = s) (h1 : 1 ≤ s) (hK : ∀ i, i < m → K (d0 i) = n * x i % s) (hw : Sws 0 m d0 d) (hd : Sd K d 0 m) (hKb : ∀ i, i < m → 0 ≤ K (d i) ∧ K (d i) < s) {j : Nat} (hj : (j : Int) < n - sumTo (fun i => n * x i / s) m) :
    0 < K (d j) := by
  have he := left_eq (n := n) hs
  have hr := left_range (n := n) hs h1
  have hsum := hw.sum K
  rw [sumTo_congr hK] at hsum
  generalize n - sumTo (fun i => n * x i / s) m = L at *
  have hjm : j < m := by omega
  refine Int.not_le.1 fun h0 => ?_
  have hz : ∀ i, j ≤ i → i < m → K (d i) = 0 := fun i i1 i2 => by
    have b := hKb i i2
    by_cases hij : i = j
    · subst hij; omega
    · have := hd j i (Nat.zero_le _) (by omega) i2
      unfold Bf at this
      omega
  have h2 := sumTo_cut (f := fun k => K (d k)) (Nat.le_of_lt hjm) hz
  have h3 := sumTo_le (f := fun k => K (d k)) (B := s) (m := j) (fun i hi => Int.le_of_lt (hKb i (by omega)).2)
  have h4 : s * ((j : Int) + 1) ≤ s * L := Int.mul_le_mul_of_nonneg_left (by omega) (by omega)
  have e : s * ((j : Int) + 1) = (j : Int) * s + s := by rw [Int.mul_add, Int.mul_comm]; omega
  omega

theorem Sws.surj {a b : Nat} {d e : Nat → Int} (h : Sws a b d e) {x : Int} (hx : ∃ j, a ≤ j ∧ j < b ∧ d j = x) : ∃ j, a ≤ j ∧ j < b ∧ e j = x := by
  induction h with
  | refl => exact hx
  | step i j _ h1 h2 h3 h4 ih =>
    obtain ⟨k, k1, k2, k3⟩ := ih
    by_cases hi : k = i
    · subst hi
      exact ⟨j, h3, h4, by unfold sw upd; rw [if_pos rfl]; exact k3⟩
    · by_cases hj : k = j
      · subst hj
        refine ⟨i, h1, h2, ?_⟩
        unfold sw upd
        rw [if_neg (fun h => hi h.symm), if_pos rfl]
        exact k3
      · exact ⟨k, k1, k2, by unfold sw upd; rw [if_neg hj, if_neg hi]; exact k3⟩
/-- what the reference's scan knows of the first k weights -/
def Best (K : Int → Int) (given : Nat → Prop) (k : Nat) (best : Int) : Prop :=
  (best = -1 ∧ ∀ i, i < k → given i) ∨ (∃ b : Nat, best = (b : Int) ∧ b < k ∧ ¬ given b ∧ ∀ i, i < k → ¬ given i → i = b ∨ Bf K (b : Int) (i : Int))
theorem Best.start (K : Int → Int) (given : Nat → Prop) : Best K given 0 (-1) := .inl ⟨rfl, fun i h => by omega⟩
theorem Best.skip {K : Int → Int} {given : Nat → Prop} {k : Nat} {best : Int} (h : Best K given k best) (hg : given k) : Best K given (k + 1) best := by
  rcases h with ⟨h1, h2⟩ | ⟨b, h1, h2, h3, h4⟩
  · refine .inl ⟨h1, fun i hi => ?_⟩
    by_cases hk : i = k
    · rw [hk]; exact hg
    · exact h2 i (by omega)
  · refine .inr ⟨b, h1, by omega, h3, fun i hi hn => ?_⟩
    by_cases hk : i = k
    · rw [hk] at hn; exact absurd hg hn
    · exact h4 i (by omega) hn
theorem Best.take {K : Int → Int} {given : Nat → Prop} {k : Nat} {best : Int} (h : Best K given k best) (hg : ¬ given k) (hb : best < 0 ∨ K best < K k) : Best K given (k + 1) k := by
  refine .inr ⟨k, rfl, by omega, hg, fun i hi hn => ?_⟩
  by_cases hk : i = k
  · exact .inl hk
  · rcases h with ⟨h1, h2⟩ | ⟨b, h1, h2, h3, h4⟩
    · exact absurd (h2 i (by omega)) hn
    · have hb' : K b < K k := by
        rcases hb with hb | hb
        · omega
        · rw [h1] at hb; exact hb
      rcases h4 i (by omega) hn with h5 | h5
      · rw [h5]; exact .inr (.inl hb')
      · exact .inr (Bf.trans (.inl hb') h5)
theorem Best.keep {K : Int → Int} {given : Nat → Prop} {k : Nat} {best : Int} (h : Best K given k best) (hb : ¬ (best < 0 ∨ K best < K k)) : Best K given (k + 1) best := by
  rcases h with ⟨h1, h2⟩ | ⟨b, h1, h2, h3, h4⟩
  · omega
  · refine .inr ⟨b, h1, by omega, h3, fun i hi hn => ?_⟩
    by_cases hk : i = k
    · subst hk
      rw [h1] at hb
      refine .inr ?_
      unfold Bf
      omega
    · exact h4 i (by omega) hn
/-- the scan ends at the next of the sorted order -/
theorem Best.next {K : Int → Int} {given : Nat → Prop} {m t : Nat} {best : Int} {d d0 : Nat → Int} (h : Best K given m best) (ht : t < m) (h0 : ∀ k, k < m → d0 k = k) (hw : Sws 0 m d0 d) (hd : Sd K d 0 m) (hg : ∀ i : Nat, i < m → (given i ↔ ∃ j, j < t ∧ d j = i)) :
    best = d t ∧ 0 ≤ d t ∧ d t < m := by
  have hin : ∀ k, k < m → 0 ≤ d k ∧ d k < m := fun k hk => hw.all (P := fun v => 0 ≤ v ∧ v < m) (fun i _ i2 => by rw [h0 i i2]; omega) k (Nat.zero_le _) hk
  obtain ⟨i1, i2⟩ := hin t ht
  obtain ⟨x, hx⟩ := Int.eq_ofNat_of_zero_le i1
  have hxm : x < m := by omega
  have hinj := hw.inj (fun i j _ a1 _ a2 e => by rw [h0 i a1, h0 j a2] at e; omega)
  have hnx : ¬ given x := fun hc => by
    obtain ⟨j, j1, j2⟩ := (hg x hxm).1 hc
    have := hinj j t (Nat.zero_le _) (by omega) (Nat.zero_le _) ht (by rw [j2, hx])
    omega
  refine ⟨?_, i1, i2⟩
  rcases h with ⟨h1, h2⟩ | ⟨b, h1, h2, h3, h4⟩
  · exact absurd (h2 x hxm) hnx
  · rw [h1, hx]
    rcases h4 x hxm hnx with h5 | h5
    · rw [h5]
    · exfalso
      obtain ⟨j, _, j2, j3⟩ := hw.surj (x := (b : Int)) ⟨b, Nat.zero_le _, h2, h0 b h2⟩
      by_cases hjt : j < t
      · exact h3 ((hg b h2).2 ⟨j, hjt, j3⟩)
      · by_cases hje : j = t
        · subst hje
          rw [hx] at j3
          rw [j3] at h5
          exact h5.asymm h5
        · have := hd t j (Nat.zero_le _) (by omega) j2
          rw [hx, j3] at this
          exact this.asymm h5

/-- the shares behind the first t of the order -/
def OO (q : Nat → Int) (d : Nat → Int) : Nat → Nat → Int
  | 0 => q
  | t + 1 => upd (OO q d t) (d t).toNat (OO q d t (d t).toNat + 1)
theorem OO_bd (q d : Nat → Int) : ∀ (t j : Nat), q j ≤ OO q d t j ∧ OO q d t j ≤ q j + t
  | 0, j => by unfold OO; omega
  | t + 1, j => by
    have h1 := OO_bd q d t j
    have h2 := OO_bd q d t (d t).toNat
    unfold OO upd
    split
    · rename_i h; subst h; omega
    · omega
theorem OO_one {q d : Nat → Int} {m : Nat} (hinj : ∀ i j, i < m → j < m → d i = d j → i = j) (hr : ∀ i, i < m → 0 ≤ d i ∧ d i < m) : ∀ (t : Nat), t ≤ m → ∀ j : Nat, ((∃ i, i < t ∧ d i = j) → OO q d t j = q j + 1) ∧ ((¬ ∃ i, i < t ∧ d i = j) → OO q d t j = q j)
  | 0, _, j => ⟨fun ⟨i, h, _⟩ => absurd h (by omega), fun _ => rfl⟩
  | t + 1, ht, j => by
    have ih := OO_one (q := q) hinj hr t (by omega) j
    have hrt := hr t (by omega)
    unfold OO upd
    by_cases hj : j = (d t).toNat
    · have hd : d t = j := by omega
      have hno : ¬ ∃ i, i < t ∧ d i = j := fun ⟨i, i1, i2⟩ => by
        have := hinj i t (by omega) (by omega) (by rw [i2, hd])
        omega
      rw [if_pos hj]
      refine ⟨fun _ => ?_, fun h => absurd ⟨t, by omega, hd⟩ h⟩
      rw [← hj, ih.2 hno]
    · rw [if_neg hj]
      refine ⟨fun ⟨i, i1, i2⟩ => ?_, fun h => ih.2 (fun ⟨i, i1, i2⟩ => h ⟨i, by omega, i2⟩)⟩
      by_cases hit : i = t
      · subst hit; omega
      · exact ih.1 ⟨i, by omega, i2⟩
theorem OO_sum {q d : Nat → Int} {m : Nat} (hr : ∀ i, i < m → 0 ≤ d i ∧ d i < m) : ∀ (t : Nat), t ≤ m → sumTo (OO q d t) m = sumTo q m + t
  | 0, _ => by unfold OO; omega
  | t + 1, ht => by
    have ih := OO_sum (q := q) hr t (by omega)
    have hrt := hr t (by omega)
    unfold OO
    rw [sumTo_upd, ih, if_pos (by omega)]
    omega

/-- a weight within its limits -/
def WOk (x : Int) : Prop := 0 ≤ x ∧ x ≤ 1000000000
instance (x : Int) : Decidable (WOk x) := by unfold WOk; infer_instance
def clamp (x : Int) : Int := if 0 < (if 1000000000 < x then 1000000000 else x) then (if 1000000000 < x then 1000000000 else x) else 0
theorem clamp_ok {x : Int} (h : WOk x) : clamp x = x := by unfold clamp; unfold WOk at h; split <;> (try split) <;> omega
theorem clamp_range (x : Int) : 0 ≤ clamp x ∧ clamp x ≤ 1000000000 := by unfold clamp; split <;> (try split) <;> omega

/-- the weights -/
def wt (v : List Int) (j : Nat) : Int := v.getD j 0
theorem wt_get {v : List Int} {j : Nat} (h : j < v.length) : wt v j = v[j] := by
  unfold wt; rw [List.getD_eq_getElem?_getD, List.getElem?_eq_getElem h]; rfl
def sumW (v : List Int) : Int := sumTo (wt v) v.length
/-- the quota -/
def quo (nn : Int) (v : List Int) (j : Nat) : Int := nn * wt v j / sumW v
/-- all weights are within their limits -/
def WAll (v : List Int) : Prop := ∀ j, j < v.length → WOk (wt v j)
theorem sum_clamp {v : List Int} (h : WAll v) : sumTo (fun j => clamp (wt v j)) v.length = sumW v := sumTo_congr fun i hi => clamp_ok (h i hi)
/-- the error of Share -/
def ShE (nn : Int) (v : List Int) (er : Int) : Prop :=
  (64 < v.length ∧ er = 3) ∨ (v.length ≤ 64 ∧ ¬ (WOk nn ∧ WAll v) ∧ er = 2) ∨ (v.length ≤ 64 ∧ WOk nn ∧ WAll v ∧ sumW v = 0 ∧ er = 4)
theorem ShE.ne {nn : Int} {v : List Int} {er : Int} (h : ShE nn v er) : er ≠ 0 := by
  rcases h with ⟨_, h⟩ | ⟨_, _, h⟩ | ⟨_, _, _, _, h⟩ <;> omega
theorem ShE.same {nn : Int} {v : List Int} {a b : Int} (h : ShE nn v a) (k : ShE nn v b) : a = b := by
  rcases h with ⟨h1, h⟩ | ⟨h1, h2, h⟩ | ⟨h1, h2, h3, h4, h⟩ <;> rcases k with ⟨k1, k⟩ | ⟨k1, k2, k⟩ | ⟨k1, k2, k3, k4, k⟩ <;> first | omega | exact absurd ⟨by assumption, by assumption⟩ h2 | exact absurd ⟨by assumption, by assumption⟩ k2
/-- Share goes -/
def ShG (nn : Int) (v : List Int) : Prop := v.length ≤ 64 ∧ WOk nn ∧ WAll v ∧ 1 ≤ sumW v
theorem ShG.no {nn : Int} {v : List Int} {er : Int} (h : ShG nn v) (k : ShE nn v er) : False := by
  obtain ⟨h1, h2, h3, h4⟩ := h
  rcases k with ⟨k1, k⟩ | ⟨k1, k2, k⟩ | ⟨k1, k2, k3, k4, k⟩
  · omega
  · exact k2 ⟨h2, h3⟩
  · omega
/-- how many are left -/
def lft (nn : Int) (v : List Int) : Nat := (nn - sumTo (quo nn v) v.length).toNat
theorem lft_ok {nn : Int} {v : List Int} (h : 1 ≤ sumW v) : ((lft nn v : Nat) : Int) = nn - sumTo (quo nn v) v.length ∧ lft nn v ≤ v.length := by
  have h1 := left_range (n := nn) (s := sumW v) (x := wt v) (m := v.length) rfl h
  unfold lft quo
  omega
/-- the key of the order -/
def keyW (nn : Int) (v : List Int) (z : Int) : Int := nn * (v.getD z.toNat 0) % sumW v
/-- the order of the pieces -/
def Ord (nn : Int) (v : List Int) (d : Nat → Int) : Prop := ∃ d0 : Nat → Int, (∀ k, k < v.length → d0 k = k) ∧ Sws 0 v.length d0 d ∧ Sd (keyW nn v) d 0 v.length
theorem Ord.range {nn : Int} {v : List Int} {d : Nat → Int} (h : Ord nn v d) : ∀ i, i < v.length → 0 ≤ d i ∧ d i < v.length := by
  obtain ⟨d0, h0, hw, _⟩ := h
  exact fun k hk => hw.all (P := fun z => 0 ≤ z ∧ z < v.length) (fun i _ i2 => by rw [h0 i i2]; omega) k (Nat.zero_le _) hk
theorem Ord.inj {nn : Int} {v : List Int} {d : Nat → Int} (h : Ord nn v d) : ∀ i j, i < v.length → j < v.length → d i = d j → i = j := by
  obtain ⟨d0, h0, hw, _⟩ := h
  exact fun i j hi hj e => hw.inj (fun i j _ a1 _ a2 e => by rw [h0 i a1, h0 j a2] at e; omega) i j (Nat.zero_le _) hi (Nat.zero_le _) hj e
theorem sumTo_ge {f : Nat → Int} : ∀ {m : Nat}, (∀ i, i < m → 0 ≤ f i) → ∀ j, j < m → f j ≤ sumTo f m
  | 0, _, j, h => by omega
  | m + 1, h0, j, h => by
    unfold sumTo
    have h1 := h0 m (by omega)
    by_cases hj : j = m
    · subst hj
      have := sumTo_nonneg (f := f) (m := j) (fun i hi => h0 i (by omega))
      omega
    · have := sumTo_ge (f := f) (m := m) (fun i hi => h0 i (by omega)) j (by omega)
      omega
theorem quo_bd {nn : Int} {v : List Int} (hn : WOk nn) (hv : WAll v) (hs : 1 ≤ sumW v) {j : Nat} (hj : j < v.length) : 0 ≤ quo nn v j ∧ quo nn v j ≤ 1000000000 := by
  have h := hv j hj
  unfold quo
  have m1 : 0 ≤ nn * wt v j := Int.mul_nonneg hn.1 h.1
  have m2 : wt v j ≤ sumW v := sumTo_ge (fun i hi => (hv i hi).1) j hj
  refine ⟨Int.ediv_nonneg m1 (by omega), ?_⟩
  have m3 : nn * wt v j / sumW v ≤ nn := by
    apply Int.ediv_le_of_le_mul (by omega)
    exact Int.mul_le_mul_of_nonneg_left m2 hn.1
  have := hn.2
  omega
theorem prod_bd {nn : Int} {v : List Int} (hn : WOk nn) (hv : WAll v) {j : Nat} (hj : j < v.length) : 0 ≤ nn * wt v j ∧ nn * wt v j ≤ 1000000000000000000 := by
  have h := hv j hj
  have m3 : nn * wt v j ≤ 1000000000 * 1000000000 := Int.mul_le_mul hn.2 h.2 h.1 (by decide)
  exact ⟨Int.mul_nonneg hn.1 h.1, by omega⟩
theorem sumq_bd {nn : Int} {v : List Int} (hn : WOk nn) (hv : WAll v) (hs : 1 ≤ sumW v) {k : Nat} (hk : k ≤ v.length) : 0 ≤ sumTo (quo nn v) k ∧ sumTo (quo nn v) k ≤ k * 1000000000 :=
  ⟨sumTo_nonneg fun i hi => (quo_bd hn hv hs (by omega)).1, sumTo_le fun i hi => (quo_bd hn hv hs (by omega)).2⟩
theorem sumW_bd {v : List Int} (hv : WAll v) : 0 ≤ sumW v ∧ sumW v ≤ v.length * 1000000000 :=
  ⟨sumTo_nonneg fun i hi => (hv i hi).1, sumTo_le fun i hi => (hv i hi).2⟩
/-- who has been given one -/
def gv (d : Nat → Int) : Nat → Nat → Bool
  | 0 => fun _ => false
  | t + 1 => fun i => if i = (d t).toNat then true else gv d t i
theorem gv_iff {d : Nat → Int} {m : Nat} (hr : ∀ i, i < m → 0 ≤ d i ∧ d i < m) : ∀ (t : Nat), t ≤ m → ∀ i : Nat, gv d t i = true ↔ ∃ j, j < t ∧ d j = i
  | 0, _, i => by
    unfold gv
    exact ⟨fun h => (by cases h), fun ⟨j, h, _⟩ => absurd h (by omega)⟩
  | t + 1, ht, i => by
    have ih := gv_iff hr t (by omega) i
    have hrt := hr t (by omega)
    unfold gv
    by_cases h : i = (d t).toNat
    · rw [if_pos h]
      exact ⟨fun _ => ⟨t, by omega, by omega⟩, fun _ => rfl⟩
    · rw [if_neg h, ih]
      constructor
      · rintro ⟨j, j1, j2⟩; exact ⟨j, by omega, j2⟩
      · rintro ⟨j, j1, j2⟩
        by_cases hjt : j = t
        · subst hjt; omega
        · exact ⟨j, by omega, j2⟩
/-- the shares as a list -/
def shs (nn : Int) (v : List Int) (d : Nat → Int) : List Int := (List.range v.length).map (OO (quo nn v) d (lft nn v))
theorem shs_len (nn : Int) (v : List Int) (d : Nat → Int) : (shs nn v d).length = v.length := by simp [shs]
theorem shs_get {nn : Int} {v : List Int} {d : Nat → Int} {j : Nat} (h : j < (shs nn v d).length) : (shs nn v d)[j] = OO (quo nn v) d (lft nn v) j := by simp [shs]
end Go.Proofs.Ythkoblnfeebafaa
