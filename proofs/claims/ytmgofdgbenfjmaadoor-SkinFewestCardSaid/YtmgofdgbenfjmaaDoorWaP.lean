/- Plain: the ways from a corner, as far as they go; where a flat one stops; the chords. No conditions. -/
import Derived.Test.YtmgofdgbenfjmaaDoorDv2
namespace Go.Proofs.YtmgofdgbenfjmaaDoor

def runR (u : Int → Int → Bool) (y : Int) : Nat → Int → Int
  | 0, x => x
  | n + 1, x => if fl u x y then runR u y n (x + 1) else x
def runL (u : Int → Int → Bool) (y : Int) : Nat → Int → Int
  | 0, x => x
  | n + 1, x => if fl u (x - 1) y then runL u y n (x - 1) else x
/-- the end of the flat way -/
def wayT (u : Int → Int → Bool) (x y : Int) : Int := if fl u x y then runR u y 60 x else runL u y 60 x
/-- the plane turned over -/
def trU (u : Int → Int → Bool) (x y : Int) : Bool := u y x
/-- the end of the steep way -/
def wayS (u : Int → Int → Bool) (x y : Int) : Int := wayT (trU u) y x
theorem fl_tr (u : Int → Int → Bool) (x y : Int) : fl (trU u) y x = stp u x y := rfl
theorem q3_tr (u : Int → Int → Bool) (x y : Int) : q3 (trU u) y x = q3 u x y := by
  unfold q3 trU
  generalize u (x - 1) (y - 1) = a
  generalize u x (y - 1) = b
  generalize u (x - 1) y = c
  generalize u x y = d
  revert a b c d; decide
section
variable {u : Int → Int → Bool} {y : Int}
theorem runR_ok (hs : ∀ i, 48 ≤ i → fl u i y = false) : ∀ (n : Nat) (x : Int), 48 ≤ x + n → x ≤ runR u y n x ∧ (∀ i, x ≤ i → i < runR u y n x → fl u i y = true) ∧ fl u (runR u y n x) y = false
  | 0, x, h => ⟨Int.le_refl _, fun i h1 h2 => by have h2 : i < x := h2; omega, hs x (by omega)⟩
  | n + 1, x, h => by
    unfold runR
    by_cases hf : fl u x y = true
    · rw [if_pos hf]
      obtain ⟨h1, h2, h3⟩ := runR_ok hs n (x + 1) (by omega)
      exact ⟨by omega, fun i k1 k2 => by
        by_cases e : i = x
        · rw [e]; exact hf
        · exact h2 i (by omega) k2, h3⟩
    · rw [if_neg hf]
      exact ⟨Int.le_refl _, fun i h1 h2 => by omega, by simpa using hf⟩
theorem runL_ok (hs : ∀ i, i < 0 → fl u i y = false) : ∀ (n : Nat) (x : Int), x - n ≤ 0 → runL u y n x ≤ x ∧ (∀ i, runL u y n x ≤ i → i < x → fl u i y = true) ∧ fl u (runL u y n x - 1) y = false
  | 0, x, h => ⟨Int.le_refl _, fun i h1 h2 => by have h1 : x ≤ i := h1; omega, hs (x - 1) (by omega)⟩
  | n + 1, x, h => by
    unfold runL
    by_cases hf : fl u (x - 1) y = true
    · rw [if_pos hf]
      obtain ⟨h1, h2, h3⟩ := runL_ok hs n (x - 1) (by omega)
      exact ⟨by omega, fun i k1 k2 => by
        by_cases e : i = x - 1
        · rw [e]; exact hf
        · exact h2 i k1 (by omega), h3⟩
    · rw [if_neg hf]
      exact ⟨Int.le_refl _, fun i h1 h2 => by omega, by simpa using hf⟩
end
section
variable {u : Int → Int → Bool} {w h : Nat}
theorem fl_out (hs : ∀ x y, u x y = true → 0 ≤ x ∧ x < w ∧ 0 ≤ y ∧ y < h) (hw : w ≤ 48) {x y : Int} (hx : 48 ≤ x ∨ x < 0) : fl u x y = false := by
  cases hf : fl u x y with
  | false => rfl
  | true =>
    unfold fl at hf
    have := hs x y (Bool.and_eq_true_iff.1 hf).2
    omega
theorem way_ok (hs : ∀ x y, u x y = true → 0 ≤ x ∧ x < w ∧ 0 ≤ y ∧ y < h) (hw : w ≤ 48) {x y : Int} (hx : 0 ≤ x ∧ x ≤ 48) (hq : q3 u x y = true) : Way u (x, y) (wayT u x y) := by
  have hq := q3_fl hq
  unfold Way wayT
  by_cases hf : fl u x y = true
  · rw [if_pos hf]
    obtain ⟨h1, h2, h3⟩ := runR_ok (u := u) (y := y) (fun i hi => fl_out hs hw (.inl hi)) 60 x (by omega)
    refine .inl ⟨hf, ?_, h2, h3⟩
    show x < _
    by_cases e : x < runR u y 60 x
    · exact e
    · have : runR u y 60 x = x := by omega
      rw [this, hf] at h3; cases h3
  · have hf : fl u x y = false := by simpa using hf
    rw [if_neg (by simp [hf])]
    rw [hf] at hq
    obtain ⟨h1, h2, h3⟩ := runL_ok (u := u) (y := y) (fun i hi => fl_out hs hw (.inr hi)) 60 x (by omega)
    refine .inr ⟨hf, ?_, h2, h3⟩
    show _ < x
    by_cases e : runL u y 60 x < x
    · exact e
    · have : runL u y 60 x = x := by omega
      rw [this, hq] at h3; cases h3
theorem way_rg (hs : ∀ x y, u x y = true → 0 ≤ x ∧ x < w ∧ 0 ≤ y ∧ y < h) (hw : w ≤ 48) {x y : Int} (hx : 0 ≤ x ∧ x ≤ 48) : 0 ≤ wayT u x y ∧ wayT u x y ≤ 48 := by
  unfold wayT
  split
  · obtain ⟨h1, h2, h3⟩ := runR_ok (u := u) (y := y) (fun i hi => fl_out hs hw (.inl hi)) 60 x (by omega)
    refine ⟨by omega, ?_⟩
    by_cases e : runR u y 60 x ≤ x
    · omega
    · have := h2 (runR u y 60 x - 1) (by omega) (by omega)
      by_cases e2 : 48 ≤ runR u y 60 x - 1
      · rw [fl_out hs hw (.inl e2)] at this; cases this
      · omega
  · obtain ⟨h1, h2, h3⟩ := runL_ok (u := u) (y := y) (fun i hi => fl_out hs hw (.inr hi)) 60 x (by omega)
    refine ⟨?_, by omega⟩
    by_cases e : x ≤ runL u y 60 x
    · omega
    · have := h2 (runL u y 60 x) (by omega) (by omega)
      by_cases e2 : runL u y 60 x < 0
      · rw [fl_out hs hw (.inr e2)] at this; cases this
      · omega
/-- the flat chords from a list of corners -/
def chF (u : Int → Int → Bool) (C : List Cel) : List Chd := C.filterMap fun c => if c.1 < wayT u c.1 c.2 ∧ q3 u (wayT u c.1 c.2) c.2 = true then some (c, (wayT u c.1 c.2, c.2)) else none
def chS (u : Int → Int → Bool) (C : List Cel) : List Chd := C.filterMap fun c => if c.2 < wayS u c.1 c.2 ∧ q3 u c.1 (wayS u c.1 c.2) = true then some (c, (c.1, wayS u c.1 c.2)) else none
theorem filterMap_nodup {α β : Type} {f : α → Option β} (hf : ∀ a a' b, f a = some b → f a' = some b → a = a') : ∀ {l : List α}, l.Nodup → (l.filterMap f).Nodup
  | [], _ => List.nodup_nil
  | a :: l, h => by
    obtain ⟨h1, h2⟩ := List.nodup_cons.1 h
    cases e : f a with
    | none => rw [List.filterMap_cons_none e]; exact filterMap_nodup hf h2
    | some b =>
      rw [List.filterMap_cons_some e, List.nodup_cons]
      refine ⟨fun hm => ?_, filterMap_nodup hf h2⟩
      obtain ⟨a', ha', e'⟩ := List.mem_filterMap.1 hm
      exact h1 (by rw [hf a a' b e e']; exact ha')
theorem chF_nodup {C : List Cel} (hC : C.Nodup) : (chF u C).Nodup := filterMap_nodup (fun a a' b h1 h2 => by
  split at h1
  · split at h2
    · injection h1 with h1; injection h2 with h2
      exact congrArg Prod.fst (h1.trans h2.symm)
    · cases h2
  · cases h1) hC
theorem chS_nodup {C : List Cel} (hC : C.Nodup) : (chS u C).Nodup := filterMap_nodup (fun a a' b h1 h2 => by
  split at h1
  · split at h2
    · injection h1 with h1; injection h2 with h2
      exact congrArg Prod.fst (h1.trans h2.symm)
    · cases h2
  · cases h1) hC
theorem chF_all (hs : ∀ x y, u x y = true → 0 ≤ x ∧ x < w ∧ 0 ≤ y ∧ y < h) (hw : w ≤ 48) {C : List Cel} (hC : ∀ c, c ∈ C ↔ q3 u c.1 c.2 = true) (hR : ∀ c ∈ C, 0 ≤ c.1 ∧ c.1 ≤ 48) (c : Chd) : c ∈ chF u C ↔ isF u c := by
  unfold chF isF
  rw [List.mem_filterMap]
  constructor
  · rintro ⟨a, ha, e⟩
    split at e
    · rename_i hh
      injection e with e
      subst e
      have hwy := way_ok hs hw (hR a ha) ((hC a).1 ha)
      rcases hwy with ⟨k1, k2, k3, k4⟩ | ⟨k1, k2, k3, k4⟩
      · exact ⟨rfl, hh.1, (hC a).1 ha, hh.2, k3⟩
      · have := hh.1; have k2 : wayT u a.1 a.2 < a.1 := k2; omega
    · cases e
  · rintro ⟨h1, h2, h3, h4, h5⟩
    obtain ⟨⟨x, y⟩, ⟨x', y'⟩⟩ := c
    dsimp only at h1 h2 h3 h4 h5
    subst h1
    have hc : (x, y) ∈ C := (hC (x, y)).2 h3
    have ht : wayT u x y = x' := by
      rcases way_ok hs hw (hR _ hc) h3 with ⟨k1, k2, k3, k4⟩ | ⟨k1, k2, k3, k4⟩
      · dsimp only at k2 k3 k4
        by_cases e1 : wayT u x y < x'
        · rw [h5 _ (by omega) e1] at k4; cases k4
        · by_cases e2 : x' < wayT u x y
          · have q := q3_fl h4
            rw [k3 x' (by omega) e2, k3 (x' - 1) (by omega) (by omega)] at q
            cases q
          · omega
      · dsimp only at k1
        rw [h5 x (by omega) h2] at k1; cases k1
    refine ⟨(x, y), hc, ?_⟩
    dsimp only
    rw [ht, if_pos ⟨h2, h4⟩]
theorem isS_tr (c : Chd) : isS u c ↔ isF (trU u) ((c.1.2, c.1.1), (c.2.2, c.2.1)) := by
  unfold isS isF
  dsimp only
  rw [q3_tr, q3_tr]
  exact Iff.rfl
theorem filterMap_same {α β : Type} {f g : α → Option β} : ∀ l : List α, (∀ a ∈ l, f a = g a) → l.filterMap f = l.filterMap g
  | [], _ => rfl
  | a :: l, h => by
    have ih := filterMap_same l fun x hx => h x (by simp [hx])
    simp only [List.filterMap_cons, h a (by simp), ih]
theorem chS_tr (C : List Cel) : chS u C = (chF (trU u) (C.map fun c => (c.2, c.1))).map fun c => ((c.1.2, c.1.1), (c.2.2, c.2.1)) := by
  unfold chS chF
  rw [List.filterMap_map, List.map_filterMap]
  refine filterMap_same _ fun c _ => ?_
  have e : q3 u c.1 (wayS u c.1 c.2) = q3 (trU u) (wayT (trU u) c.2 c.1) c.1 := (q3_tr u _ _).symm
  dsimp only [Function.comp_apply]
  by_cases hc : c.2 < wayS u c.1 c.2 ∧ q3 u c.1 (wayS u c.1 c.2) = true
  · rw [if_pos hc, if_pos ⟨hc.1, by rw [← e]; exact hc.2⟩]; rfl
  · rw [if_neg hc, if_neg (fun k => hc ⟨k.1, by rw [e]; exact k.2⟩)]; rfl
theorem chS_all (hs : ∀ x y, u x y = true → 0 ≤ x ∧ x < w ∧ 0 ≤ y ∧ y < h) (hh : h ≤ 48) {C : List Cel} (hC : ∀ c, c ∈ C ↔ q3 u c.1 c.2 = true) (hR : ∀ c ∈ C, 0 ≤ c.2 ∧ c.2 ≤ 48) (c : Chd) : c ∈ chS u C ↔ isS u c := by
  rw [isS_tr, ← chF_all (u := trU u) (w := h) (h := w) (C := C.map fun c => (c.2, c.1)) (fun x y k => by have := hs y x k; omega) hh (fun c => ?_) (fun c hc => ?_), chS_tr, List.mem_map]
  · constructor
    · rintro ⟨a, ha, rfl⟩; exact ha
    · intro k; exact ⟨_, k, rfl⟩
  · rw [q3_tr, ← hC (c.2, c.1), List.mem_map]
    constructor
    · rintro ⟨a, ha, rfl⟩; exact ha
    · intro k; exact ⟨_, k, rfl⟩
  · obtain ⟨a, ha, rfl⟩ := List.mem_map.1 hc
    exact hR a ha
end
end Go.Proofs.YtmgofdgbenfjmaaDoor
