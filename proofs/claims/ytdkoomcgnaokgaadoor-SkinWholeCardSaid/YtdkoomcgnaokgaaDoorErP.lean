/- Plain law of Erode and Dilate: along the rows and then along the columns is around the square. No conditions. -/
namespace Go.Proofs.YtdkoomcgnaokgaaDoor

def bst (e : Bool) (a b : Nat) : Nat := if e then min a b else max a b
def bd (e : Bool) (t v : Nat) : Prop := if e then t ≤ v else v ≤ t
theorem bd_bst {e : Bool} {t a b : Nat} : bd e t (bst e a b) ↔ bd e t a ∧ bd e t b := by
  cases e <;> simp [bd, bst] <;> omega
theorem bd_ext {e : Bool} {a b : Nat} (h : ∀ t, bd e t a ↔ bd e t b) : a = b := by
  cases e
  · have h1 := (h a).1 (by simp [bd])
    have h2 := (h b).2 (by simp [bd])
    simp [bd] at h1 h2
    omega
  · have h1 := (h a).1 (by simp [bd])
    have h2 := (h b).2 (by simp [bd])
    simp [bd] at h1 h2
    omega
/-- one step along a row -/
def stW (e : Bool) (w : Nat) (f : Nat → Nat) (c : Nat) (i : Int) : Nat := if 0 ≤ i ∧ i < (w : Int) then bst e c (f i.toNat) else if e then bst e c 48 else c
def fdW (e : Bool) (w : Nat) (f : Nat → Nat) (c : Nat) (lo : Int) : Nat → Nat
  | 0 => c
  | n + 1 => stW e w f (fdW e w f c lo n) (lo + (n : Int))
def exW (e : Bool) (w : Nat) (f : Nat → Nat) (t : Nat) (i : Int) : Prop := if 0 ≤ i ∧ i < (w : Int) then bd e t (f i.toNat) else e = true → t ≤ 48
theorem bd_stW {e : Bool} {w : Nat} {f : Nat → Nat} {c t : Nat} {i : Int} : bd e t (stW e w f c i) ↔ bd e t c ∧ exW e w f t i := by
  unfold stW exW
  by_cases h : 0 ≤ i ∧ i < (w : Int)
  · rw [if_pos h, if_pos h]; exact bd_bst
  · rw [if_neg h, if_neg h]
    cases e
    · simp
    · rw [if_pos rfl, bd_bst]; simp [bd]
theorem bd_fdW {e : Bool} {w : Nat} {f : Nat → Nat} {c t : Nat} {lo : Int} : ∀ n : Nat, bd e t (fdW e w f c lo n) ↔ bd e t c ∧ ∀ i : Int, lo ≤ i → i < lo + (n : Int) → exW e w f t i
  | 0 => by
    unfold fdW
    exact ⟨fun h => ⟨h, fun i h1 h2 => by omega⟩, fun h => h.1⟩
  | n + 1 => by
    unfold fdW
    rw [bd_stW, bd_fdW n]
    constructor
    · rintro ⟨⟨h1, h2⟩, h3⟩
      refine ⟨h1, fun i h4 h5 => ?_⟩
      by_cases h6 : i = lo + (n : Int)
      · rw [h6]; exact h3
      · exact h2 i h4 (by omega)
    · rintro ⟨h1, h2⟩
      exact ⟨⟨h1, fun i h4 h5 => h2 i h4 (by omega)⟩, h2 _ (by omega) (by omega)⟩
/-- a row -/
def onF (e : Bool) (w k : Nat) (f : Nat → Nat) (x : Nat) : Nat := fdW e w f (f x) ((x : Int) - (k : Int)) (2 * k + 1)
theorem bd_onF {e : Bool} {w k : Nat} {f : Nat → Nat} {x t : Nat} (hx : x < w) : bd e t (onF e w k f x) ↔ ∀ i : Int, (x : Int) - (k : Int) ≤ i → i ≤ (x : Int) + (k : Int) → exW e w f t i := by
  unfold onF
  rw [bd_fdW]
  constructor
  · intro h i h1 h2
    exact h.2 i h1 (by omega)
  · intro h
    refine ⟨?_, fun i h1 h2 => h i h1 (by omega)⟩
    have h2 := h (x : Int) (by omega) (by omega)
    unfold exW at h2
    rw [if_pos ⟨by omega, by omega⟩, Int.toNat_natCast] at h2
    exact h2
/-- rows, then columns -/
def c4 (e : Bool) (w h k : Nat) (c : Nat → Nat → Nat) (x y : Nat) : Nat := onF e h k (fun j => onF e w k (fun i => c i j) x) y
def exP (e : Bool) (w h : Nat) (c : Nat → Nat → Nat) (t : Nat) (p q : Int) : Prop := if (0 ≤ p ∧ p < (w : Int)) ∧ (0 ≤ q ∧ q < (h : Int)) then bd e t (c p.toNat q.toNat) else e = true → t ≤ 48
theorem bd_c4 {e : Bool} {w h k : Nat} {c : Nat → Nat → Nat} {x y t : Nat} (hx : x < w) (hy : y < h) : bd e t (c4 e w h k c x y) ↔ ∀ p q : Int, (x : Int) - (k : Int) ≤ p → p ≤ (x : Int) + (k : Int) → (y : Int) - (k : Int) ≤ q → q ≤ (y : Int) + (k : Int) → exP e w h c t p q := by
  unfold c4
  rw [bd_onF hy]
  constructor
  · intro hh p q h1 h2 h3 h4
    have h5 := hh q h3 h4
    unfold exW at h5
    by_cases hq : 0 ≤ q ∧ q < (h : Int)
    · rw [if_pos hq, bd_onF hx] at h5
      have h6 := h5 p h1 h2
      unfold exW at h6
      unfold exP
      by_cases hp : 0 ≤ p ∧ p < (w : Int)
      · rw [if_pos hp] at h6; rw [if_pos ⟨hp, hq⟩]; exact h6
      · rw [if_neg hp] at h6; rw [if_neg (fun h => hp h.1)]; exact h6
    · rw [if_neg hq] at h5
      unfold exP
      rw [if_neg (fun h => hq h.2)]; exact h5
  · intro hh q h3 h4
    unfold exW
    by_cases hq : 0 ≤ q ∧ q < (h : Int)
    · rw [if_pos hq, bd_onF hx]
      intro p h1 h2
      have h6 := hh p q h1 h2 h3 h4
      unfold exP at h6
      unfold exW
      by_cases hp : 0 ≤ p ∧ p < (w : Int)
      · rw [if_pos hp]; rw [if_pos ⟨hp, hq⟩] at h6; exact h6
      · rw [if_neg hp]; rw [if_neg (fun h => hp h.1)] at h6; exact h6
    · rw [if_neg hq]
      have h6 := hh (x : Int) q (by omega) (by omega) h3 h4
      unfold exP at h6
      rw [if_neg (fun h => hq h.2)] at h6
      exact h6
/-- the reference's loops -/
def rwB (e : Bool) (f : Nat → Nat) (u0 : Nat) (c : Nat) : Nat → Nat
  | 0 => c
  | j + 1 => bst e (rwB e f u0 c j) (f (u0 + j))
def bxB (e : Bool) (c2 : Nat → Nat → Nat) (u0 v0 nu : Nat) (c : Nat) : Nat → Nat
  | 0 => c
  | a + 1 => rwB e (fun u => c2 u (v0 + a)) u0 (bxB e c2 u0 v0 nu c a) nu
theorem bd_rwB {e : Bool} {f : Nat → Nat} {u0 c t : Nat} : ∀ n, bd e t (rwB e f u0 c n) ↔ bd e t c ∧ ∀ j, j < n → bd e t (f (u0 + j))
  | 0 => ⟨fun h => ⟨h, fun j hj => by omega⟩, fun h => h.1⟩
  | n + 1 => by
    unfold rwB
    rw [bd_bst, bd_rwB n]
    constructor
    · rintro ⟨⟨h1, h2⟩, h3⟩
      refine ⟨h1, fun j hj => ?_⟩
      by_cases h6 : j = n
      · rw [h6]; exact h3
      · exact h2 j (by omega)
    · rintro ⟨h1, h2⟩
      exact ⟨⟨h1, fun j hj => h2 j (by omega)⟩, h2 n (by omega)⟩
theorem bd_bxB {e : Bool} {c2 : Nat → Nat → Nat} {u0 v0 nu c t : Nat} : ∀ n, bd e t (bxB e c2 u0 v0 nu c n) ↔ bd e t c ∧ ∀ a, a < n → ∀ j, j < nu → bd e t (c2 (u0 + j) (v0 + a))
  | 0 => ⟨fun h => ⟨h, fun j hj => by omega⟩, fun h => h.1⟩
  | n + 1 => by
    unfold bxB
    rw [bd_rwB, bd_bxB n]
    constructor
    · rintro ⟨⟨h1, h2⟩, h3⟩
      refine ⟨h1, fun j hj => ?_⟩
      by_cases h6 : j = n
      · rw [h6]; exact h3
      · exact h2 j (by omega)
    · rintro ⟨h1, h2⟩
      exact ⟨⟨h1, fun j hj => h2 j (by omega)⟩, h2 n (by omega)⟩
def edg (w h k x y : Nat) : Prop := x < k ∨ y < k ∨ w ≤ x + k ∨ h ≤ y + k
instance (w h k x y : Nat) : Decidable (edg w h k x y) := by unfold edg; infer_instance
/-- what the reference begins with -/
def iniB (e : Bool) (w h k : Nat) (c : Nat → Nat → Nat) (x y : Nat) : Nat := if e = true ∧ edg w h k x y then 48 else c x y
def nuB (w k x : Nat) : Nat := min (w - 1) (x + k) + 1 - (x - k)
def mB (e : Bool) (w h k : Nat) (c : Nat → Nat → Nat) (x y : Nat) : Nat := bxB e c (x - k) (y - k) (nuB w k x) (iniB e w h k c x y) (nuB h k y)
theorem mB_c4 {e : Bool} {w h k : Nat} {c : Nat → Nat → Nat} {x y : Nat} (hx : x < w) (hy : y < h) : mB e w h k c x y = c4 e w h k c x y := by
  refine bd_ext (e := e) fun t => ?_
  rw [bd_c4 hx hy]
  unfold mB
  rw [bd_bxB]
  constructor
  · rintro ⟨h1, h2⟩ p q hp1 hp2 hq1 hq2
    unfold exP
    by_cases hin : (0 ≤ p ∧ p < (w : Int)) ∧ (0 ≤ q ∧ q < (h : Int))
    · rw [if_pos hin]
      obtain ⟨⟨a1, a2⟩, a3, a4⟩ := hin
      have h3 := h2 (q.toNat - (y - k)) (by unfold nuB; omega) (p.toNat - (x - k)) (by unfold nuB; omega)
      rw [show x - k + (p.toNat - (x - k)) = p.toNat by omega, show y - k + (q.toNat - (y - k)) = q.toNat by omega] at h3
      exact h3
    · rw [if_neg hin]
      intro he
      subst he
      unfold iniB at h1
      rw [if_pos ⟨rfl, by unfold edg; omega⟩] at h1
      simpa [bd] using h1
  · intro hh
    refine ⟨?_, fun a ha j hj => ?_⟩
    · unfold iniB
      by_cases hc : e = true ∧ edg w h k x y
      · rw [if_pos hc]
        obtain ⟨rfl, hed⟩ := hc
        show t ≤ 48
        unfold edg at hed
        have out : ∀ p q : Int, (x : Int) - (k : Int) ≤ p → p ≤ (x : Int) + (k : Int) → (y : Int) - (k : Int) ≤ q → q ≤ (y : Int) + (k : Int) → ¬ ((0 ≤ p ∧ p < (w : Int)) ∧ (0 ≤ q ∧ q < (h : Int))) → t ≤ 48 := by
          intro p q g1 g2 g3 g4 g5
          have := hh p q g1 g2 g3 g4
          unfold exP at this
          rw [if_neg g5] at this
          exact this rfl
        rcases hed with h1 | h1 | h1 | h1
        · exact out ((x : Int) - k) y (by omega) (by omega) (by omega) (by omega) (by omega)
        · exact out x ((y : Int) - k) (by omega) (by omega) (by omega) (by omega) (by omega)
        · exact out ((x : Int) + k) y (by omega) (by omega) (by omega) (by omega) (by omega)
        · exact out x ((y : Int) + k) (by omega) (by omega) (by omega) (by omega) (by omega)
      · rw [if_neg hc]
        have := hh x y (by omega) (by omega) (by omega) (by omega)
        unfold exP at this
        rw [if_pos ⟨⟨by omega, by omega⟩, by omega, by omega⟩, Int.toNat_natCast, Int.toNat_natCast] at this
        exact this
    · unfold nuB at ha hj
      have := hh ((x - k + j : Nat) : Int) ((y - k + a : Nat) : Int) (by omega) (by omega) (by omega) (by omega)
      unfold exP at this
      rw [if_pos ⟨⟨by omega, by omega⟩, by omega, by omega⟩, Int.toNat_natCast, Int.toNat_natCast] at this
      exact this
/-- bounds are kept -/
theorem bst_rg {e : Bool} {a b : Nat} (ha : 48 ≤ a ∧ a ≤ 57) (hb : 48 ≤ b ∧ b ≤ 57) : 48 ≤ bst e a b ∧ bst e a b ≤ 57 := by
  unfold bst; cases e <;> simp <;> omega
theorem fdW_rg {e : Bool} {w : Nat} {f : Nat → Nat} {c : Nat} {lo : Int} (hf : ∀ i, i < w → 48 ≤ f i ∧ f i ≤ 57) (hc : 48 ≤ c ∧ c ≤ 57) : ∀ n, 48 ≤ fdW e w f c lo n ∧ fdW e w f c lo n ≤ 57
  | 0 => hc
  | n + 1 => by
    unfold fdW stW
    split
    · exact bst_rg (fdW_rg hf hc n) (hf _ (by omega))
    · split
      · exact bst_rg (fdW_rg hf hc n) (by omega)
      · exact fdW_rg hf hc n
theorem onF_rg {e : Bool} {w k : Nat} {f : Nat → Nat} {x : Nat} (hf : ∀ i, i < w → 48 ≤ f i ∧ f i ≤ 57) (hx : x < w) : 48 ≤ onF e w k f x ∧ onF e w k f x ≤ 57 := fdW_rg hf (hf x hx) _
theorem c4_rg {e : Bool} {w h k : Nat} {c : Nat → Nat → Nat} {x y : Nat} (hc : ∀ i j, i < w → j < h → 48 ≤ c i j ∧ c i j ≤ 57) (hx : x < w) (hy : y < h) : 48 ≤ c4 e w h k c x y ∧ c4 e w h k c x y ≤ 57 :=
  onF_rg (fun j hj => onF_rg (fun i hi => hc i j hi hj) hx) hy
theorem rwB_rg {e : Bool} {f : Nat → Nat} {u0 c : Nat} (hc : 48 ≤ c ∧ c ≤ 57) : ∀ n, (∀ j, j < n → 48 ≤ f (u0 + j) ∧ f (u0 + j) ≤ 57) → 48 ≤ rwB e f u0 c n ∧ rwB e f u0 c n ≤ 57
  | 0, _ => hc
  | n + 1, h => by
    unfold rwB
    exact bst_rg (rwB_rg hc n fun j hj => h j (by omega)) (h n (by omega))
theorem bxB_rg {e : Bool} {c2 : Nat → Nat → Nat} {u0 v0 nu c : Nat} (hc : 48 ≤ c ∧ c ≤ 57) : ∀ n, (∀ a, a < n → ∀ j, j < nu → 48 ≤ c2 (u0 + j) (v0 + a) ∧ c2 (u0 + j) (v0 + a) ≤ 57) → 48 ≤ bxB e c2 u0 v0 nu c n ∧ bxB e c2 u0 v0 nu c n ≤ 57
  | 0, _ => hc
  | n + 1, h => by
    unfold bxB
    exact rwB_rg (bxB_rg hc n fun a ha => h a (by omega)) nu fun j hj => h n (by omega) j hj
end Go.Proofs.YtdkoomcgnaokgaaDoor
