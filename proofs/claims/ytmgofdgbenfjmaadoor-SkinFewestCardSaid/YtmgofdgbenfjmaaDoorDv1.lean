/- Texts joined: DvP, DvQ, DvR, DvS, DvU. Conditions: see each. -/
import Derived.Test.YtmgofdgbenfjmaaDoorFl1
namespace Go.Proofs.YtmgofdgbenfjmaaDoor

/-- a sum over the first n whole numbers -/
def sm : Nat → (Int → Int) → Int
  | 0, _ => 0
  | n + 1, f => sm n f + f n
theorem sm_congr {f g : Int → Int} : ∀ n : Nat, (∀ i : Int, 0 ≤ i → i < n → f i = g i) → sm n f = sm n g
  | 0, _ => rfl
  | n + 1, h => by
    rw [sm, sm, sm_congr n fun i h1 h2 => h i h1 (by omega), h n (by omega) (by omega)]
theorem sm_add (f g : Int → Int) : ∀ n, sm n (fun i => f i + g i) = sm n f + sm n g
  | 0 => rfl
  | n + 1 => by simp only [sm]; rw [sm_add f g n]; omega
theorem sm_mul (k : Int) (f : Int → Int) : ∀ n, sm n (fun i => k * f i) = k * sm n f
  | 0 => by simp [sm]
  | n + 1 => by simp only [sm]; rw [sm_mul k f n, Int.mul_add]
theorem sm_zero : ∀ n, sm n (fun _ => 0) = 0
  | 0 => rfl
  | n + 1 => by simp only [sm]; rw [sm_zero n]; rfl
theorem sm_le {f g : Int → Int} : ∀ n : Nat, (∀ i : Int, 0 ≤ i → i < n → f i ≤ g i) → sm n f ≤ sm n g
  | 0, _ => Int.le_refl _
  | n + 1, h => by
    have h1 := sm_le n fun i h1 h2 => h i h1 (by omega)
    have h2 := h n (by omega) (by omega)
    simp only [sm]; omega
theorem sm_shift {f : Int → Int} (h : f (-1) = 0) : ∀ n, sm (n + 1) (fun i => f (i - 1)) = sm n f
  | 0 => by simp [sm, h]
  | n + 1 => by
    rw [sm, sm_shift h n, sm]
    congr 2
    omega
/-- one point alone -/
theorem sm_one {a : Int} : ∀ n : Nat, 0 ≤ a → a < n → sm n (fun i => if a = i then 1 else 0) = 1
  | 0, h0, h1 => by omega
  | n + 1, h0, h1 => by
    rw [sm]
    by_cases h : a = n
    · have e : sm n (fun i => if a = i then 1 else 0) = sm n (fun _ => 0) := sm_congr n fun i _ h2 => if_neg (by omega)
      rw [e, sm_zero, if_pos h]; rfl
    · rw [sm_one n h0 (by omega), if_neg h]; rfl
/-- a sum over a rectangle of points -/
def sm2 (m n : Nat) (f : Int → Int → Int) : Int := sm n fun y => sm m fun x => f x y
section
variable {m n : Nat} {f g : Int → Int → Int}
theorem sm2_congr (h : ∀ x y : Int, 0 ≤ x → x < m → 0 ≤ y → y < n → f x y = g x y) : sm2 m n f = sm2 m n g := sm_congr n fun y h1 h2 => sm_congr m fun x h3 h4 => h x y h3 h4 h1 h2
theorem sm2_le (h : ∀ x y : Int, 0 ≤ x → x < m → 0 ≤ y → y < n → f x y ≤ g x y) : sm2 m n f ≤ sm2 m n g := sm_le n fun y h1 h2 => sm_le m fun x h3 h4 => h x y h3 h4 h1 h2
theorem sm2_add (f g : Int → Int → Int) : sm2 m n (fun x y => f x y + g x y) = sm2 m n f + sm2 m n g := by
  unfold sm2
  rw [← sm_add]
  exact sm_congr n fun y _ _ => sm_add _ _ m
theorem sm2_mul (k : Int) (f : Int → Int → Int) : sm2 m n (fun x y => k * f x y) = k * sm2 m n f := by
  unfold sm2
  rw [← sm_mul]
  exact sm_congr n fun y _ _ => sm_mul _ _ m
theorem sm2_zero : sm2 m n (fun _ _ => 0) = 0 := by
  have e : sm2 m n (fun _ _ => 0) = sm n (fun _ => 0) := sm_congr n fun y _ _ => sm_zero m
  rw [e, sm_zero]
theorem sm2_shx (h : ∀ y, f (-1) y = 0) (h' : ∀ y, f m y = 0) : sm2 (m + 1) n (fun x y => f (x - 1) y) = sm2 (m + 1) n f := sm_congr n fun y _ _ => by
  show sm (m + 1) (fun x => f (x - 1) y) = sm (m + 1) fun x => f x y
  rw [sm_shift (f := fun x => f x y) (h y), sm, h' y]; omega
theorem sm2_shy (h : ∀ x, f x (-1) = 0) (h' : ∀ x, f x n = 0) : sm2 m (n + 1) (fun x y => f x (y - 1)) = sm2 m (n + 1) f := by
  show sm (n + 1) (fun y => (fun y => sm m fun x => f x y) (y - 1)) = _
  have e : ∀ k : Int, (∀ x, f x k = 0) → sm m (fun x => f x k) = 0 := fun k hk => by
    rw [← sm_zero m]; exact sm_congr m fun x _ _ => hk x
  rw [sm_shift (f := fun y => sm m fun x => f x y) (e _ h)]
  show _ = sm (n + 1) _
  rw [sm, e _ h']; omega
end
/-- 1 for true -/
def b2 : Bool → Int
  | true => 1
  | false => 0
/-- cells, and which neighbours hang together: with the one above, with the one to the left -/
structure Pln where
  u : Int → Int → Bool
  a : Int → Int → Bool
  l : Int → Int → Bool
namespace Pln
variable (p : Pln)
def tl (x y : Int) : Bool := p.u x y && !p.a x y && !p.l x y
def tr (x y : Int) : Bool := p.u x y && !p.a x y && !p.l (x + 1) y
def bl (x y : Int) : Bool := p.u x y && !p.a x (y + 1) && !p.l x y
def br (x y : Int) : Bool := p.u x y && !p.a x (y + 1) && !p.l (x + 1) y
/-- walls: above a cell, to its left -/
def wh (x y : Int) : Bool := p.u x y && p.u x (y - 1) && !p.a x y
def wv (x y : Int) : Bool := p.u x y && p.u (x - 1) y && !p.l x y
/-- walls that end at a corner -/
def eh (x y : Int) : Bool := p.wh (x - 1) y != p.wh x y
def ev (x y : Int) : Bool := p.wv x (y - 1) != p.wv x y
/-- walls that cross there -/
def cr (x y : Int) : Bool := p.wh (x - 1) y && p.wh x y && p.wv x (y - 1) && p.wv x y
end Pln
/-- what the four cells around a corner count -/
def chi (P Q R S : Bool) : Int := (b2 (P && !Q && !R && !S) + b2 (!P && Q && !R && !S) + b2 (!P && !Q && R && !S) + b2 (!P && !Q && !R && S)) - (b2 (!P && Q && R && S) + b2 (P && !Q && R && S) + b2 (P && Q && !R && S) + b2 (P && Q && R && !S)) + 2 * (b2 (P && !Q && !R && S) + b2 (!P && Q && R && !S))
def chiU (u : Int → Int → Bool) (x y : Int) : Int := chi (u (x - 1) (y - 1)) (u x (y - 1)) (u (x - 1) y) (u x y)
theorem corner_at : ∀ P Q R S pq rs pr qs : Bool, (pq = true → P = true ∧ Q = true) → (rs = true → R = true ∧ S = true) → (pr = true → P = true ∧ R = true) → (qs = true → Q = true ∧ S = true) →
    (pq = true → pr = true → rs = true ∧ qs = true) → (pq = true → qs = true → rs = true ∧ pr = true) → (rs = true → pr = true → pq = true ∧ qs = true) → (rs = true → qs = true → pq = true ∧ pr = true) →
    b2 (S && !qs && !rs) + b2 (R && !pr && !rs) + b2 (Q && !qs && !pq) + b2 (P && !pr && !pq) = chi P Q R S + 2 * b2 ((R && P && !pr) != (S && Q && !qs)) + 2 * b2 ((Q && P && !pq) != (S && R && !rs)) + 4 * b2 ((R && P && !pr) && (S && Q && !qs) && (Q && P && !pq) && (S && R && !rs)) := by
  intro P Q R S pq rs pr qs
  cases P <;> cases Q <;> cases R <;> cases S <;> cases pq <;> cases rs <;> cases pr <;> cases qs <;> intro h1 h2 h3 h4 h5 h6 h7 h8 <;> first | rfl | (exfalso; simp at h1; done) | (exfalso; simp at h2; done) | (exfalso; simp at h3; done) | (exfalso; simp at h4; done) | (exfalso; simp at h5; done) | (exfalso; simp at h6; done) | (exfalso; simp at h7; done) | (exfalso; simp at h8; done)
/-- the cells lie within; what hangs together is cells; and no corner has three hanging together -/
structure Pln.Ok (p : Pln) (w h : Nat) : Prop where
  sup : ∀ x y, p.u x y = true → 0 ≤ x ∧ x < w ∧ 0 ≤ y ∧ y < h
  oa : ∀ x y, p.a x y = true → p.u x (y - 1) = true ∧ p.u x y = true
  ol : ∀ x y, p.l x y = true → p.u (x - 1) y = true ∧ p.u x y = true
  c1 : ∀ x y, p.l x (y - 1) = true → p.a (x - 1) y = true → p.l x y = true ∧ p.a x y = true
  c2 : ∀ x y, p.l x (y - 1) = true → p.a x y = true → p.l x y = true ∧ p.a (x - 1) y = true
  c3 : ∀ x y, p.l x y = true → p.a (x - 1) y = true → p.l x (y - 1) = true ∧ p.a x y = true
  c4 : ∀ x y, p.l x y = true → p.a x y = true → p.l x (y - 1) = true ∧ p.a (x - 1) y = true
section
variable {p : Pln} {w h : Nat}
theorem Pln.Ok.out (hp : p.Ok w h) {x y : Int} (hxy : x < 0 ∨ (w : Int) ≤ x ∨ y < 0 ∨ (h : Int) ≤ y) : p.u x y = false := by
  cases hu : p.u x y with
  | false => rfl
  | true => have := hp.sup x y hu; omega
theorem Pln.Ok.at (hp : p.Ok w h) (x y : Int) : b2 (p.tl x y) + b2 (p.tr (x - 1) y) + b2 (p.bl x (y - 1)) + b2 (p.br (x - 1) (y - 1)) = chiU p.u x y + 2 * b2 (p.eh x y) + 2 * b2 (p.ev x y) + 4 * b2 (p.cr x y) := by
  have e1 : x - 1 + 1 = x := by omega
  have e2 : y - 1 + 1 = y := by omega
  unfold Pln.tl Pln.tr Pln.bl Pln.br Pln.eh Pln.ev Pln.cr Pln.wh Pln.wv chiU
  rw [e1, e2]
  exact corner_at _ _ _ _ _ _ _ _ (hp.ol x (y - 1)) (hp.ol x y) (hp.oa (x - 1) y) (hp.oa x y) (hp.c1 x y) (hp.c2 x y) (hp.c3 x y) (hp.c4 x y)
/-- all corners together -/
theorem Pln.Ok.all (hp : p.Ok w h) : sm2 (w + 1) (h + 1) (fun x y => b2 (p.tl x y)) + sm2 (w + 1) (h + 1) (fun x y => b2 (p.tr x y)) + sm2 (w + 1) (h + 1) (fun x y => b2 (p.bl x y)) + sm2 (w + 1) (h + 1) (fun x y => b2 (p.br x y)) =
    sm2 (w + 1) (h + 1) (chiU p.u) + 2 * sm2 (w + 1) (h + 1) (fun x y => b2 (p.eh x y)) + 2 * sm2 (w + 1) (h + 1) (fun x y => b2 (p.ev x y)) + 4 * sm2 (w + 1) (h + 1) (fun x y => b2 (p.cr x y)) := by
  have o : ∀ x y : Int, (x < 0 ∨ (w : Int) ≤ x ∨ y < 0 ∨ (h : Int) ≤ y) → p.u x y = false := fun x y => hp.out
  have z : ∀ {x y : Int} (b : Bool), (x < 0 ∨ (w : Int) ≤ x ∨ y < 0 ∨ (h : Int) ≤ y) → b2 (p.u x y && b) = 0 := fun b hxy => by rw [hp.out hxy]; rfl
  have ztr : ∀ {x y : Int}, (x < 0 ∨ (w : Int) ≤ x ∨ y < 0 ∨ (h : Int) ≤ y) → b2 (p.tr x y) = 0 := fun hxy => by unfold Pln.tr; rw [Bool.and_assoc]; exact z _ hxy
  have zbl : ∀ {x y : Int}, (x < 0 ∨ (w : Int) ≤ x ∨ y < 0 ∨ (h : Int) ≤ y) → b2 (p.bl x y) = 0 := fun hxy => by unfold Pln.bl; rw [Bool.and_assoc]; exact z _ hxy
  have zbr : ∀ {x y : Int}, (x < 0 ∨ (w : Int) ≤ x ∨ y < 0 ∨ (h : Int) ≤ y) → b2 (p.br x y) = 0 := fun hxy => by unfold Pln.br; rw [Bool.and_assoc]; exact z _ hxy
  rw [← sm2_shx (m := w) (f := fun x y => b2 (p.tr x y)) (fun y => ztr (by omega)) (fun y => ztr (by omega)),
    ← sm2_shy (n := h) (f := fun x y => b2 (p.bl x y)) (fun x => zbl (by omega)) (fun x => zbl (by omega)),
    ← sm2_shy (n := h) (f := fun x y => b2 (p.br x y)) (fun x => zbr (by omega)) (fun x => zbr (by omega)),
    ← sm2_shx (m := w) (f := fun x y => b2 (p.br x (y - 1))) (fun y => zbr (by omega)) (fun y => zbr (by omega)),
    ← sm2_mul, ← sm2_mul, ← sm2_mul, ← sm2_add, ← sm2_add, ← sm2_add, ← sm2_add, ← sm2_add, ← sm2_add]
  exact sm2_congr fun x y _ _ _ _ => hp.at x y
end

def inB (b : Bx) (x y : Int) : Bool := decide (b.x0 ≤ x ∧ x ≤ b.x1 ∧ b.y0 ≤ y ∧ y ≤ b.y1)
theorem inB_iff {b : Bx} {x y : Int} : inB b x y = true ↔ b.x0 ≤ x ∧ x ≤ b.x1 ∧ b.y0 ≤ y ∧ y ≤ b.y1 := by unfold inB; exact decide_eq_true_iff
/-- rectangles that cover each cell that is in once, and no other -/
structure Dv (u : Int → Int → Bool) (l : List Bx) : Prop where
  ok : ∀ b ∈ l, b.x0 ≤ b.x1 ∧ b.y0 ≤ b.y1
  cov : ∀ x y, u x y = true ↔ ∃ b ∈ l, inB b x y = true
  dis : l.Pairwise fun b c => ∀ x y, inB b x y = true → inB c x y = true → False
def plnOf (u : Int → Int → Bool) (l : List Bx) : Pln := ⟨u, fun x y => l.any fun b => inB b x (y - 1) && inB b x y, fun x y => l.any fun b => inB b (x - 1) y && inB b x y⟩
theorem pair_uniq : ∀ {l : List Bx}, (l.Pairwise fun b c => ∀ x y, inB b x y = true → inB c x y = true → False) → ∀ {b c : Bx} {x y : Int}, b ∈ l → c ∈ l → inB b x y = true → inB c x y = true → b = c
  | [], _, _, _, _, _, hb, _, _, _ => by cases hb
  | d :: l, h, b, c, x, y, hb, hc, h1, h2 => by
    obtain ⟨h3, h4⟩ := List.pairwise_cons.1 h
    rcases List.mem_cons.1 hb with kb | kb <;> rcases List.mem_cons.1 hc with kc | kc
    · rw [kb, kc]
    · subst kb; exact (h3 c kc x y h1 h2).elim
    · subst kc; exact (h3 b kb x y h2 h1).elim
    · exact pair_uniq h4 kb kc h1 h2
section
variable {u : Int → Int → Bool} {l : List Bx} {w h : Nat}
theorem Dv.uniq (hd : Dv u l) {b c : Bx} {x y : Int} (hb : b ∈ l) (hc : c ∈ l) (h1 : inB b x y = true) (h2 : inB c x y = true) : b = c := pair_uniq hd.dis hb hc h1 h2
theorem oa_iff {x y : Int} : (plnOf u l).a x y = true ↔ ∃ b ∈ l, inB b x (y - 1) = true ∧ inB b x y = true := by
  show (l.any fun b => inB b x (y - 1) && inB b x y) = true ↔ _
  simp
theorem ol_iff {x y : Int} : (plnOf u l).l x y = true ↔ ∃ b ∈ l, inB b (x - 1) y = true ∧ inB b x y = true := by
  show (l.any fun b => inB b (x - 1) y && inB b x y) = true ↔ _
  simp
theorem Dv.pln (hd : Dv u l) (hs : ∀ x y, u x y = true → 0 ≤ x ∧ x < w ∧ 0 ≤ y ∧ y < h) : (plnOf u l).Ok w h := by
  refine ⟨hs, fun x y ha => ?_, fun x y ha => ?_, fun x y h1 h2 => ?_, fun x y h1 h2 => ?_, fun x y h1 h2 => ?_, fun x y h1 h2 => ?_⟩
  · obtain ⟨b, hb, k1, k2⟩ := oa_iff.1 ha
    exact ⟨(hd.cov _ _).2 ⟨b, hb, k1⟩, (hd.cov _ _).2 ⟨b, hb, k2⟩⟩
  · obtain ⟨b, hb, k1, k2⟩ := ol_iff.1 ha
    exact ⟨(hd.cov _ _).2 ⟨b, hb, k1⟩, (hd.cov _ _).2 ⟨b, hb, k2⟩⟩
  · obtain ⟨b, hb, k1, k2⟩ := ol_iff.1 h1
    obtain ⟨c, hc, k3, k4⟩ := oa_iff.1 h2
    obtain rfl := hd.uniq hb hc k1 k3
    rw [inB_iff] at k1 k2 k3 k4
    exact ⟨ol_iff.2 ⟨b, hb, inB_iff.2 (by omega), inB_iff.2 (by omega)⟩, oa_iff.2 ⟨b, hb, inB_iff.2 (by omega), inB_iff.2 (by omega)⟩⟩
  · obtain ⟨b, hb, k1, k2⟩ := ol_iff.1 h1
    obtain ⟨c, hc, k3, k4⟩ := oa_iff.1 h2
    obtain rfl := hd.uniq hb hc k2 k3
    rw [inB_iff] at k1 k2 k3 k4
    exact ⟨ol_iff.2 ⟨b, hb, inB_iff.2 (by omega), inB_iff.2 (by omega)⟩, oa_iff.2 ⟨b, hb, inB_iff.2 (by omega), inB_iff.2 (by omega)⟩⟩
  · obtain ⟨b, hb, k1, k2⟩ := ol_iff.1 h1
    obtain ⟨c, hc, k3, k4⟩ := oa_iff.1 h2
    obtain rfl := hd.uniq hb hc k1 k4
    rw [inB_iff] at k1 k2 k3 k4
    exact ⟨ol_iff.2 ⟨b, hb, inB_iff.2 (by omega), inB_iff.2 (by omega)⟩, oa_iff.2 ⟨b, hb, inB_iff.2 (by omega), inB_iff.2 (by omega)⟩⟩
  · obtain ⟨b, hb, k1, k2⟩ := ol_iff.1 h1
    obtain ⟨c, hc, k3, k4⟩ := oa_iff.1 h2
    obtain rfl := hd.uniq hb hc k2 k4
    rw [inB_iff] at k1 k2 k3 k4
    exact ⟨ol_iff.2 ⟨b, hb, inB_iff.2 (by omega), inB_iff.2 (by omega)⟩, oa_iff.2 ⟨b, hb, inB_iff.2 (by omega), inB_iff.2 (by omega)⟩⟩
/-- how many have their corner there -/
def cn {α : Type} (f : α → Cel) : List α → Int → Int → Int
  | [], _, _ => 0
  | b :: l, x, y => (if (f b).1 = x ∧ (f b).2 = y then 1 else 0) + cn f l x y
theorem sm2_one {a c : Int} {m n : Nat} (h1 : 0 ≤ a) (h2 : a < m) (h3 : 0 ≤ c) (h4 : c < n) : sm2 m n (fun x y => if a = x ∧ c = y then 1 else 0) = 1 := by
  refine Eq.trans (sm_congr n fun y _ _ => ?_) (sm_one (a := c) n h3 h4)
  by_cases hy : c = y
  · rw [if_pos hy]
    refine Eq.trans (sm_congr m fun x _ _ => ?_) (sm_one (a := a) m h1 h2)
    by_cases hx : a = x
    · exact (if_pos ⟨hx, hy⟩).trans (if_pos hx).symm
    · exact (if_neg (fun e => hx e.1)).trans (if_neg hx).symm
  · rw [if_neg hy]
    exact (sm_congr m fun x _ _ => if_neg fun e => hy e.2).trans (sm_zero m)
theorem cn_sum {α : Type} {f : α → Cel} {m n : Nat} : ∀ l : List α, (∀ b ∈ l, 0 ≤ (f b).1 ∧ (f b).1 < m ∧ 0 ≤ (f b).2 ∧ (f b).2 < n) → sm2 m n (cn f l) = l.length
  | [], _ => sm2_zero
  | b :: l, hl => by
    have h1 := hl b (by simp)
    have e : sm2 m n (cn f (b :: l)) = sm2 m n (fun x y => if (f b).1 = x ∧ (f b).2 = y then 1 else 0) + sm2 m n (cn f l) := by
      rw [← sm2_add]; rfl
    rw [e, sm2_one h1.1 h1.2.1 h1.2.2.1 h1.2.2.2, cn_sum l fun c hc => hl c (by simp [hc])]
    simp only [List.length_cons]; omega
theorem cn_none {α : Type} {f : α → Cel} {x y : Int} : ∀ l : List α, (∀ b ∈ l, f b ≠ (x, y)) → cn f l x y = 0
  | [], _ => rfl
  | b :: l, hl => by
    rw [cn, cn_none l fun c hc => hl c (by simp [hc]), if_neg (fun e => hl b (by simp) (by ext <;> simp [e.1, e.2]))]; rfl
theorem cn_at {α : Type} {f : α → Cel} {x y : Int} {t : Bool} : ∀ l : List α, (l.Pairwise fun b c => f b ≠ f c) → (t = true ↔ ∃ b ∈ l, f b = (x, y)) → b2 t = cn f l x y
  | [], _, ht => by
    cases t with
    | false => rfl
    | true => obtain ⟨b, hb, _⟩ := ht.1 rfl; cases hb
  | b :: l, hp, ht => by
    obtain ⟨h1, h2⟩ := List.pairwise_cons.1 hp
    by_cases hb : f b = (x, y)
    · have e : t = true := ht.2 ⟨b, by simp, hb⟩
      have h1x : (f b).1 = x := by rw [hb]
      have h1y : (f b).2 = y := by rw [hb]
      rw [e, cn, cn_none l fun c hc e => h1 c hc (hb.trans e.symm), if_pos ⟨h1x, h1y⟩]; rfl
    · have h3 : ¬ ((f b).1 = x ∧ (f b).2 = y) := fun e => hb (by ext <;> simp [e.1, e.2])
      rw [cn, if_neg h3, cn_at l h2 (t := t) ⟨fun h => by
        obtain ⟨c, hc, e⟩ := ht.1 h
        rcases List.mem_cons.1 hc with rfl | hc
        · exact absurd e hb
        · exact ⟨c, hc, e⟩, fun ⟨c, hc, e⟩ => ht.2 ⟨c, by simp [hc], e⟩⟩]
      omega
theorem Dv.pair (hd : Dv u l) {f : Bx → Cel} (hf : ∀ b ∈ l, inB b (f b).1 (f b).2 = true) : l.Pairwise fun b c => f b ≠ f c :=
  (List.pairwise_iff_forall_sublist.2 fun {b c} hs e => by
    have hb : b ∈ l := hs.subset (by simp)
    have hc : c ∈ l := hs.subset (by simp)
    exact (List.pairwise_iff_forall_sublist.1 hd.dis hs) _ _ (hf b hb) (by rw [e]; exact hf c hc))
/-- one corner's count -/
theorem Dv.count (hd : Dv u l) (hs : ∀ x y, u x y = true → 0 ≤ x ∧ x < w ∧ 0 ≤ y ∧ y < h) {f : Bx → Cel} {t : Int → Int → Bool} (hf : ∀ b ∈ l, inB b (f b).1 (f b).2 = true) (ht : ∀ x y, t x y = true ↔ ∃ b ∈ l, f b = (x, y)) : sm2 (w + 1) (h + 1) (fun x y => b2 (t x y)) = l.length := by
  rw [← cn_sum (f := f) (m := w + 1) (n := h + 1) l fun b hb => by
    have := hs _ _ ((hd.cov _ _).2 ⟨b, hb, hf b hb⟩); omega]
  exact sm2_congr fun x y _ _ _ _ => cn_at l (hd.pair hf) (ht x y)
theorem and3 {a b c : Bool} : (a && !b && !c) = true ↔ a = true ∧ ¬ b = true ∧ ¬ c = true := by cases a <;> cases b <;> cases c <;> simp
section
variable (hd : Dv u l)
include hd
theorem Dv.ina {x y : Int} {b : Bx} (hb : b ∈ l) (h : inB b x y = true) : (plnOf u l).a x y = true ↔ b.y0 < y := by
  have hk := inB_iff.1 h
  refine ⟨fun ha => ?_, fun hy => oa_iff.2 ⟨b, hb, inB_iff.2 (by omega), h⟩⟩
  obtain ⟨c, hc, k1, k2⟩ := oa_iff.1 ha
  obtain rfl := hd.uniq hb hc h k2
  have := inB_iff.1 k1; omega
theorem Dv.inl {x y : Int} {b : Bx} (hb : b ∈ l) (h : inB b x y = true) : (plnOf u l).l x y = true ↔ b.x0 < x := by
  have hk := inB_iff.1 h
  refine ⟨fun ha => ?_, fun hy => ol_iff.2 ⟨b, hb, inB_iff.2 (by omega), h⟩⟩
  obtain ⟨c, hc, k1, k2⟩ := ol_iff.1 ha
  obtain rfl := hd.uniq hb hc h k2
  have := inB_iff.1 k1; omega
theorem Dv.inb {x y : Int} {b : Bx} (hb : b ∈ l) (h : inB b x y = true) : (plnOf u l).a x (y + 1) = true ↔ y < b.y1 := by
  have hk := inB_iff.1 h
  have e : y + 1 - 1 = y := by omega
  refine ⟨fun ha => ?_, fun hy => oa_iff.2 ⟨b, hb, by rw [e]; exact h, inB_iff.2 (by omega)⟩⟩
  obtain ⟨c, hc, k1, k2⟩ := oa_iff.1 ha
  rw [e] at k1
  obtain rfl := hd.uniq hb hc h k1
  have := inB_iff.1 k2; omega
theorem Dv.inr {x y : Int} {b : Bx} (hb : b ∈ l) (h : inB b x y = true) : (plnOf u l).l (x + 1) y = true ↔ x < b.x1 := by
  have hk := inB_iff.1 h
  have e : x + 1 - 1 = x := by omega
  refine ⟨fun ha => ?_, fun hy => ol_iff.2 ⟨b, hb, by rw [e]; exact h, inB_iff.2 (by omega)⟩⟩
  obtain ⟨c, hc, k1, k2⟩ := ol_iff.1 ha
  rw [e] at k1
  obtain rfl := hd.uniq hb hc h k1
  have := inB_iff.1 k2; omega
theorem Dv.tl (x y : Int) : (plnOf u l).tl x y = true ↔ ∃ b ∈ l, ((b.x0, b.y0) : Cel) = (x, y) := by
  unfold Pln.tl
  rw [and3]
  constructor
  · rintro ⟨h1, h2, h3⟩
    obtain ⟨b, hb, hin⟩ := (hd.cov x y).1 h1
    rw [hd.ina hb hin] at h2
    rw [hd.inl hb hin] at h3
    have := inB_iff.1 hin
    exact ⟨b, hb, by ext <;> simp <;> omega⟩
  · rintro ⟨b, hb, e⟩
    have := hd.ok b hb
    have e1 : b.x0 = x := congrArg Prod.fst e
    have e2 : b.y0 = y := congrArg Prod.snd e
    have hin : inB b x y = true := inB_iff.2 (by omega)
    exact ⟨(hd.cov x y).2 ⟨b, hb, hin⟩, by rw [hd.ina hb hin]; omega, by rw [hd.inl hb hin]; omega⟩
theorem Dv.tr (x y : Int) : (plnOf u l).tr x y = true ↔ ∃ b ∈ l, ((b.x1, b.y0) : Cel) = (x, y) := by
  unfold Pln.tr
  rw [and3]
  constructor
  · rintro ⟨h1, h2, h3⟩
    obtain ⟨b, hb, hin⟩ := (hd.cov x y).1 h1
    rw [hd.ina hb hin] at h2
    rw [hd.inr hb hin] at h3
    have := inB_iff.1 hin
    exact ⟨b, hb, by ext <;> simp <;> omega⟩
  · rintro ⟨b, hb, e⟩
    have := hd.ok b hb
    have e1 : b.x1 = x := congrArg Prod.fst e
    have e2 : b.y0 = y := congrArg Prod.snd e
    have hin : inB b x y = true := inB_iff.2 (by omega)
    exact ⟨(hd.cov x y).2 ⟨b, hb, hin⟩, by rw [hd.ina hb hin]; omega, by rw [hd.inr hb hin]; omega⟩
theorem Dv.bl (x y : Int) : (plnOf u l).bl x y = true ↔ ∃ b ∈ l, ((b.x0, b.y1) : Cel) = (x, y) := by
  unfold Pln.bl
  rw [and3]
  constructor
  · rintro ⟨h1, h2, h3⟩
    obtain ⟨b, hb, hin⟩ := (hd.cov x y).1 h1
    rw [hd.inb hb hin] at h2
    rw [hd.inl hb hin] at h3
    have := inB_iff.1 hin
    exact ⟨b, hb, by ext <;> simp <;> omega⟩
  · rintro ⟨b, hb, e⟩
    have := hd.ok b hb
    have e1 : b.x0 = x := congrArg Prod.fst e
    have e2 : b.y1 = y := congrArg Prod.snd e
    have hin : inB b x y = true := inB_iff.2 (by omega)
    exact ⟨(hd.cov x y).2 ⟨b, hb, hin⟩, by rw [hd.inb hb hin]; omega, by rw [hd.inl hb hin]; omega⟩
theorem Dv.br (x y : Int) : (plnOf u l).br x y = true ↔ ∃ b ∈ l, ((b.x1, b.y1) : Cel) = (x, y) := by
  unfold Pln.br
  rw [and3]
  constructor
  · rintro ⟨h1, h2, h3⟩
    obtain ⟨b, hb, hin⟩ := (hd.cov x y).1 h1
    rw [hd.inb hb hin] at h2
    rw [hd.inr hb hin] at h3
    have := inB_iff.1 hin
    exact ⟨b, hb, by ext <;> simp <;> omega⟩
  · rintro ⟨b, hb, e⟩
    have := hd.ok b hb
    have e1 : b.x1 = x := congrArg Prod.fst e
    have e2 : b.y1 = y := congrArg Prod.snd e
    have hin : inB b x y = true := inB_iff.2 (by omega)
    exact ⟨(hd.cov x y).2 ⟨b, hb, hin⟩, by rw [hd.inb hb hin]; omega, by rw [hd.inr hb hin]; omega⟩
/-- how many rectangles: by corners, ends of walls and crossings -/
theorem Dv.four (hs : ∀ x y, u x y = true → 0 ≤ x ∧ x < w ∧ 0 ≤ y ∧ y < h) : 4 * (l.length : Int) = sm2 (w + 1) (h + 1) (chiU u) + 2 * sm2 (w + 1) (h + 1) (fun x y => b2 ((plnOf u l).eh x y)) + 2 * sm2 (w + 1) (h + 1) (fun x y => b2 ((plnOf u l).ev x y)) + 4 * sm2 (w + 1) (h + 1) (fun x y => b2 ((plnOf u l).cr x y)) := by
  have h0 := (hd.pln hs).all
  have hin : ∀ b ∈ l, ∀ x y, b.x0 ≤ x → x ≤ b.x1 → b.y0 ≤ y → y ≤ b.y1 → inB b x y = true := fun b _ x y h1 h2 h3 h4 => inB_iff.2 ⟨h1, h2, h3, h4⟩
  have r := fun b hb => hd.ok b hb
  rw [hd.count hs (f := fun b => (b.x0, b.y0)) (fun b hb => hin b hb _ _ (by omega) (r b hb).1 (by omega) (r b hb).2) hd.tl,
    hd.count hs (f := fun b => (b.x1, b.y0)) (fun b hb => hin b hb _ _ (r b hb).1 (by omega) (by omega) (r b hb).2) hd.tr,
    hd.count hs (f := fun b => (b.x0, b.y1)) (fun b hb => hin b hb _ _ (by omega) (r b hb).1 (r b hb).2 (by omega)) hd.bl,
    hd.count hs (f := fun b => (b.x1, b.y1)) (fun b hb => hin b hb _ _ (r b hb).1 (by omega) (r b hb).2 (by omega)) hd.br] at h0
  exact Eq.trans (by omega) h0
end
end

theorem b2_nn (b : Bool) : 0 ≤ b2 b := by cases b <;> decide
theorem b2_le (b : Bool) : b2 b ≤ 1 := by cases b <;> decide
section
variable {u q d : Int → Bool}
/-- what a scan along a line keeps: the ends of walls met, those at marked corners, the walls from marked to marked -/
def Lin (u q d : Int → Bool) (n : Nat) : Prop :=
  ∃ S : Int, (u ((n : Int) - 1) = false ∧ sm n (fun i => b2 (u (i - 1) != u i)) = 2 * S ∧ sm n (fun i => b2 (q i && (u (i - 1) || u i))) ≤ S + sm n (fun i => b2 (d i))) ∨
    (u ((n : Int) - 1) = true ∧ sm n (fun i => b2 (u (i - 1) != u i)) = 2 * S - 1 ∧ ∃ s : Int, 0 ≤ s ∧ s < n ∧ u (s - 1) = false ∧ (∀ i : Int, s ≤ i → i < n → u i = true) ∧ sm n (fun i => b2 (q i && (u (i - 1) || u i))) + 1 - b2 (q s) ≤ S + sm n (fun i => b2 (d i)))
theorem lin_step (hq : ∀ i, q i = true → u (i - 1) = true → u i = true → False) (hd : ∀ s n : Int, s < n → (∀ i : Int, s ≤ i → i < n → u i = true) → u (s - 1) = false → u n = false → q s = true → q n = true → d n = true)
    (n : Nat) (h : Lin u q d n) : Lin u q d (n + 1) := by
  have e1 : ((n + 1 : Nat) : Int) - 1 = n := by omega
  unfold Lin at h ⊢
  rw [e1]
  simp only [sm]
  have hdn := b2_nn (d n)
  have hql := b2_le (q n)
  obtain ⟨S, ⟨h1, h2, h3⟩ | ⟨h1, h2, s, s1, s2, s3, s4, h3⟩⟩ := h
  · rw [h1]
    cases hu : u n with
    | false =>
      refine ⟨S, .inl ⟨rfl, ?_, ?_⟩⟩
      · rw [h2]; simp [b2]
      · have e : b2 (q n && (false || false)) = 0 := by cases q n <;> rfl
        rw [e]; omega
    | true =>
      refine ⟨S + 1, .inr ⟨rfl, ?_, n, by omega, by omega, h1, fun i k1 k2 => ?_, ?_⟩⟩
      · rw [h2]; simp [b2]; omega
      · have : i = n := by omega
        rw [this]; exact hu
      · have e : b2 (q n && (false || true)) = b2 (q n) := by cases q n <;> rfl
        rw [e]; omega
  · rw [h1]
    have hsq := b2_nn (q s)
    cases hu : u n with
    | false =>
      refine ⟨S, .inl ⟨rfl, ?_, ?_⟩⟩
      · rw [h2]; simp [b2]
      · have e : b2 (q n && (true || false)) = b2 (q n) := by cases q n <;> rfl
        rw [e]
        have k : b2 (q n) ≤ (1 - b2 (q s)) + b2 (d n) := by
          have f0 : b2 false = 0 := rfl
          have f1 : b2 true = 1 := rfl
          have f2 := b2_le (q s)
          cases hqn : q n with
          | false => rw [f0]; omega
          | true =>
            cases hqs : q s with
            | false => rw [f0, f1]; omega
            | true =>
              rw [hd s n s2 s4 s3 hu hqs hqn, f1]; omega
        omega
    | true =>
      refine ⟨S, .inr ⟨rfl, ?_, s, s1, by omega, s3, fun i k1 k2 => ?_, ?_⟩⟩
      · rw [h2]; simp [b2]
      · by_cases hi : i < n
        · exact s4 i k1 hi
        · have : i = n := by omega
          rw [this]; exact hu
      · have e : b2 (q n && (true || true)) = 0 := by
          cases hqn : q n with
          | false => rfl
          | true => exact (hq n hqn h1 hu).elim
        rw [e]; omega
/-- along a line: ends of walls, those at marked corners, walls from marked to marked -/
theorem lin_all {n : Nat} (h0 : u (-1) = false) (hn : u n = false) (hq : ∀ i, q i = true → u (i - 1) = true → u i = true → False) (hd : ∀ s n : Int, s < n → (∀ i : Int, s ≤ i → i < n → u i = true) → u (s - 1) = false → u n = false → q s = true → q n = true → d n = true) :
    2 * sm (n + 1) (fun i => b2 (q i && (u (i - 1) || u i))) ≤ sm (n + 1) (fun i => b2 (u (i - 1) != u i)) + 2 * sm (n + 1) (fun i => b2 (d i)) := by
  have all : ∀ k, Lin u q d k := fun k => by
    induction k with
    | zero => exact ⟨0, .inl ⟨h0, rfl, by simp [sm]⟩⟩
    | succ k ih => exact lin_step hq hd k ih
  obtain ⟨S, ⟨h1, h2, h3⟩ | ⟨h1, _⟩⟩ := all (n + 1)
  · rw [h2]; omega
  · rw [show ((n + 1 : Nat) : Int) - 1 = n by omega, hn] at h1; cases h1
end
theorem sm_swap (f : Int → Int → Int) (m : Nat) : ∀ n : Nat, sm n (fun y => sm m fun x => f x y) = sm m fun x => sm n fun y => f x y
  | 0 => by simp only [sm]; exact (sm_zero m).symm
  | n + 1 => by simp only [sm]; rw [sm_swap f m n, ← sm_add]
/-- a corner with just three cells around it -/
def q3 (u : Int → Int → Bool) (x y : Int) : Bool := (!u (x - 1) (y - 1) && u x (y - 1) && u (x - 1) y && u x y) || (u (x - 1) (y - 1) && !u x (y - 1) && u (x - 1) y && u x y) || (u (x - 1) (y - 1) && u x (y - 1) && !u (x - 1) y && u x y) || (u (x - 1) (y - 1) && u x (y - 1) && u (x - 1) y && !u x y)
def fl (u : Int → Int → Bool) (x y : Int) : Bool := u x (y - 1) && u x y
def stp (u : Int → Int → Bool) (x y : Int) : Bool := u (x - 1) y && u x y
abbrev Chd := Cel × Cel
def isF (u : Int → Int → Bool) (c : Chd) : Prop := c.1.2 = c.2.2 ∧ c.1.1 < c.2.1 ∧ q3 u c.1.1 c.1.2 = true ∧ q3 u c.2.1 c.2.2 = true ∧ ∀ x, c.1.1 ≤ x → x < c.2.1 → fl u x c.1.2 = true
def isS (u : Int → Int → Bool) (c : Chd) : Prop := c.1.1 = c.2.1 ∧ c.1.2 < c.2.2 ∧ q3 u c.1.1 c.1.2 = true ∧ q3 u c.2.1 c.2.2 = true ∧ ∀ y, c.1.2 ≤ y → y < c.2.2 → stp u c.1.1 y = true
def meetC (a b : Chd) : Bool := decide (a.1.1 ≤ b.1.1 ∧ b.1.1 ≤ a.2.1 ∧ b.1.2 ≤ a.1.2 ∧ a.1.2 ≤ b.2.2)
theorem q3_fl {u : Int → Int → Bool} {x y : Int} (h : q3 u x y = true) : fl u (x - 1) y = !fl u x y := by
  unfold q3 at h; unfold fl
  revert h
  cases u (x - 1) (y - 1) <;> cases u x (y - 1) <;> cases u (x - 1) y <;> cases u x y <;> simp
theorem q3_stp {u : Int → Int → Bool} {x y : Int} (h : q3 u x y = true) : stp u x (y - 1) = !stp u x y := by
  unfold q3 at h; unfold stp
  revert h
  cases u (x - 1) (y - 1) <;> cases u x (y - 1) <;> cases u (x - 1) y <;> cases u x y <;> simp
theorem wh_fl {p : Pln} {x y : Int} (h : p.wh x y = true) : fl p.u x y = true := by
  unfold Pln.wh at h; unfold fl
  revert h
  cases p.u x y <;> cases p.u x (y - 1) <;> simp
theorem wv_stp {p : Pln} {x y : Int} (h : p.wv x y = true) : stp p.u x y = true := by
  unfold Pln.wv at h; unfold stp
  revert h
  cases p.u x y <;> cases p.u (x - 1) y <;> simp

def walF (p : Pln) (c : Chd) : Bool := (List.range (c.2.1 - c.1.1).toNat).all fun i => p.wh (c.1.1 + i) c.1.2
def walS (p : Pln) (c : Chd) : Bool := (List.range (c.2.2 - c.1.2).toNat).all fun i => p.wv c.1.1 (c.1.2 + i)
theorem walF_iff {p : Pln} {c : Chd} : walF p c = true ↔ ∀ x, c.1.1 ≤ x → x < c.2.1 → p.wh x c.1.2 = true := by
  unfold walF
  rw [List.all_eq_true]
  constructor
  · intro h x h1 h2
    have := h (x - c.1.1).toNat (List.mem_range.2 (by omega))
    rw [show c.1.1 + ((x - c.1.1).toNat : Int) = x by omega] at this
    exact this
  · intro h i hi
    rw [List.mem_range] at hi
    exact h _ (by omega) (by omega)
theorem walS_iff {p : Pln} {c : Chd} : walS p c = true ↔ ∀ y, c.1.2 ≤ y → y < c.2.2 → p.wv c.1.1 y = true := by
  unfold walS
  rw [List.all_eq_true]
  constructor
  · intro h x h1 h2
    have := h (x - c.1.2).toNat (List.mem_range.2 (by omega))
    rw [show c.1.2 + ((x - c.1.2).toNat : Int) = x by omega] at this
    exact this
  · intro h i hi
    rw [List.mem_range] at hi
    exact h _ (by omega) (by omega)
section
variable {u : Int → Int → Bool} {a b : Chd}
/-- two flat chords in a row with a point in common are one -/
theorem flat_uniq (ha : isF u a) (hb : isF u b) (hr : a.1.2 = b.1.2) {x : Int} (h1 : a.1.1 ≤ x) (h2 : x ≤ a.2.1) (h3 : b.1.1 ≤ x) (h4 : x ≤ b.2.1) : a = b := by
  obtain ⟨a1, a2, a3, a4, a5⟩ := ha
  obtain ⟨b1, b2, b3, b4, b5⟩ := hb
  have no : ∀ z, q3 u z a.1.2 = true → fl u (z - 1) a.1.2 = true → fl u z a.1.2 = true → False := fun z k1 k2 k3 => by
    have := q3_fl k1; rw [k2, k3] at this; cases this
  have l1 : ¬ a.1.1 < b.1.1 := fun h => no b.1.1 (by rw [hr]; exact b3) (a5 _ (by omega) (by omega)) (by rw [hr]; exact b5 _ (by omega) (by omega))
  have l2 : ¬ b.1.1 < a.1.1 := fun h => no a.1.1 a3 (by rw [hr]; exact b5 _ (by omega) (by omega)) (a5 _ (by omega) (by omega))
  have l3 : ¬ a.2.1 < b.2.1 := fun h => no a.2.1 (by rw [a1]; exact a4) (a5 _ (by omega) (by omega)) (by rw [hr]; exact b5 _ (by omega) (by omega))
  have l4 : ¬ b.2.1 < a.2.1 := fun h => no b.2.1 (by rw [hr, b1]; exact b4) (by rw [hr]; exact b5 _ (by omega) (by omega)) (a5 _ (by omega) (by omega))
  have e1 : a.1 = b.1 := Prod.ext (by omega) hr
  have e2 : a.2 = b.2 := Prod.ext (by omega) (by omega)
  exact Prod.ext e1 e2
theorem steep_uniq (ha : isS u a) (hb : isS u b) (hr : a.1.1 = b.1.1) {y : Int} (h1 : a.1.2 ≤ y) (h2 : y ≤ a.2.2) (h3 : b.1.2 ≤ y) (h4 : y ≤ b.2.2) : a = b := by
  obtain ⟨a1, a2, a3, a4, a5⟩ := ha
  obtain ⟨b1, b2, b3, b4, b5⟩ := hb
  have no : ∀ z, q3 u a.1.1 z = true → stp u a.1.1 (z - 1) = true → stp u a.1.1 z = true → False := fun z k1 k2 k3 => by
    have := q3_stp k1; rw [k2, k3] at this; cases this
  have l1 : ¬ a.1.2 < b.1.2 := fun h => no b.1.2 (by rw [hr]; exact b3) (a5 _ (by omega) (by omega)) (by rw [hr]; exact b5 _ (by omega) (by omega))
  have l2 : ¬ b.1.2 < a.1.2 := fun h => no a.1.2 a3 (by rw [hr]; exact b5 _ (by omega) (by omega)) (a5 _ (by omega) (by omega))
  have l3 : ¬ a.2.2 < b.2.2 := fun h => no a.2.2 (by rw [a1]; exact a4) (a5 _ (by omega) (by omega)) (by rw [hr]; exact b5 _ (by omega) (by omega))
  have l4 : ¬ b.2.2 < a.2.2 := fun h => no b.2.2 (by rw [hr, b1]; exact b4) (by rw [hr]; exact b5 _ (by omega) (by omega)) (a5 _ (by omega) (by omega))
  have e1 : a.1 = b.1 := Prod.ext hr (by omega)
  have e2 : a.2 = b.2 := Prod.ext (by omega) (by omega)
  exact Prod.ext e1 e2
end
theorem q3_in {u : Int → Int → Bool} {w h : Nat} (hs : ∀ x y, u x y = true → 0 ≤ x ∧ x < w ∧ 0 ≤ y ∧ y < h) {x y : Int} (hq : q3 u x y = true) : 0 ≤ x ∧ x < (w + 1 : Nat) ∧ 0 ≤ y ∧ y < (h + 1 : Nat) := by
  have o : u (x - 1) (y - 1) = true ∨ u x y = true := by
    unfold q3 at hq
    revert hq
    cases u (x - 1) (y - 1) <;> cases u x (y - 1) <;> cases u (x - 1) y <;> cases u x y <;> simp
  rcases o with o | o <;> have := hs _ _ o <;> omega
/-- a list without a double whose points satisfy t: no longer than their number -/
theorem cn_le {α : Type} {f : α → Cel} {t : Int → Int → Bool} {m n : Nat} {l : List α} (hp : l.Pairwise fun b c => f b ≠ f c) (hl : ∀ b ∈ l, 0 ≤ (f b).1 ∧ (f b).1 < m ∧ 0 ≤ (f b).2 ∧ (f b).2 < n) (ht : ∀ b ∈ l, t (f b).1 (f b).2 = true) : (l.length : Int) ≤ sm2 m n (fun x y => b2 (t x y)) := by
  rw [← cn_sum l hl]
  refine sm2_le fun x y _ _ _ _ => ?_
  by_cases h : ∃ b ∈ l, f b = (x, y)
  · rw [← cn_at (t := true) l hp ⟨fun _ => h, fun _ => rfl⟩]
    obtain ⟨b, hb, e⟩ := h
    have := ht b hb
    rw [e] at this
    rw [this]; exact Int.le_refl _
  · rw [← cn_at (t := false) l hp ⟨fun e => by (cases e), fun e => absurd e h⟩]
    exact b2_nn _
theorem pair_of {α : Type} {f : α → Cel} {l : List α} (hn : l.Nodup) (h : ∀ a ∈ l, ∀ b ∈ l, f a = f b → a = b) : l.Pairwise fun b c => f b ≠ f c :=
  List.pairwise_iff_forall_sublist.2 fun {b c} hs e => List.pairwise_iff_forall_sublist.1 hn hs (h b (hs.subset (by simp)) c (hs.subset (by simp)) e)
section
variable {p : Pln} {w h : Nat} {F S : List Chd}
def hw (p : Pln) (x y : Int) : Bool := p.wh (x - 1) y || p.wh x y
def vw (p : Pln) (x y : Int) : Bool := p.wv x (y - 1) || p.wv x y
theorem wh_out (hp : p.Ok w h) {x y : Int} (hx : x < 0 ∨ (w : Int) ≤ x) : p.wh x y = false := by
  unfold Pln.wh; rw [hp.out (by omega)]; rfl
theorem wv_out (hp : p.Ok w h) {x y : Int} (hx : y < 0 ∨ (h : Int) ≤ y) : p.wv x y = false := by
  unfold Pln.wv; rw [hp.out (by omega)]; rfl
theorem rows_low (hp : p.Ok w h) (hF : ∀ c, isF p.u c → c ∈ F) : 2 * sm2 (w + 1) (h + 1) (fun x y => b2 (q3 p.u x y && hw p x y)) ≤ sm2 (w + 1) (h + 1) (fun x y => b2 (p.eh x y)) + 2 * sm2 (w + 1) (h + 1) (fun x y => b2 (F.any fun c => walF p c && decide (c.2 = (x, y)))) := by
  rw [← sm2_mul, ← sm2_mul, ← sm2_add]
  refine sm_le (h + 1) fun y _ _ => ?_
  show sm (w + 1) (fun x => 2 * b2 (q3 p.u x y && hw p x y)) ≤ sm (w + 1) fun x => b2 (p.eh x y) + 2 * b2 (F.any fun c => walF p c && decide (c.2 = (x, y)))
  rw [sm_mul, sm_add, sm_mul]
  refine lin_all (u := fun x => p.wh x y) (q := fun x => q3 p.u x y) (d := fun x => F.any fun c => walF p c && decide (c.2 = (x, y))) (wh_out hp (by omega)) (wh_out hp (by omega)) (fun i h1 h2 h3 => ?_) (fun s n hsn hu _ _ hs hn => ?_)
  · have := q3_fl h1
    rw [wh_fl h2, wh_fl h3] at this; cases this
  · rw [List.any_eq_true]
    refine ⟨((s, y), (n, y)), hF _ ⟨rfl, hsn, hs, hn, fun x h1 h2 => wh_fl (hu x h1 h2)⟩, ?_⟩
    rw [walF_iff.2 fun x h1 h2 => hu x h1 h2]; simp
theorem cols_low (hp : p.Ok w h) (hS : ∀ c, isS p.u c → c ∈ S) : 2 * sm2 (w + 1) (h + 1) (fun x y => b2 (q3 p.u x y && vw p x y)) ≤ sm2 (w + 1) (h + 1) (fun x y => b2 (p.ev x y)) + 2 * sm2 (w + 1) (h + 1) (fun x y => b2 (S.any fun c => walS p c && decide (c.2 = (x, y)))) := by
  rw [← sm2_mul, ← sm2_mul, ← sm2_add]
  unfold sm2
  rw [sm_swap (fun x y => 2 * b2 (q3 p.u x y && vw p x y)), sm_swap (fun x y => b2 (p.ev x y) + 2 * b2 (S.any fun c => walS p c && decide (c.2 = (x, y))))]
  refine sm_le (w + 1) fun x _ _ => ?_
  rw [sm_mul, sm_add, sm_mul]
  refine lin_all (u := fun y => p.wv x y) (q := fun y => q3 p.u x y) (d := fun y => S.any fun c => walS p c && decide (c.2 = (x, y))) (wv_out hp (by omega)) (wv_out hp (by omega)) (fun i h1 h2 h3 => ?_) (fun s n hsn hu _ _ hs hn => ?_)
  · have := q3_stp h1
    rw [wv_stp h2, wv_stp h3] at this; cases this
  · rw [List.any_eq_true]
    refine ⟨((x, s), (x, n)), hS _ ⟨rfl, hsn, hs, hn, fun y h1 h2 => wv_stp (hu y h1 h2)⟩, ?_⟩
    rw [walS_iff.2 fun y h1 h2 => hu y h1 h2]; simp
/-- each corner with three cells has a wall -/
theorem q3_wall (hp : p.Ok w h) {x y : Int} (hq : q3 p.u x y = true) : hw p x y = true ∨ vw p x y = true := by
  have k1 := hp.c1 x y
  have k2 := hp.c2 x y
  have k3 := hp.c3 x y
  have k4 := hp.c4 x y
  have o1 := hp.ol x (y - 1)
  have o2 := hp.ol x y
  have o3 := hp.oa (x - 1) y
  have o4 := hp.oa x y
  unfold hw vw Pln.wh Pln.wv
  unfold q3 at hq
  revert hq k1 k2 k3 k4 o1 o2 o3 o4
  generalize p.u (x - 1) (y - 1) = P
  generalize p.u x (y - 1) = Q
  generalize p.u (x - 1) y = R
  generalize p.u x y = T
  generalize p.l x (y - 1) = pq
  generalize p.l x y = rs
  generalize p.a (x - 1) y = pr
  generalize p.a x y = qs
  cases P <;> cases Q <;> cases R <;> cases T <;> cases pq <;> cases rs <;> cases pr <;> cases qs <;> simp
theorem walls_low (hp : p.Ok w h) : sm2 (w + 1) (h + 1) (fun x y => b2 (q3 p.u x y)) + sm2 (w + 1) (h + 1) (fun x y => b2 (q3 p.u x y && hw p x y && vw p x y)) ≤ sm2 (w + 1) (h + 1) (fun x y => b2 (q3 p.u x y && hw p x y)) + sm2 (w + 1) (h + 1) (fun x y => b2 (q3 p.u x y && vw p x y)) := by
  rw [← sm2_add, ← sm2_add]
  refine sm2_le fun x y _ _ _ _ => ?_
  cases hq : q3 p.u x y with
  | false => exact Int.le_refl _
  | true =>
    rcases q3_wall hp hq with e | e
    · rw [e]; cases vw p x y <;> decide
    · rw [e]; cases hw p x y <;> decide
theorem any_mem {α : Type} {L : List α} {g : α → Bool} {f : α → Cel} {x y : Int} : (L.any fun c => g c && decide (f c = (x, y))) = true ↔ ∃ c ∈ L.filter g, f c = (x, y) := by
  rw [List.any_eq_true]
  constructor
  · rintro ⟨c, hc, e⟩
    simp at e
    exact ⟨c, List.mem_filter.2 ⟨hc, e.1⟩, e.2⟩
  · rintro ⟨c, hc, e⟩
    obtain ⟨h1, h2⟩ := List.mem_filter.1 hc
    exact ⟨c, h1, by simp [h2, e]⟩
theorem filter_two {α : Type} (g k : α → Bool) : ∀ l : List α, (l.filter g).length = (l.filter fun a => g a && !k a).length + (l.filter fun a => g a && k a).length
  | [] => rfl
  | a :: l => by
    have := filter_two g k l
    rw [List.filter_cons, List.filter_cons, List.filter_cons]
    cases g a <;> cases k a <;> simp [this] <;> omega
/-- how many chords are walled all along -/
theorem ends_F (hs : ∀ x y, p.u x y = true → 0 ≤ x ∧ x < w ∧ 0 ≤ y ∧ y < h) (hn : F.Nodup) (hF : ∀ c ∈ F, isF p.u c) : sm2 (w + 1) (h + 1) (fun x y => b2 (F.any fun c => walF p c && decide (c.2 = (x, y)))) = (F.filter (walF p)).length := by
  have hm : ∀ c ∈ F.filter (walF p), isF p.u c := fun c hc => hF c (List.mem_filter.1 hc).1
  have hpw : (F.filter (walF p)).Pairwise fun b c => b.2 ≠ c.2 := pair_of (f := fun c : Chd => c.2) (hn.filter _) fun a ha b hb e => by
    have ka := hm a ha
    have kb := hm b hb
    have ea := ka.1
    have eb := kb.1
    have l1 := ka.2.1
    have l2 := kb.2.1
    have e : a.2 = b.2 := e
    exact flat_uniq ka kb (by rw [ea, eb, e]) (x := a.2.1) (by omega) (by omega) (by rw [e]; omega) (by rw [e]; omega)
  rw [← cn_sum (f := fun c : Chd => c.2) (m := w + 1) (n := h + 1) _ fun c hc => q3_in hs (hm c hc).2.2.2.1]
  exact sm2_congr fun x y _ _ _ _ => cn_at _ hpw any_mem
theorem ends_S (hs : ∀ x y, p.u x y = true → 0 ≤ x ∧ x < w ∧ 0 ≤ y ∧ y < h) (hn : S.Nodup) (hS : ∀ c ∈ S, isS p.u c) : sm2 (w + 1) (h + 1) (fun x y => b2 (S.any fun c => walS p c && decide (c.2 = (x, y)))) = (S.filter (walS p)).length := by
  have hm : ∀ c ∈ S.filter (walS p), isS p.u c := fun c hc => hS c (List.mem_filter.1 hc).1
  have hpw : (S.filter (walS p)).Pairwise fun b c => b.2 ≠ c.2 := pair_of (f := fun c : Chd => c.2) (hn.filter _) fun a ha b hb e => by
    have ka := hm a ha
    have kb := hm b hb
    have ea := ka.1
    have eb := kb.1
    have l1 := ka.2.1
    have l2 := kb.2.1
    have e : a.2 = b.2 := e
    exact steep_uniq ka kb (by rw [ea, eb, e]) (y := a.2.2) (by omega) (by omega) (by rw [e]; omega) (by rw [e]; omega)
  rw [← cn_sum (f := fun c : Chd => c.2) (m := w + 1) (n := h + 1) _ fun c hc => q3_in hs (hm c hc).2.2.2.1]
  exact sm2_congr fun x y _ _ _ _ => cn_at _ hpw any_mem
/-- where two walled chords meet: both walls at an inner corner, or a crossing -/
theorem meet_at {a b : Chd} (ha : isF p.u a) (hb : isS p.u b) (wa : walF p a = true) (wb : walS p b = true) (hm : meetC a b = true) : (q3 p.u b.1.1 a.1.2 && hw p b.1.1 a.1.2 && vw p b.1.1 a.1.2 || p.cr b.1.1 a.1.2) = true := by
  unfold meetC at hm
  obtain ⟨m1, m2, m3, m4⟩ := of_decide_eq_true hm
  rw [walF_iff] at wa
  rw [walS_iff] at wb
  obtain ⟨a1, a2, a3, a4, a5⟩ := ha
  obtain ⟨b1, b2', b3, b4, b5⟩ := hb
  have hH : hw p b.1.1 a.1.2 = true := by
    unfold hw
    by_cases h : b.1.1 < a.2.1
    · rw [wa _ m1 h, Bool.or_true]
    · rw [wa (b.1.1 - 1) (by omega) (by omega), Bool.true_or]
  have hV : vw p b.1.1 a.1.2 = true := by
    unfold vw
    by_cases h : a.1.2 < b.2.2
    · rw [wb _ m3 h, Bool.or_true]
    · rw [wb (a.1.2 - 1) (by omega) (by omega), Bool.true_or]
  rw [hH, hV, Bool.and_true, Bool.and_true, Bool.or_eq_true]
  by_cases hq : q3 p.u b.1.1 a.1.2 = true
  · exact .inl hq
  · right
    have h1 : a.1.1 ≠ b.1.1 := fun e => hq (by rw [← e]; exact a3)
    have h2 : a.2.1 ≠ b.1.1 := fun e => hq (by rw [← e, a1]; exact a4)
    have h3 : b.1.2 ≠ a.1.2 := fun e => hq (by rw [← e]; exact b3)
    have h4 : b.2.2 ≠ a.1.2 := fun e => hq (by rw [← e, b1]; exact b4)
    unfold Pln.cr
    rw [wa (b.1.1 - 1) (by omega) (by omega), wa b.1.1 (by omega) (by omega), wb (a.1.2 - 1) (by omega) (by omega), wb a.1.2 (by omega) (by omega)]; rfl
/-- walled flat chords that meet a walled steep one: no more than the corners where that may be -/
theorem meets_le (hs : ∀ x y, p.u x y = true → 0 ≤ x ∧ x < w ∧ 0 ≤ y ∧ y < h) (hn : F.Nodup) (hF : ∀ c ∈ F, isF p.u c) (hS : ∀ c ∈ S, isS p.u c) :
    ((F.filter fun a => walF p a && (S.filter (walS p)).any (meetC a)).length : Int) ≤ sm2 (w + 1) (h + 1) (fun x y => b2 (q3 p.u x y && hw p x y && vw p x y)) + sm2 (w + 1) (h + 1) (fun x y => b2 (p.cr x y)) := by
  have e : sm2 (w + 1) (h + 1) (fun x y => b2 (q3 p.u x y && hw p x y && vw p x y || p.cr x y)) ≤ sm2 (w + 1) (h + 1) (fun x y => b2 (q3 p.u x y && hw p x y && vw p x y)) + sm2 (w + 1) (h + 1) (fun x y => b2 (p.cr x y)) := by
    rw [← sm2_add]
    refine sm2_le fun x y _ _ _ _ => ?_
    cases (q3 p.u x y && hw p x y && vw p x y) <;> cases p.cr x y <;> decide
  refine Int.le_trans ?_ e
  have hfind : ∀ a ∈ (F.filter fun a => walF p a && (S.filter (walS p)).any (meetC a)), ∃ b, (S.filter (walS p)).find? (meetC a) = some b ∧ isF p.u a ∧ isS p.u b ∧ walF p a = true ∧ walS p b = true ∧ meetC a b = true := by
    intro a ha
    obtain ⟨h1, h2⟩ := List.mem_filter.1 ha
    rw [Bool.and_eq_true] at h2
    cases hf : (S.filter (walS p)).find? (meetC a) with
    | none =>
      obtain ⟨b, hb, hm⟩ := List.any_eq_true.1 h2.2
      exact absurd hm (by simpa using List.find?_eq_none.1 hf b hb)
    | some b =>
      have hb := List.mem_of_find?_eq_some hf
      obtain ⟨k1, k2⟩ := List.mem_filter.1 hb
      exact ⟨b, rfl, hF a h1, hS b k1, h2.1, k2, List.find?_some hf⟩
  have key : ∀ a ∈ (F.filter fun a => walF p a && (S.filter (walS p)).any (meetC a)), ∀ f : Cel, f = (match (S.filter (walS p)).find? (meetC a) with | some b => (b.1.1, a.1.2) | none => ((0, 0) : Cel)) → (q3 p.u f.1 f.2 && hw p f.1 f.2 && vw p f.1 f.2 || p.cr f.1 f.2) = true ∧ f.2 = a.1.2 ∧ a.1.1 ≤ f.1 ∧ f.1 ≤ a.2.1 := by
    intro a ha f hf
    obtain ⟨b, h1, h2, h3, h4, h5, h6⟩ := hfind a ha
    rw [h1] at hf
    subst hf
    obtain ⟨m1, m2, _, _⟩ := of_decide_eq_true h6
    exact ⟨meet_at h2 h3 h4 h5 h6, rfl, m1, m2⟩
  refine cn_le (f := fun a => match (S.filter (walS p)).find? (meetC a) with | some b => (b.1.1, a.1.2) | none => ((0, 0) : Cel)) (pair_of (hn.filter _) fun a ha b hb e => ?_) (fun a ha => ?_) (fun a ha => (key a ha _ rfl).1)
  · obtain ⟨_, k1, k2, k3⟩ := key a ha _ rfl
    obtain ⟨_, k4, k5, k6⟩ := key b hb _ e
    obtain ⟨_, _, h2, _⟩ := hfind a ha
    obtain ⟨_, _, h3, _⟩ := hfind b hb
    exact flat_uniq h2 h3 (k1.symm.trans k4) k2 k3 k5 k6
  · obtain ⟨k0, _⟩ := key a ha _ rfl
    revert k0
    generalize (match (S.filter (walS p)).find? (meetC a) with | some b => (b.1.1, a.1.2) | none => ((0, 0) : Cel)) = f
    intro k0
    rw [Bool.or_eq_true] at k0
    rcases k0 with k0 | k0
    · rw [Bool.and_assoc, Bool.and_eq_true] at k0
      exact q3_in hs k0.1
    · unfold Pln.cr Pln.wh at k0
      have : p.u f.1 f.2 = true := by
        revert k0
        cases p.u f.1 f.2 <;> simp
      have := hs _ _ this
      omega
/-- so many rectangles at least -/
theorem low (hp : p.Ok w h) (hn : F.Nodup) (hF : ∀ c, c ∈ F ↔ isF p.u c) (hn' : S.Nodup) (hS : ∀ c, c ∈ S ↔ isS p.u c) {K : Nat} (hK : ∀ f g : Chd → Bool, (∀ a ∈ F, ∀ b ∈ S, f a = true → g b = true → meetC a b = false) → (F.filter f).length + (S.filter g).length ≤ K) :
    4 * (sm2 (w + 1) (h + 1) (fun x y => b2 (q3 p.u x y)) - K) ≤ 2 * sm2 (w + 1) (h + 1) (fun x y => b2 (p.eh x y)) + 2 * sm2 (w + 1) (h + 1) (fun x y => b2 (p.ev x y)) + 4 * sm2 (w + 1) (h + 1) (fun x y => b2 (p.cr x y)) := by
  have h1 := rows_low hp fun c hc => (hF c).2 hc
  have h2 := cols_low hp fun c hc => (hS c).2 hc
  rw [ends_F hp.sup hn fun c hc => (hF c).1 hc] at h1
  rw [ends_S hp.sup hn' fun c hc => (hS c).1 hc] at h2
  have h3 := walls_low hp
  have h4 := meets_le hp.sup hn (fun c hc => (hF c).1 hc) (S := S) fun c hc => (hS c).1 hc
  have h5 := filter_two (walF p) (fun a => (S.filter (walS p)).any (meetC a)) F
  have h6 := hK (fun a => walF p a && !(S.filter (walS p)).any (meetC a)) (walS p) fun a _ b hb ka kb => by
    rw [Bool.and_eq_true, Bool.not_eq_true', List.any_eq_false] at ka
    simpa using ka.2 b (List.mem_filter.2 ⟨hb, kb⟩)
  omega
end

/-- a flat cut: from lo to hi in row y -/
structure Seg where
  lo : Int
  hi : Int
  y : Int
def covH (H : List Seg) (x y : Int) : Bool := H.any fun s => decide (s.lo ≤ x ∧ x < s.hi ∧ s.y = y)
def covV (V : List Chd) (x y : Int) : Bool := V.any fun b => decide (b.1.1 = x ∧ b.1.2 ≤ y ∧ y < b.2.2)
def plnC (u : Int → Int → Bool) (H : List Seg) (V : List Chd) : Pln := ⟨u, fun x y => u x (y - 1) && u x y && !covH H x y, fun x y => u (x - 1) y && u x y && !covV V x y⟩
def tchV (V : List Chd) (x y : Int) : Prop := ∃ b ∈ V, b.1.1 = x ∧ b.1.2 ≤ y ∧ y ≤ b.2.2
structure Cuts (u : Int → Int → Bool) (H : List Seg) (V : List Chd) : Prop where
  flat : ∀ s ∈ H, s.lo < s.hi ∧ ∀ x, s.lo ≤ x → x < s.hi → fl u x s.y = true
  steep : ∀ b ∈ V, isS u b
  free : ∀ s ∈ H, ∀ x, s.lo < x → x < s.hi → ¬ tchV V x s.y
  elo : ∀ s ∈ H, fl u (s.lo - 1) s.y = false ∨ tchV V s.lo s.y
  ehi : ∀ s ∈ H, fl u s.hi s.y = false ∨ tchV V s.hi s.y
  all : ∀ x y, q3 u x y = true → covH H (x - 1) y = true ∨ covH H x y = true ∨ covV V x (y - 1) = true ∨ covV V x y = true
theorem covH_iff {H : List Seg} {x y : Int} : covH H x y = true ↔ ∃ s ∈ H, s.lo ≤ x ∧ x < s.hi ∧ s.y = y := by
  unfold covH; rw [List.any_eq_true]; simp
theorem covV_iff {V : List Chd} {x y : Int} : covV V x y = true ↔ ∃ b ∈ V, b.1.1 = x ∧ b.1.2 ≤ y ∧ y < b.2.2 := by
  unfold covV; rw [List.any_eq_true]; simp
section
variable {u : Int → Int → Bool} {H : List Seg} {V : List Chd} {w h : Nat}
theorem tch_cov (hc : Cuts u H V) {x y : Int} (ht : tchV V x y) : covV V x (y - 1) = true ∨ covV V x y = true := by
  obtain ⟨b, hb, h1, h2, h3⟩ := ht
  have := (hc.steep b hb).2.1
  by_cases hy : y < b.2.2
  · exact .inr (covV_iff.2 ⟨b, hb, h1, h2, hy⟩)
  · exact .inl (covV_iff.2 ⟨b, hb, h1, by omega, by omega⟩)
theorem cov_tch {x y : Int} (ht : covV V x (y - 1) = true ∨ covV V x y = true) : tchV V x y := by
  rcases ht with h | h
  · obtain ⟨b, hb, h1, h2, h3⟩ := covV_iff.1 h
    exact ⟨b, hb, h1, by omega, by omega⟩
  · obtain ⟨b, hb, h1, h2, h3⟩ := covV_iff.1 h
    exact ⟨b, hb, h1, by omega, by omega⟩
theorem covH_fl (hc : Cuts u H V) {x y : Int} (h : covH H x y = true) : u x (y - 1) = true ∧ u x y = true := by
  obtain ⟨s, hs, h1, h2, h3⟩ := covH_iff.1 h
  have := (hc.flat s hs).2 x h1 h2
  rw [h3] at this
  unfold fl at this
  simpa using this
theorem covV_stp (hc : Cuts u H V) {x y : Int} (h : covV V x y = true) : u (x - 1) y = true ∧ u x y = true := by
  obtain ⟨b, hb, h1, h2, h3⟩ := covV_iff.1 h
  have := (hc.steep b hb).2.2.2.2 y h2 h3
  rw [h1] at this
  unfold stp at this
  simpa using this
/-- a steep wall goes through where all four cells are in -/
theorem thro_V (hc : Cuts u H V) {x y : Int} (h1 : stp u x (y - 1) = true) (h2 : stp u x y = true) : covV V x (y - 1) = covV V x y := by
  have no : q3 u x y = true → False := fun hq => by have := q3_stp hq; rw [h1, h2] at this; cases this
  have e : covV V x (y - 1) = true ↔ covV V x y = true := by
    constructor
    · intro h
      obtain ⟨b, hb, k1, k2, k3⟩ := covV_iff.1 h
      obtain ⟨b1, b2', b3, b4, b5⟩ := hc.steep b hb
      refine covV_iff.2 ⟨b, hb, k1, by omega, ?_⟩
      by_cases hy : y < b.2.2
      · exact hy
      · have e : b.2.2 = y := by omega
        exact (no (by rw [← e, ← k1, b1]; exact b4)).elim
    · intro h
      obtain ⟨b, hb, k1, k2, k3⟩ := covV_iff.1 h
      obtain ⟨b1, b2', b3, b4, b5⟩ := hc.steep b hb
      refine covV_iff.2 ⟨b, hb, k1, ?_, by omega⟩
      by_cases hy : b.1.2 < y
      · omega
      · have e : b.1.2 = y := by omega
        exact (no (by rw [← e, ← k1]; exact b3)).elim
  cases h : covV V x (y - 1) <;> cases h' : covV V x y <;> simp [h, h'] at e ⊢
/-- .. and so does a flat one where no steep one is -/
theorem thro_H (hc : Cuts u H V) {x y : Int} (h1 : fl u (x - 1) y = true) (h2 : fl u x y = true) (h3 : covV V x (y - 1) = false) (h4 : covV V x y = false) : covH H (x - 1) y = covH H x y := by
  have no : tchV V x y → False := fun ht => by
    rcases tch_cov hc ht with h | h
    · rw [h] at h3; cases h3
    · rw [h] at h4; cases h4
  have e : covH H (x - 1) y = true ↔ covH H x y = true := by
    constructor
    · intro h
      obtain ⟨s, hs, k1, k2, k3⟩ := covH_iff.1 h
      refine covH_iff.2 ⟨s, hs, by omega, ?_, k3⟩
      by_cases hx : x < s.hi
      · exact hx
      · have e : s.hi = x := by omega
        rcases hc.ehi s hs with k | k
        · rw [e, k3, h2] at k; cases k
        · rw [e, k3] at k; exact (no k).elim
    · intro h
      obtain ⟨s, hs, k1, k2, k3⟩ := covH_iff.1 h
      refine covH_iff.2 ⟨s, hs, ?_, by omega, k3⟩
      by_cases hx : s.lo < x
      · omega
      · have e : s.lo = x := by omega
        rcases hc.elo s hs with k | k
        · rw [e, k3, h1] at k; cases k
        · rw [e, k3] at k; exact (no k).elim
  cases h : covH H (x - 1) y <;> cases h' : covH H x y <;> simp [h, h'] at e ⊢
theorem okC (hc : Cuts u H V) (hs : ∀ x y, u x y = true → 0 ≤ x ∧ x < w ∧ 0 ≤ y ∧ y < h) : (plnC u H V).Ok w h := by
  have key : ∀ x y, ((plnC u H V).l x (y - 1) = true → (plnC u H V).a (x - 1) y = true → (plnC u H V).l x y = true ∧ (plnC u H V).a x y = true) ∧
      ((plnC u H V).l x (y - 1) = true → (plnC u H V).a x y = true → (plnC u H V).l x y = true ∧ (plnC u H V).a (x - 1) y = true) ∧
      ((plnC u H V).l x y = true → (plnC u H V).a (x - 1) y = true → (plnC u H V).l x (y - 1) = true ∧ (plnC u H V).a x y = true) ∧
      ((plnC u H V).l x y = true → (plnC u H V).a x y = true → (plnC u H V).l x (y - 1) = true ∧ (plnC u H V).a (x - 1) y = true) := by
    intro x y
    have f1 := covH_fl hc (x := x - 1) (y := y)
    have f2 := covH_fl hc (x := x) (y := y)
    have f3 := covV_stp hc (x := x) (y := y - 1)
    have f4 := covV_stp hc (x := x) (y := y)
    have t1 := thro_V hc (x := x) (y := y)
    have t2 := thro_H hc (x := x) (y := y)
    have t3 := hc.all x y
    unfold stp at t1
    unfold fl at t2
    unfold q3 at t3
    unfold plnC
    dsimp only
    revert f1 f2 f3 f4 t1 t2 t3
    generalize covH H (x - 1) y = hl
    generalize covH H x y = hr
    generalize covV V x (y - 1) = vt
    generalize covV V x y = vb
    generalize u (x - 1) (y - 1) = P
    generalize u x (y - 1) = Q
    generalize u (x - 1) y = R
    generalize u x y = T
    cases P <;> cases Q <;> cases R <;> cases T <;> cases hl <;> cases hr <;> cases vt <;> cases vb <;> simp
  refine ⟨hs, fun x y ha => ?_, fun x y ha => ?_, fun x y => (key x y).1, fun x y => (key x y).2.1, fun x y => (key x y).2.2.1, fun x y => (key x y).2.2.2⟩
  · unfold plnC at ha
    simp only [Bool.and_eq_true] at ha
    exact ha.1
  · unfold plnC at ha
    simp only [Bool.and_eq_true] at ha
    exact ha.1
theorem whC (hc : Cuts u H V) (x y : Int) : (plnC u H V).wh x y = covH H x y := by
  have f := covH_fl hc (x := x) (y := y)
  unfold Pln.wh plnC
  dsimp only
  revert f
  cases covH H x y <;> cases u x y <;> cases u x (y - 1) <;> simp
theorem wvC (hc : Cuts u H V) (x y : Int) : (plnC u H V).wv x y = covV V x y := by
  have f := covV_stp hc (x := x) (y := y)
  unfold Pln.wv plnC
  dsimp only
  revert f
  cases covV V x y <;> cases u x y <;> cases u (x - 1) y <;> simp
theorem cn_pos {α : Type} {f : α → Cel} {x y : Int} : ∀ {l : List α} {b : α}, b ∈ l → f b = (x, y) → 1 ≤ cn f l x y
  | [], _, h, _ => nomatch h
  | c :: l, b, h, e => by
    have hn : ∀ l : List α, 0 ≤ cn f l x y := fun l => by
      induction l with
      | nil => exact Int.le_refl _
      | cons c l ih => rw [cn]; split <;> omega
    rw [cn]
    rcases List.mem_cons.1 h with rfl | h
    · rw [if_pos ⟨by rw [e], by rw [e]⟩]; have := hn l; omega
    · have := cn_pos h e
      split <;> omega
theorem cn_nn {α : Type} (f : α → Cel) (x y : Int) : ∀ l : List α, 0 ≤ cn f l x y
  | [] => Int.le_refl _
  | c :: l => by have := cn_nn f x y l; rw [cn]; split <;> omega
/-- ends of walls and crossings are ends of cuts -/
theorem ends_at (hc : Cuts u H V) (x y : Int) : b2 ((plnC u H V).eh x y) + b2 ((plnC u H V).ev x y) + 2 * b2 ((plnC u H V).cr x y) ≤ cn (fun s : Seg => (s.lo, s.y)) H x y + cn (fun s : Seg => (s.hi, s.y)) H x y + cn (fun b : Chd => b.1) V x y + cn (fun b : Chd => b.2) V x y := by
  have n1 := cn_nn (fun s : Seg => (s.lo, s.y)) x y H
  have n2 := cn_nn (fun s : Seg => (s.hi, s.y)) x y H
  have n3 := cn_nn (fun b : Chd => b.1) x y V
  have n4 := cn_nn (fun b : Chd => b.2) x y V
  have z0 : b2 false = 0 := rfl
  have z1 : b2 true = 1 := rfl
  have elo : covH H x y = true → covH H (x - 1) y = false → 1 ≤ cn (fun s : Seg => (s.lo, s.y)) H x y := fun h1 h2 => by
    obtain ⟨s, hs, k1, k2, k3⟩ := covH_iff.1 h1
    refine cn_pos hs (Prod.ext ?_ k3)
    show s.lo = x
    by_cases hx : s.lo ≤ x - 1
    · rw [covH_iff.2 ⟨s, hs, hx, by omega, k3⟩] at h2; cases h2
    · omega
  have ehi : covH H (x - 1) y = true → covH H x y = false → 1 ≤ cn (fun s : Seg => (s.hi, s.y)) H x y := fun h1 h2 => by
    obtain ⟨s, hs, k1, k2, k3⟩ := covH_iff.1 h1
    refine cn_pos hs (Prod.ext ?_ k3)
    show s.hi = x
    by_cases hx : x < s.hi
    · rw [covH_iff.2 ⟨s, hs, by omega, hx, k3⟩] at h2; cases h2
    · omega
  have eto : covV V x y = true → covV V x (y - 1) = false → 1 ≤ cn (fun b : Chd => b.1) V x y := fun h1 h2 => by
    obtain ⟨s, hs, k1, k2, k3⟩ := covV_iff.1 h1
    refine cn_pos hs (Prod.ext k1 ?_)
    show s.1.2 = y
    by_cases hx : s.1.2 ≤ y - 1
    · rw [covV_iff.2 ⟨s, hs, k1, hx, by omega⟩] at h2; cases h2
    · omega
  have ebo : covV V x (y - 1) = true → covV V x y = false → 1 ≤ cn (fun b : Chd => b.2) V x y := fun h1 h2 => by
    obtain ⟨s, hs, k1, k2, k3⟩ := covV_iff.1 h1
    have e1 := (hc.steep s hs).1
    refine cn_pos hs (Prod.ext (by omega) ?_)
    show s.2.2 = y
    by_cases hx : y < s.2.2
    · rw [covV_iff.2 ⟨s, hs, k1, by omega, hx⟩] at h2; cases h2
    · omega
  have two : covH H (x - 1) y = true → covH H x y = true → covV V x y = true → 1 ≤ cn (fun s : Seg => (s.lo, s.y)) H x y ∧ 1 ≤ cn (fun s : Seg => (s.hi, s.y)) H x y := fun h1 h2 h3 => by
    have ht : tchV V x y := cov_tch (.inr h3)
    obtain ⟨s, hs, k1, k2, k3⟩ := covH_iff.1 h1
    obtain ⟨t, ht', j1, j2, j3⟩ := covH_iff.1 h2
    refine ⟨cn_pos ht' (Prod.ext ?_ j3), cn_pos hs (Prod.ext ?_ k3)⟩
    · show t.lo = x
      by_cases hx : t.lo < x
      · exact absurd (j3 ▸ ht) (hc.free t ht' x hx j2)
      · omega
    · show s.hi = x
      by_cases hx : x < s.hi
      · exact absurd (k3 ▸ ht) (hc.free s hs x (by omega) hx)
      · omega
  unfold Pln.eh Pln.ev Pln.cr
  rw [whC hc, whC hc, wvC hc, wvC hc]
  revert elo ehi eto ebo two
  generalize cn (fun s : Seg => (s.lo, s.y)) H x y = c1 at *
  generalize cn (fun s : Seg => (s.hi, s.y)) H x y = c2 at *
  generalize cn (fun b : Chd => b.1) V x y = c3 at *
  generalize cn (fun b : Chd => b.2) V x y = c4 at *
  cases covH H (x - 1) y <;> cases covH H x y <;> cases covV V x (y - 1) <;> cases covV V x y <;> simp [z0, z1] <;> omega
end
end Go.Proofs.YtmgofdgbenfjmaaDoor
