/- Plain law of the least lengths: what shortest computes. No conditions. -/
import Derived.Test.YtfadkokdoehjnaaDoorOdP
namespace Go.Proofs.YtfadkokdoehjnaaDoor

def far : Int := 1099511627776
abbrev Mx := Nat → Nat → Int
def set2 (f : Mx) (a b : Nat) (v : Int) : Mx := fun i j => if i = a ∧ j = b then v else f i j
/-- the two tables in one row -/
def pk (L F : Mx) : Nat → Int := fun o => if o < 256 then L (o / 16) (o % 16) else F ((o - 256) / 16) ((o - 256) % 16)
theorem pk_L (L F : Mx) {a b : Nat} (ha : a < 16) (hb : b < 16) : pk L F (a * 16 + b) = L a b := by
  unfold pk
  rw [if_pos (by omega), show (a * 16 + b) / 16 = a by omega, show (a * 16 + b) % 16 = b by omega]
theorem pk_F (L F : Mx) {a b : Nat} (ha : a < 16) (hb : b < 16) : pk L F (256 + a * 16 + b) = F a b := by
  unfold pk
  rw [if_neg (by omega), show (256 + a * 16 + b - 256) / 16 = a by omega, show (256 + a * 16 + b - 256) % 16 = b by omega]
theorem pk_setL (L F : Mx) {a b : Nat} (ha : a < 16) (hb : b < 16) (v : Int) : upd (pk L F) (a * 16 + b) v = pk (set2 L a b v) F := by
  funext o
  unfold upd pk set2
  by_cases h : o < 256
  · rw [if_pos h]
    by_cases h2 : o = a * 16 + b
    · rw [if_pos h2, if_pos (by omega), if_pos (by omega)]
    · rw [if_neg h2, if_pos (by omega), if_neg (by omega)]
  · rw [if_neg h, if_neg (by omega), if_neg (by omega)]
theorem pk_setF (L F : Mx) {a b : Nat} (ha : a < 16) (hb : b < 16) (v : Int) : upd (pk L F) (256 + a * 16 + b) v = pk L (set2 F a b v) := by
  funext o
  unfold upd pk set2
  by_cases h : o < 256
  · rw [if_pos h, if_neg (by omega), if_pos (by omega)]
  · rw [if_neg h]
    by_cases h2 : o = 256 + a * 16 + b
    · rw [if_pos h2, if_neg (by omega), if_pos (by omega)]
    · rw [if_neg h2, if_neg (by omega), if_neg (by omega)]
theorem upd_comm (d : Nat → Int) {i j : Nat} (h : i ≠ j) (x y : Int) : upd (upd d i x) j y = upd (upd d j y) i x := by
  funext k
  unfold upd
  by_cases h1 : k = j
  · rw [if_pos h1, if_neg (by omega), if_pos h1]
  · rw [if_neg h1]
    by_cases h2 : k = i
    · rw [if_pos h2, if_pos h2]
    · rw [if_neg h2, if_neg h2, if_neg h1]

/-- at the start: the first rows -/
def iniL (a b : Nat) : Mx := fun i j => if (i < a ∨ (i = a ∧ j < b)) ∧ i ≠ j then far else 0
theorem pk_congr {L L' F F' : Mx} (h : ∀ i j, i < 16 → j < 16 → L i j = L' i j) (h' : ∀ i j, i < 16 → j < 16 → F i j = F' i j) : ∀ o, o < 512 → pk L F o = pk L' F' o := by
  intro o ho
  unfold pk
  split
  · exact h _ _ (by omega) (by omega)
  · exact h' _ _ (by omega) (by omega)

structure Tb where
  L : Mx
  F : Mx
/-- the seams one after another -/
def tbB : List Sm → Nat → Tb
  | _, 0 => ⟨fun i j => if i = j then 0 else far, fun _ _ => 0⟩
  | l, k + 1 => match l[k]? with
    | none => tbB l k
    | some s => if s.a ≠ s.b ∧ s.n < (tbB l k).L s.a.toNat s.b.toNat then
        ⟨set2 (set2 (tbB l k).L s.a.toNat s.b.toNat s.n) s.b.toNat s.a.toNat s.n, set2 (set2 (tbB l k).F s.a.toNat s.b.toNat k) s.b.toNat s.a.toNat k⟩
      else tbB l k
theorem tbB_yes {l : List Sm} {k : Nat} (h : k < l.length) {s : Sm} (hs : s = l[k]) {a b : Nat} (ha : s.a = a) (hb : s.b = b) (hc : a ≠ b ∧ s.n < (tbB l k).L a b) :
    tbB l (k + 1) = ⟨set2 (set2 (tbB l k).L a b s.n) b a s.n, set2 (set2 (tbB l k).F a b k) b a k⟩ := by
  show (match l[k]? with | none => _ | some s => _) = _
  rw [List.getElem?_eq_getElem h, ← hs]
  dsimp only
  rw [ha, hb, Int.toNat_natCast, Int.toNat_natCast, if_pos ⟨by omega, hc.2⟩]
theorem tbB_no {l : List Sm} {k : Nat} (h : k < l.length) {s : Sm} (hs : s = l[k]) {a b : Nat} (ha : s.a = a) (hb : s.b = b) (hc : ¬ (a ≠ b ∧ s.n < (tbB l k).L a b)) :
    tbB l (k + 1) = tbB l k := by
  show (match l[k]? with | none => _ | some s => _) = _
  rw [List.getElem?_eq_getElem h, ← hs]
  dsimp only
  rw [ha, hb, Int.toNat_natCast, Int.toNat_natCast, if_neg (fun h => hc ⟨by omega, h.2⟩)]
/-- one pair by way of c -/
def st1 (t : Tb) (c a b : Nat) : Tb := if t.L a c + t.L c b < t.L a b then ⟨set2 t.L a b (t.L a c + t.L c b), set2 t.F a b (t.F a c)⟩ else t
def stB (t : Tb) (c a : Nat) : Nat → Tb
  | 0 => t
  | b + 1 => st1 (stB t c a b) c a b
def stA (t : Tb) (c n : Nat) : Nat → Tb
  | 0 => t
  | a + 1 => stB (stA t c n a) c a n
def stC (t : Tb) (n : Nat) : Nat → Tb
  | 0 => t
  | c + 1 => stA (stC t n c) c n n
/-- shortest's tables -/
def tbl (n : Nat) (l : List Sm) : Tb := stC (tbB l l.length) n n

def Bd (t : Tb) : Prop := ∀ i j, 0 ≤ t.L i j ∧ t.L i j ≤ far
theorem set2_bd {f : Mx} {a b : Nat} {v : Int} (h : ∀ i j, 0 ≤ f i j ∧ f i j ≤ far) (hv : 0 ≤ v ∧ v ≤ far) : ∀ i j, 0 ≤ set2 f a b v i j ∧ set2 f a b v i j ≤ far := by
  intro i j
  unfold set2
  split
  · exact hv
  · exact h i j
theorem Bd.B {N : Int} {l : List Sm} (h : ∀ s ∈ l, SmOk N s) : ∀ k, Bd (tbB l k)
  | 0 => by
    intro i j
    show 0 ≤ (if i = j then (0 : Int) else far) ∧ _ ≤ far
    unfold far
    show 0 ≤ (if i = j then (0 : Int) else 1099511627776) ∧ (if i = j then (0 : Int) else 1099511627776) ≤ 1099511627776
    split <;> omega
  | k + 1 => by
    have ih := Bd.B h k
    unfold tbB
    split
    · exact ih
    · rename_i s hs
      have hm := h s (List.mem_of_getElem? hs)
      unfold SmOk at hm
      split
      · have hv : 0 ≤ s.n ∧ s.n ≤ far := by unfold far; omega
        exact set2_bd (set2_bd ih hv) hv
      · exact ih
theorem Bd.st1 {t : Tb} (h : Bd t) (c a b : Nat) : Bd (st1 t c a b) := by
  unfold Go.Proofs.YtfadkokdoehjnaaDoor.st1
  split
  · have h1 := h a c
    have h2 := h c b
    have h3 := h a b
    exact set2_bd h ⟨by omega, by omega⟩
  · exact h
theorem Bd.stB {t : Tb} (h : Bd t) (c a : Nat) : ∀ b, Bd (stB t c a b)
  | 0 => h
  | b + 1 => (Bd.stB h c a b).st1 c a b
theorem Bd.stA {t : Tb} (h : Bd t) (c n : Nat) : ∀ a, Bd (stA t c n a)
  | 0 => h
  | a + 1 => (Bd.stA h c n a).stB c a n
theorem Bd.stC {t : Tb} (h : Bd t) (n : Nat) : ∀ c, Bd (stC t n c)
  | 0 => h
  | c + 1 => (Bd.stC h n c).stA c n n
end Go.Proofs.YtfadkokdoehjnaaDoor
