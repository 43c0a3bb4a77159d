/- Plain law of the classes: what the program's classes computes. No conditions. -/
import Derived.Test.YtfadkokdoehjnaaDoorOdP
namespace Go.Proofs.YtfadkokdoehjnaaDoor

/-- two classes joined: the higher one becomes the lower one -/
def mg (f : Nat → Int) (hi lo : Int) : Nat → Int := fun j => if f j = hi then lo else f j
/-- the program's classes behind the first k seams -/
def cls (ch : Nat → Bool) (l : List Sm) : Nat → Nat → Int
  | 0 => fun j => j
  | k + 1 => match l[k]? with
    | none => cls ch l k
    | some s => if ch k then mg (cls ch l k) (max (cls ch l k s.a.toNat) (cls ch l k s.b.toNat)) (min (cls ch l k s.a.toNat) (cls ch l k s.b.toNat)) else cls ch l k
theorem cls_succ {ch : Nat → Bool} {l : List Sm} {k : Nat} (h : k < l.length) : cls ch l (k + 1) = if ch k then mg (cls ch l k) (max (cls ch l k l[k].a.toNat) (cls ch l k l[k].b.toNat)) (min (cls ch l k l[k].a.toNat) (cls ch l k l[k].b.toNat)) else cls ch l k := by
  show (match l[k]? with | none => _ | some s => _) = _
  rw [List.getElem?_eq_getElem h]
theorem mg_same (f : Nat → Int) (x : Int) : mg f x x = f := by
  funext j
  unfold mg
  split
  · rename_i h; exact h.symm
  · rfl
theorem cls_skip {ch : Nat → Bool} {l : List Sm} {k : Nat} (h : k < l.length) {s : Sm} (hs : s = l[k]) {ja jb : Nat} (ha : s.a = ja) (hb : s.b = jb) (hx : ch k = false ∨ cls ch l k ja = cls ch l k jb) : cls ch l (k + 1) = cls ch l k := by
  rw [cls_succ h, ← hs, ha, hb, Int.toNat_natCast, Int.toNat_natCast]
  rcases hx with hx | hx
  · rw [hx]; rfl
  · rw [hx]
    split
    · rw [Int.max_self, Int.min_self, mg_same]
    · rfl
theorem cls_join {ch : Nat → Bool} {l : List Sm} {k : Nat} (h : k < l.length) {s : Sm} (hs : s = l[k]) {ja jb : Nat} (ha : s.a = ja) (hb : s.b = jb) (hc : ch k = true) :
    cls ch l (k + 1) = mg (cls ch l k) (max (cls ch l k ja) (cls ch l k jb)) (min (cls ch l k ja) (cls ch l k jb)) := by
  rw [cls_succ h, ← hs, ha, hb, Int.toNat_natCast, Int.toNat_natCast, hc, if_pos rfl]
/-- the first j joined -/
def pin (f g : Nat → Int) (j : Nat) : Nat → Int := fun i => if i < j then g i else f i
theorem pin_zero (f g : Nat → Int) : pin f g 0 = f := by funext i; unfold pin; rw [if_neg (by omega)]
theorem pin_at (f g : Nat → Int) (j : Nat) : pin f g j j = f j := by unfold pin; rw [if_neg (by omega)]
theorem pin_set (f g : Nat → Int) (j : Nat) {v : Int} (h : g j = v) : upd (pin f g j) j v = pin f g (j + 1) := by
  funext i
  unfold upd pin
  by_cases hi : i = j
  · rw [if_pos hi, if_pos (by omega), hi, h]
  · rw [if_neg hi]
    by_cases h2 : i < j
    · rw [if_pos h2, if_pos (by omega)]
    · rw [if_neg h2, if_neg (by omega)]
theorem pin_keep (f g : Nat → Int) (j : Nat) (h : g j = f j) : pin f g j = pin f g (j + 1) := by
  funext i
  unfold pin
  by_cases hi : i = j
  · rw [if_neg (by omega), if_pos (by omega), hi, h]
  · by_cases h2 : i < j
    · rw [if_pos h2, if_pos (by omega)]
    · rw [if_neg h2, if_neg (by omega)]
theorem cls_range (ch : Nat → Bool) (l : List Sm) (n : Nat) (h : ∀ s ∈ l, SmOk n s) : ∀ k, k ≤ l.length → ∀ j, j < n → 0 ≤ cls ch l k j ∧ cls ch l k j < n
  | 0, _, j, hj => by unfold cls; omega
  | k + 1, hk, j, hj => by
    have hlt : k < l.length := by omega
    have ih := cls_range ch l n h k (by omega)
    have hs := h _ (List.getElem_mem hlt)
    unfold SmOk at hs
    have h1 := ih l[k].a.toNat (by omega)
    have h2 := ih l[k].b.toNat (by omega)
    have h3 := ih j hj
    rw [cls_succ hlt]
    unfold mg
    split
    · dsimp only
      split <;> omega
    · exact h3
end Go.Proofs.YtfadkokdoehjnaaDoor
