/- Texts joined: ArP, ArQ. Conditions: see each. -/
import Derived.Test.YtmgofdgbenfjmaaDoorGr1
import Derived.Test.YtmgofdgbenfjmaaDoorMxP
import Derived.Test.YtmgofdgbenfjmaaDoorDv1
import Derived.Test.YtmgofdgbenfjmaaDoorSpR
import Derived.Test.YtmgofdgbenfjmaaDoorTn1
import Derived.Test.YtmgofdgbenfjmaaDoorLg1
import Derived.Test.YtmgofdgbenfjmaaDoorWa1
namespace Go.Proofs.YtmgofdgbenfjmaaDoor
open Go.RowKit

/-- a plane carried over, cell by cell -/
structure Iso (us us' : Cel → Bool) (s t : Cel → Cel) (f : Bx → Bx) : Prop where
  st : ∀ c, t (s c) = c
  ts : ∀ c, s (t c) = c
  us_ : ∀ c, us' (s c) = us c
  side : ∀ c d, d ∈ sidesL c → s d ∈ sidesL (s c)
  back : ∀ c d, d ∈ sidesL c → t d ∈ sidesL (t c)
  bok : ∀ b : Bx, b.x0 ≤ b.x1 → b.y0 ≤ b.y1 → (f b).x0 ≤ (f b).x1 ∧ (f b).y0 ≤ (f b).y1
  bin : ∀ (b : Bx) (c : Cel), inB (f b) c.1 c.2 = inB b (t c).1 (t c).2
section
variable {us us' : Cel → Bool} {s t : Cel → Cel} {f : Bx → Bx}
theorem Iso.us_b (i : Iso us us' s t f) (c : Cel) : us (t c) = us' c := by rw [← i.us_, i.ts]
theorem Iso.rch (i : Iso us us' s t f) {c d : Cel} (h : Rch sidesL us c d) : Rch sidesL us' (s c) (s d) := by
  induction h with
  | refl => exact .refl
  | step _ h2 h3 ih => exact .step ih (i.side _ _ h2) (by rw [i.us_]; exact h3)
theorem Iso.rch_b (i : Iso us us' s t f) {c d : Cel} (h : Rch sidesL us' c d) : Rch sidesL us (t c) (t d) := by
  induction h with
  | refl => exact .refl
  | step _ h2 h3 ih => exact .step ih (i.back _ _ h2) (by rw [i.us_b]; exact h3)
theorem parts_le {us us' : Cel → Bool} {s : Cel → Cel} {ls ls' : List (List Cel)} (hn : ls.flatten.Nodup) (hr : ∀ L ∈ ls, ∃ c, us c = true ∧ ∀ d, d ∈ L ↔ Rch sidesL us c d)
    (hf' : ∀ c, c ∈ ls'.flatten ↔ us' c = true) (hr' : ∀ L ∈ ls', ∃ c, us' c = true ∧ ∀ d, d ∈ L ↔ Rch sidesL us' c d) (h1 : ∀ c, us c = true → us' (s c) = true) (h2 : ∀ c d, Rch sidesL us' (s c) (s d) → Rch sidesL us c d) : ls.length ≤ ls'.length := by
  refine inj_len (f := fun L M => M ∈ ls' ∧ ∃ c, c ∈ L ∧ s c ∈ M) ls ls' (fun L hL => ?_) ?_
  · obtain ⟨c, hc, k⟩ := hr L hL
    obtain ⟨M, hM, hcM⟩ := List.mem_flatten.1 ((hf' (s c)).2 (h1 c hc))
    exact ⟨M, hM, hM, c, (k c).2 .refl, hcM⟩
  · have hp : ls.Pairwise fun L M => ∀ c, c ∈ L → c ∈ M → False := by
      have := (List.pairwise_flatten.1 (List.nodup_iff_pairwise_ne.1 hn)).2
      exact this.imp fun h c h3 h4 => h c h3 c h4 rfl
    refine hp.imp_of_mem fun {L L'} hL hL' hd => ?_
    rintro M ⟨hM, c, hc, hcM⟩ ⟨_, d, hdL, hdM⟩
    obtain ⟨c0, hc0, k⟩ := hr L hL
    obtain ⟨e, he, ke⟩ := hr' M hM
    have r1 := ((ke _).1 hcM).symm sides_symm he |>.trans ((ke _).1 hdM)
    exact hd d ((k d).2 (((k c).1 hc).trans (h2 c d r1))) hdL
/-- as many parts -/
theorem Iso.parts (i : Iso us us' s t f) {w h w' h' n : Nat} (hus : ∀ c, us c = true → c ∈ boxCells ⟨0, 0, (w : Int) - 1, (h : Int) - 1⟩) (hn : (boxCells ⟨0, 0, (w : Int) - 1, (h : Int) - 1⟩).length ≤ n)
    (hus' : ∀ c, us' c = true → c ∈ boxCells ⟨0, 0, (w' : Int) - 1, (h' : Int) - 1⟩) (hn' : (boxCells ⟨0, 0, (w' : Int) - 1, (h' : Int) - 1⟩).length ≤ n) : (partsL us w h n).length ≤ (partsL us' w' h' n).length := by
  obtain ⟨ls, e1, n1, f1, r1⟩ := parts_reach us w h n hus hn
  obtain ⟨ls', e2, n2, f2, r2⟩ := parts_reach us' w' h' n hus' hn'
  rw [e1, e2, List.length_map, List.length_map]
  exact parts_le n1 r1 f2 r2 (fun c hc => by rw [i.us_]; exact hc) (fun c d h => by have := i.rch_b h; rwa [i.st, i.st] at this)
/-- divisions go over -/
theorem Iso.dv (i : Iso us us' s t f) {l : List Bx} (h : Dv (fun x y => us (x, y)) l) : Dv (fun x y => us' (x, y)) (l.map f) where
  ok b hb := by
    obtain ⟨b', hb', rfl⟩ := List.mem_map.1 hb
    exact i.bok b' (h.ok b' hb').1 (h.ok b' hb').2
  cov x y := by
    show us' (x, y) = true ↔ _
    rw [← i.us_b]
    refine (h.cov (t (x, y)).1 (t (x, y)).2).trans ⟨?_, ?_⟩
    · rintro ⟨b, hb, k⟩
      exact ⟨f b, List.mem_map_of_mem hb, by rw [i.bin b (x, y)]; exact k⟩
    · rintro ⟨b, hb, k⟩
      obtain ⟨b', hb', rfl⟩ := List.mem_map.1 hb
      exact ⟨b', hb', by rw [← i.bin b' (x, y)]; exact k⟩
  dis := List.pairwise_map.2 (h.dis.imp fun hbc x y h1 h2 => by
    rw [i.bin _ (x, y)] at h1 h2
    exact hbc _ _ h1 h2)
end

theorem cellB_skF {w h : Nat} {c : Nat → Nat → Nat} {x y : Nat} (hx : x < w) (hy : y < h) (hc : c x y < 256) : cellB (skF w h c) x y = c x y := by
  rw [cellB_at (by rw [skF_len]; exact hy), skF_at, rowF_byte hx hc]
theorem gr_out {l : List ByteArray} {x y : Int} (h : y < 0 ∨ (l.length : Int) ≤ y ∨ x < 0 ∨ (wid l : Int) ≤ x) : gr l x y = 0 := if_pos h
theorem gr_skF {w h : Nat} (hh : 1 ≤ h) {c : Nat → Nat → Nat} (hc : ∀ x y, c x y < 256) {x y : Nat} (hx : x < w) (hy : y < h) : gr (skF w h c) (x : Int) (y : Int) = (c x y : Int) - 48 := by
  rw [gr_cell (by rw [wid_skF hh]; exact hx) (by rw [skF_len]; exact hy), cellB_skF hx hy (hc x y)]
theorem mir_len (l : List ByteArray) : (mirP l).length = l.length := skF_len _ _ _
theorem mir_wid {l : List ByteArray} (hok : SkOk l) : wid (mirP l) = wid l := wid_skF hok.1
theorem trn_len (l : List ByteArray) : (turnP l).length = wid l := skF_len _ _ _
theorem trn_wid {l : List ByteArray} (hok : SkOk l) : wid (turnP l) = l.length := wid_skF hok.2.2.1
theorem mirP_ok {l : List ByteArray} (hok : SkOk l) : SkOk (mirP l) :=
  skF_ok ⟨hok.2.2.1, hok.2.2.2.1⟩ ⟨hok.1, hok.2.1⟩ (fun _x _y _ _ => cellB_rg hok _ _)
theorem mirP_sz {l : List ByteArray} (hok : SkOk l) : TSz (mirP l) := skF_sz hok.2.2.2.1
theorem gr_mir {l : List ByteArray} (hok : SkOk l) (x y : Int) : gr (mirP l) x y = gr l ((wid l : Int) - 1 - x) y := by
  by_cases h : y < 0 ∨ (l.length : Int) ≤ y ∨ x < 0 ∨ (wid l : Int) ≤ x
  · rw [gr_out (by rw [mir_len, mir_wid hok]; exact h), gr_out (by omega)]
  · obtain ⟨a, rfl⟩ : ∃ a : Nat, x = a := ⟨x.toNat, by omega⟩
    obtain ⟨b, rfl⟩ : ∃ b : Nat, y = b := ⟨y.toNat, by omega⟩
    have e : (wid l : Int) - 1 - (a : Int) = ((wid l - 1 - a : Nat) : Int) := by omega
    unfold mirP
    rw [gr_skF hok.1 (fun x y => by have := cellB_rg hok (wid l - 1 - x) y; omega) (by omega) (by omega), e, gr_cell (by omega) (by omega)]
theorem gr_turn {l : List ByteArray} (hok : SkOk l) (x y : Int) : gr (turnP l) x y = gr l y ((l.length : Int) - 1 - x) := by
  by_cases h : y < 0 ∨ (wid l : Int) ≤ y ∨ x < 0 ∨ (l.length : Int) ≤ x
  · rw [gr_out (by rw [trn_len, trn_wid hok]; exact h), gr_out (by omega)]
  · obtain ⟨a, rfl⟩ : ∃ a : Nat, x = a := ⟨x.toNat, by omega⟩
    obtain ⟨b, rfl⟩ : ∃ b : Nat, y = b := ⟨y.toNat, by omega⟩
    have e : (l.length : Int) - 1 - (a : Int) = ((l.length - 1 - a : Nat) : Int) := by omega
    unfold turnP
    rw [gr_skF hok.2.2.1 (fun x y => by have := cellB_rg hok y (l.length - 1 - x); omega) (by omega) (by omega), e, gr_cell (by omega) (by omega)]
theorem sk_ext {l l' : List ByteArray} (hok : SkOk l) (hok' : SkOk l') (hw : wid l = wid l') (hl : l.length = l'.length) (hg : ∀ x y : Int, gr l x y = gr l' x y) : l = l' := by
  refine List.ext_getElem hl fun y h1 h2 => ?_
  have s1 := (hok.row h1).1
  have s2 := (hok'.row h2).1
  apply ByteArray.ext
  apply Array.ext
  · show l[y].size = l'[y].size
    omega
  · intro x k1 k2
    have hx1 : x < l[y].size := k1
    have hx2 : x < l'[y].size := k2
    have hgx := hg (x : Int) (y : Int)
    have b1 := cellB_rg hok x y
    have b2 := cellB_rg hok' x y
    rw [gr_cell (by omega) h1, gr_cell (by omega) h2] at hgx
    have e : byteAt l[y] x = byteAt l'[y] x := by
      rw [← cellB_at h1, ← cellB_at h2]; omega
    unfold byteAt at e
    rw [dif_pos hx1, dif_pos hx2] at e
    exact UInt8.toNat_inj.1 e
theorem mir_mir {l : List ByteArray} (hok : SkOk l) : mirP (mirP l) = l := by
  refine sk_ext (mirP_ok (mirP_ok hok)) hok (by rw [mir_wid (mirP_ok hok), mir_wid hok]) (by rw [mir_len, mir_len]) fun x y => ?_
  rw [gr_mir (mirP_ok hok), gr_mir hok, mir_wid hok]
  congr 1; omega
theorem turn_four {l : List ByteArray} (hok : SkOk l) : turnP (turnP (turnP (turnP l))) = l := by
  have o1 := turnP_ok hok
  have o2 := turnP_ok o1
  have o3 := turnP_ok o2
  refine sk_ext (turnP_ok o3) hok (by rw [trn_wid o3, trn_len, trn_wid o1, trn_len]) (by rw [trn_len, trn_wid o2, trn_len, trn_wid hok]) fun x y => ?_
  have e1 := trn_len l
  have e2 : (turnP (turnP l)).length = l.length := by rw [trn_len, trn_wid hok]
  have e3 : (turnP (turnP (turnP l))).length = wid l := by rw [trn_len, trn_wid o1, trn_len]
  rw [gr_turn o3, gr_turn o2, gr_turn o1, gr_turn hok, e1, e2, e3]
  congr 1 <;> omega
theorem turnK_add (l : List ByteArray) (i : Nat) : ∀ j, turnK (turnK l i) j = turnK l (i + j)
  | 0 => rfl
  | j + 1 => by rw [turnK, turnK_add l i j]; rfl
theorem turn_back {l : List ByteArray} (hok : SkOk l) {q : Nat} (hq : q ≤ 3) : turnK (turnK l q) ((4 - q) % 4) = l := by
  rw [turnK_add]
  have h : q + (4 - q) % 4 = 0 ∨ q + (4 - q) % 4 = 4 := by omega
  rcases h with h | h <;> rw [h]
  · rfl
  · exact turn_four hok
/-- what goes down neither at a turn nor at a mirror stays -/
theorem stay (F : List ByteArray → Nat) (h1 : ∀ l, SkOk l → F l ≤ F (turnP l)) (h2 : ∀ l, SkOk l → F l ≤ F (mirP l)) {l : List ByteArray} (hok : SkOk l) (k : Nat) : F (mirP (turnK l k)) = F l := by
  have ht : ∀ l, SkOk l → F (turnP l) = F l := fun l hok => by
    have o1 := turnP_ok hok
    have o2 := turnP_ok o1
    have o3 := turnP_ok o2
    have a := h1 _ o1
    have b := h1 _ o2
    have c := h1 _ o3
    rw [turn_four hok] at c
    have d := h1 _ hok
    omega
  have hm : ∀ l, SkOk l → F (mirP l) = F l := fun l hok => by
    have a := h2 _ (mirP_ok hok)
    rw [mir_mir hok] at a
    have b := h2 _ hok
    omega
  rw [hm _ (turnK_ok hok k)]
  induction k with
  | zero => rfl
  | succ k ih => exact (ht _ (turnK_ok hok k)).trans ih
theorem mem_sidesQ {c d : Cel} : d ∈ sidesL c ↔ (d.1 = c.1 ∧ (d.2 = c.2 - 1 ∨ d.2 = c.2 + 1)) ∨ (d.2 = c.2 ∧ (d.1 = c.1 - 1 ∨ d.1 = c.1 + 1)) := by
  obtain ⟨a, b⟩ := c
  obtain ⟨x, y⟩ := d
  simp only [sidesL, List.mem_cons, List.not_mem_nil, or_false, Prod.mk.injEq]
  omega
def mS (l : List ByteArray) (c : Cel) : Cel := ((wid l : Int) - 1 - c.1, c.2)
def mB (l : List ByteArray) (b : Bx) : Bx := ⟨(wid l : Int) - 1 - b.x1, b.y0, (wid l : Int) - 1 - b.x0, b.y1⟩
def tS (l : List ByteArray) (c : Cel) : Cel := ((l.length : Int) - 1 - c.2, c.1)
def tT (l : List ByteArray) (c : Cel) : Cel := (c.2, (l.length : Int) - 1 - c.1)
def tB (l : List ByteArray) (b : Bx) : Bx := ⟨(l.length : Int) - 1 - b.y1, b.x0, (l.length : Int) - 1 - b.y0, b.x1⟩
theorem cel_ext {c d : Cel} (h1 : c.1 = d.1) (h2 : c.2 = d.2) : c = d := Prod.ext h1 h2
theorem mS_mS (l : List ByteArray) (c : Cel) : mS l (mS l c) = c := cel_ext (by simp only [mS]; omega) rfl
theorem iso_mir {l : List ByteArray} (hok : SkOk l) (g : Int) : Iso (usb l g) (usb (mirP l) g) (mS l) (mS l) (mB l) where
  st := mS_mS l
  ts := mS_mS l
  us_ c := by
    unfold usb
    rw [gr_mir hok]
    have := mS_mS l c
    rw [show (wid l : Int) - 1 - (mS l c).1 = c.1 from by simp only [mS]; omega]
    rfl
  side c d h := by
    rw [mem_sidesQ] at h ⊢
    simp only [mS]
    omega
  back c d h := by
    rw [mem_sidesQ] at h ⊢
    simp only [mS]
    omega
  bok b h1 h2 := by simp only [mB]; omega
  bin b c := by
    rw [Bool.eq_iff_iff, inB_iff, inB_iff]
    simp only [mB, mS]
    omega
theorem iso_turn {l : List ByteArray} (hok : SkOk l) (g : Int) : Iso (usb l g) (usb (turnP l) g) (tS l) (tT l) (tB l) where
  st c := cel_ext rfl (by simp only [tS, tT]; omega)
  ts c := cel_ext (by simp only [tS, tT]; omega) rfl
  us_ c := by
    unfold usb
    rw [gr_turn hok]
    rw [show (l.length : Int) - 1 - (tS l c).1 = c.2 from by simp only [tS]; omega]
    rfl
  side c d h := by
    rw [mem_sidesQ] at h ⊢
    simp only [tS]
    omega
  back c d h := by
    rw [mem_sidesQ] at h ⊢
    simp only [tT]
    omega
  bok b h1 h2 := by simp only [tB]; omega
  bin b c := by
    rw [Bool.eq_iff_iff, inB_iff, inB_iff]
    simp only [tB, tT]
    omega
/-- the number of parts -/
def ptN (g : Int) (l : List ByteArray) : Nat := (partsL (usb l g) (wid l) l.length 3000).length
theorem ptN_stay {g : Int} (hg : 1 ≤ g) {l : List ByteArray} (hok : SkOk l) (k : Nat) : ptN g (mirP (turnK l k)) = ptN g l := by
  have hu : ∀ {l : List ByteArray} (c : Cel), usb l g c = true → c ∈ boxCells ⟨0, 0, (wid l : Int) - 1, (l.length : Int) - 1⟩ := fun c h => usb_grid hg h
  have hn : ∀ {l : List ByteArray}, SkOk l → (boxCells ⟨0, 0, (wid l : Int) - 1, (l.length : Int) - 1⟩).length ≤ 3000 := fun hok => Nat.le_trans (grid_len hok) (by decide)
  exact stay (ptN g) (fun l hok => (iso_turn hok g).parts hu (hn hok) hu (hn (turnP_ok hok))) (fun l hok => (iso_mir hok g).parts hu (hn hok) hu (hn (mirP_ok hok))) hok k
/-- the number of a least division -/
def fwN (g : Int) (l : List ByteArray) : Nat := (splB (us l g) (wid l) l.length 3000).length
theorem fwN_stay {g : Int} (hg : 1 ≤ g) {l : List ByteArray} (hok : SkOk l) (k : Nat) : fwN g (mirP (turnK l k)) = fwN g l := by
  have sl : ∀ {l : List ByteArray}, SkOk l → _ := fun {l} hok => split_least (u := us l g) (w := wid l) (h := l.length) (n := 3000) (fun x y k => us_in hok hg k) hok.2.2.2.1 hok.2.1 (by decide)
  have hle : ∀ {l l' : List ByteArray} {s t : Cel → Cel} {f : Bx → Bx}, SkOk l → SkOk l' → Iso (usb l' g) (usb l g) s t f → fwN g l ≤ fwN g l' := fun {l l'} {s t f} h1 h2 i => by
    have h3 := (sl h2).1
    have h4 := (sl h1).2.1 _ (i.dv h3)
    rw [List.length_map] at h4
    exact h4
  have h1 : ∀ l, SkOk l → fwN g (turnP l) ≤ fwN g l := fun l hok => hle (turnP_ok hok) hok (iso_turn hok g)
  have h2 : ∀ l, SkOk l → fwN g (mirP l) ≤ fwN g l := fun l hok => hle (mirP_ok hok) hok (iso_mir hok g)
  refine stay (fwN g) (fun l hok => ?_) (fun l hok => ?_) hok k
  · have o1 := turnP_ok hok
    have o2 := turnP_ok o1
    have o3 := turnP_ok o2
    have a := h1 _ o1
    have b := h1 _ o2
    have c := h1 _ o3
    rw [turn_four hok] at c
    omega
  · have a := h2 _ (mirP_ok hok)
    rwa [mir_mir hok] at a
/-- every rectangle of usable cells has one as great -/
def UsT (g : Int) (l l' : List ByteArray) : Prop := ∀ r, UsR (usb l g) false r → ∃ r', UsR (usb l' g) false r' ∧ r'.a * r'.b = r.a * r.b
theorem UsT.trans {g : Int} {l l' l'' : List ByteArray} (h : UsT g l l') (h' : UsT g l' l'') : UsT g l l'' := fun r hr => by
  obtain ⟨r1, k1, k2⟩ := h r hr
  obtain ⟨r2, k3, k4⟩ := h' r1 k1
  exact ⟨r2, k3, k4.trans k2⟩
theorem usR_in {l : List ByteArray} {g : Int} (hok : SkOk l) (hg : 1 ≤ g) {r : Rn} (h : UsR (usb l g) false r) : r.x + r.a ≤ wid l ∧ r.y + r.b ≤ l.length := by
  obtain ⟨h1, h2, h3, _⟩ := h
  have h4 := us_in hok hg (x := ((r.x + r.a - 1 : Nat) : Int)) (y := ((r.y + r.b - 1 : Nat) : Int)) (h3 _ _ (by omega) (by omega) (by omega) (by omega))
  omega
theorem ust_mir {g : Int} (hg : 1 ≤ g) {l : List ByteArray} (hok : SkOk l) : UsT g l (mirP l) := fun r hr => by
  have hi := usR_in hok hg hr
  obtain ⟨h1, h2, h3, h4⟩ := hr
  refine ⟨⟨wid l - r.x - r.a, r.y, r.a, r.b⟩, ⟨h1, h2, fun i j k1 k2 k3 k4 => ?_, fun h => by cases h⟩, rfl⟩
  dsimp only at k1 k2 k3 k4
  have := h3 (wid l - 1 - i) j (by omega) (by omega) (by omega) (by omega)
  unfold usb at this ⊢
  rw [gr_mir hok]
  dsimp only at this ⊢
  rwa [show (wid l : Int) - 1 - (i : Int) = ((wid l - 1 - i : Nat) : Int) by omega]
theorem ust_turn {g : Int} (hg : 1 ≤ g) {l : List ByteArray} (hok : SkOk l) : UsT g l (turnP l) := fun r hr => by
  have hi := usR_in hok hg hr
  obtain ⟨h1, h2, h3, h4⟩ := hr
  refine ⟨⟨l.length - r.y - r.b, r.x, r.b, r.a⟩, ⟨h2, h1, fun i j k1 k2 k3 k4 => ?_, fun h => by cases h⟩, Nat.mul_comm _ _⟩
  dsimp only at k1 k2 k3 k4
  have := h3 j (l.length - 1 - i) (by omega) (by omega) (by omega) (by omega)
  unfold usb at this ⊢
  rw [gr_turn hok]
  dsimp only at this ⊢
  rwa [show (l.length : Int) - 1 - (i : Int) = ((l.length - 1 - i : Nat) : Int) by omega]
theorem ust_turns {g : Int} (hg : 1 ≤ g) {l : List ByteArray} (hok : SkOk l) : ∀ k, UsT g l (turnK l k)
  | 0 => fun r hr => ⟨r, hr, rfl⟩
  | k + 1 => (ust_turns hg hok k).trans (ust_turn hg (turnK_ok hok k))
theorem ust_there {g : Int} (hg : 1 ≤ g) {l : List ByteArray} (hok : SkOk l) (q : Nat) : UsT g l (mirP (turnK l q)) :=
  (ust_turns hg hok q).trans (ust_mir hg (turnK_ok hok q))
theorem ust_back {g : Int} (hg : 1 ≤ g) {l : List ByteArray} (hok : SkOk l) {q : Nat} (hq : q ≤ 3) : UsT g (mirP (turnK l q)) l := by
  have h1 := ust_mir hg (mirP_ok (turnK_ok hok q))
  rw [mir_mir (turnK_ok hok q)] at h1
  have h2 := ust_turns hg (turnK_ok hok q) ((4 - q) % 4)
  rw [turn_back hok hq] at h2
  exact h1.trans h2
theorem area_same {g : Int} {l l' : List ByteArray} (h : UsT g l l') (h' : UsT g l' l) {m m' : Rn} (hm : BestR (usb l g) false m) (hm' : BestR (usb l' g) false m') : m.a * m.b = m'.a * m'.b := by
  obtain ⟨r, k1, k2⟩ := h m hm.1
  obtain ⟨r', k3, k4⟩ := h' m' hm'.1
  have h1 := hm'.2 r k1
  have h2 := hm.2 r' k3
  unfold btr at h1 h2
  omega
/-- grades counted as a sum -/
def grN (l : List ByteArray) (j : Nat) (x y : Int) : Int := if gr l x y = (j : Int) then 1 else 0
theorem tlR_sm {l : List ByteArray} (hok : SkOk l) {k : Nat} (hk : k < l.length) (d : Nat → Int) (j : Nat) : ∀ q, q ≤ wid l → tlR d l[k] q j = d j + sm q (fun x => grN l j x k)
  | 0, _ => by simp [tlR, sm]
  | q + 1, hq => by
    have ih := tlR_sm hok hk d j q (by omega)
    have e := gr_cell (l := l) (x := q) (y := k) (by omega) hk
    have hb := cellB_rg hok q k
    rw [cellB_at hk] at e hb
    rw [tlR, sm]
    unfold upd
    by_cases h : j = byteAt l[k] q - 48
    · rw [if_pos h, ← h, ih]
      have e2 : grN l j (q : Int) (k : Int) = 1 := if_pos (by rw [e]; omega)
      rw [e2]; omega
    · rw [if_neg h, ih]
      have e2 : grN l j (q : Int) (k : Int) = 0 := if_neg (by rw [e]; omega)
      rw [e2]; omega
theorem tlK_sm {l : List ByteArray} (hok : SkOk l) (j : Nat) : ∀ k, k ≤ l.length → tlK l k j = sm2 (wid l) k (grN l j)
  | 0, _ => rfl
  | k + 1, hk => by
    rw [tlK_succ (show k < l.length by omega), tlR_sm hok (by omega) _ _ _ (by have := (hok.row (show k < l.length by omega)).1; omega), tlK_sm hok j k (by omega), (hok.row (show k < l.length by omega)).1]
    rfl
theorem sm_front (f : Int → Int) : ∀ n, sm (n + 1) f = f 0 + sm n fun i => f (i + 1)
  | 0 => by simp [sm]
  | n + 1 => by
    rw [sm, sm_front f n, sm]
    push_cast; omega
theorem sm_rev : ∀ (n : Nat) (f : Int → Int), sm n (fun i => f ((n : Int) - 1 - i)) = sm n f
  | 0, _ => rfl
  | n + 1, f => by
    rw [sm_front f n, ← sm_rev n (fun i => f (i + 1)), sm]
    have e1 : f (((n + 1 : Nat) : Int) - 1 - (n : Int)) = f 0 := by congr 1; push_cast; omega
    have e2 : sm n (fun i => f (((n + 1 : Nat) : Int) - 1 - i)) = sm n (fun i => f ((n : Int) - 1 - i + 1)) := sm_congr n fun i _ _ => by congr 1; push_cast; omega
    rw [e1, e2]; omega
theorem tl_mir {l : List ByteArray} (hok : SkOk l) (j : Nat) : tlK (mirP l) (mirP l).length j = tlK l l.length j := by
  rw [tlK_sm (mirP_ok hok) j _ (Nat.le_refl _), tlK_sm hok j _ (Nat.le_refl _), mir_len, mir_wid hok]
  refine sm_congr _ fun y _ _ => ?_
  rw [← sm_rev (wid l) (fun x => grN l j x y)]
  refine sm_congr _ fun x _ _ => ?_
  unfold grN
  rw [gr_mir hok]
theorem tl_turn {l : List ByteArray} (hok : SkOk l) (j : Nat) : tlK (turnP l) (turnP l).length j = tlK l l.length j := by
  rw [tlK_sm (turnP_ok hok) j _ (Nat.le_refl _), tlK_sm hok j _ (Nat.le_refl _), trn_len, trn_wid hok]
  unfold sm2
  rw [sm_swap (fun x y => grN l j x y)]
  refine sm_congr _ fun y _ _ => ?_
  rw [← sm_rev l.length (fun x => grN l j y x)]
  refine sm_congr _ fun x _ _ => ?_
  unfold grN
  rw [gr_turn hok]
theorem tl_stay {l : List ByteArray} (hok : SkOk l) (j : Nat) : ∀ k, tlK (mirP (turnK l k)) (mirP (turnK l k)).length j = tlK l l.length j := by
  intro k
  rw [tl_mir (turnK_ok hok k)]
  induction k with
  | zero => rfl
  | succ k ih => exact (tl_turn (turnK_ok hok k) j).trans ih
/-- ten numbers -/
def tenK (l : List ByteArray) : List Int := (List.range 10).map (tlK l l.length)
theorem tenK_len (l : List ByteArray) : (tenK l).length = 10 := by simp [tenK]
theorem tenK_isl {T : TypeId} {g : Nat} {l : List ByteArray} {w : World} (h : Ow T g 10 (tlK l l.length) w) : ISl w (some ⟨g, 0, none⟩) (tenK l) :=
  h.isl (tenK_len l) (fun j hj => by simp [tenK])
theorem tenK_stay {l : List ByteArray} (hok : SkOk l) (k : Nat) : tenK (mirP (turnK l k)) = tenK l :=
  List.map_congr_left fun j _ => tl_stay hok j k
/-- the turn back -/
theorem qn_back (k : Int) : qn (IntKind.i64.wrap (4 - (qn k : Int))) = (4 - qn k) % 4 := by
  have h := (qn_eq k).2
  obtain ⟨q, hq⟩ : ∃ q, q = qn k := ⟨_, rfl⟩
  rw [← hq] at h ⊢
  have : q = 0 ∨ q = 1 ∨ q = 2 ∨ q = 3 := by omega
  have hw : IntKind.i64.wrap (4 - (q : Int)) = 4 - (q : Int) := IntWalk.i64_in _ ⟨by omega, by omega⟩
  rw [hw]
  unfold qn wrap64
  clear hw hq
  rcases this with rfl | rfl | rfl | rfl <;> first | decide | rfl | simp
end Go.Proofs.YtmgofdgbenfjmaaDoor
