/- Plain law of SkinWhole: sums and punched boxes. Conditions: a skin. -/
import Derived.Test.YtdkoomcgnaokgaaDoorWhP
import Derived.Test.YtdkoomcgnaokgaaDoorPn
import Derived.Test.YtdkoomcgnaokgaaDoorTc
namespace Go.Proofs.YtdkoomcgnaokgaaDoor
open Go.RowKit

theorem rcn_row (l : List ByteArray) (g : Int) (y x : Nat) : ∀ k, rct l g y x k = (((rowL (x : Int) k (y : Int)).filter (usb l g)).length : Int)
  | 0 => by rw [rct_zero]; simp [rowL]
  | k + 1 => by
    have h := rcn_row l g y x k
    rw [rct_succ, h]
    have e : rowL (x : Int) (k + 1) (y : Int) = rowL (x : Int) k (y : Int) ++ [((x : Int) + (k : Int), (y : Int))] := by
      unfold rowL; rw [List.range_succ, List.map_append]; rfl
    rw [e, List.filter_append, List.length_append]
    rw [show ((x + k : Nat) : Int) = (x : Int) + (k : Int) by omega]
    by_cases hu : usb l g ((x : Int) + (k : Int), (y : Int)) = true
    · rw [if_pos hu, List.filter_cons_of_pos hu]; simp
    · rw [if_neg hu, List.filter_cons_of_neg hu]; simp
theorem cnt_flat (l : List ByteArray) (g : Int) (x y a : Nat) : ∀ b, cnt l g x y a b = ((((List.range b).flatMap fun (j : Nat) => rowL (x : Int) a ((y : Int) + (j : Int))).filter (usb l g)).length : Int)
  | 0 => by simp [cnt]
  | b + 1 => by
    rw [← cnt_snoc, cnt_flat l g x y a b, rcn_row]
    rw [List.range_succ, List.flatMap_append, List.filter_append, List.length_append]
    rw [show ((y + b : Nat) : Int) = (y : Int) + (b : Int) by omega]
    simp
theorem cnt_box (l : List ByteArray) (g : Int) {b : Bx} (hx : 0 ≤ b.x0) (hy : 0 ≤ b.y0) : cnt l g b.x0.toNat b.y0.toNat (b.x1 - b.x0 + 1).toNat (b.y1 - b.y0 + 1).toNat = (((boxCells b).filter (usb l g)).length : Int) := by
  rw [cnt_flat]
  unfold boxCells
  rw [show ((b.x0.toNat : Nat) : Int) = b.x0 by omega, show ((b.y0.toNat : Nat) : Int) = b.y0 by omega, show b.y1 - b.y0 + 1 = b.y1 + 1 - b.y0 by omega, show b.x1 - b.x0 + 1 = b.x1 + 1 - b.x0 by omega]
theorem pnP_ok {l : List ByteArray} (hok : SkOk l) (x y a b : Int) : SkOk (pnP l x y a b) := skF_ok ⟨hok.2.2.1, hok.2.2.2.1⟩ ⟨hok.1, hok.2.1⟩ fun i j _ _ => by
  unfold pnC
  split
  · omega
  · exact cellB_rg hok i j
theorem pnP_sz {l : List ByteArray} (hok : SkOk l) (x y a b : Int) : TSz (pnP l x y a b) := skF_sz hok.2.2.2.1
theorem pnP_len (l : List ByteArray) (x y a b : Int) : (pnP l x y a b).length = l.length := skF_len _ _ _
theorem pnP_wid {l : List ByteArray} (hok : SkOk l) (x y a b : Int) : wid (pnP l x y a b) = wid l := wid_skF hok.1
theorem cellB_skF2 {w h : Nat} {c : Nat → Nat → Nat} {x y : Nat} (hx : x < w) (hy : y < h) (hc : c x y < 256) : cellB (skF w h c) x y = c x y := by
  rw [cellB_at (show y < (skF w h c).length by rw [skF_len]; exact hy), skF_at]
  exact rowF_byte hx hc
theorem usb_in {l : List ByteArray} {g : Int} (hg : 1 ≤ g) {c : Cel} (h : usb l g c = true) : ∃ x y : Nat, c = ((x : Int), (y : Int)) ∧ x < wid l ∧ y < l.length := by
  have h1 := usb_grid hg h
  rw [mem_box] at h1
  unfold grid at h1
  simp only at h1
  exact ⟨c.1.toNat, c.2.toNat, Prod.ext (by simp; omega) (by simp; omega), by omega, by omega⟩
theorem usb_at {l : List ByteArray} {g : Int} {x y : Nat} (hx : x < wid l) (hy : y < l.length) : usb l g ((x : Int), (y : Int)) = true ↔ 48 + g ≤ (cellB l x y : Int) := by
  unfold usb
  rw [decide_eq_true_eq, gr_cell hx hy]
  constructor <;> intro h <;> omega
/-- a box punched out -/
def pnB (t : List ByteArray) (b : Bx) : List ByteArray := pnP t b.x0 b.y0 (b.x1 - b.x0 + 1) (b.y1 - b.y0 + 1)
theorem usb_pnB {t : List ByteArray} (hok : SkOk t) {g : Int} (hg : 1 ≤ g) {b : Bx} (hb : 0 ≤ b.x0 ∧ 0 ≤ b.y0) {c : Cel} (h : usb (pnB t b) g c = true) : usb t g c = true ∧ c ∉ boxCells b := by
  obtain ⟨x, y, rfl, hx, hy⟩ := usb_in hg h
  have ex : wid (pnB t b) = wid t := pnP_wid hok _ _ _ _
  have ey : (pnB t b).length = t.length := pnP_len _ _ _ _ _
  rw [usb_at hx hy] at h
  rw [ex] at hx
  rw [ey] at hy
  have hc : cellB (pnB t b) x y = pnC t b.x0.toNat b.y0.toNat (b.x1 - b.x0 + 1).toNat (b.y1 - b.y0 + 1).toNat x y := by
    refine cellB_skF2 hx hy ?_
    unfold pnC
    split
    · omega
    · have := cellB_rg hok x y; omega
  rw [hc] at h
  unfold pnC at h
  by_cases hin : PnIn b.x0.toNat b.y0.toNat (b.x1 - b.x0 + 1).toNat (b.y1 - b.y0 + 1).toNat x y
  · rw [if_pos hin] at h; omega
  · rw [if_neg hin] at h
    refine ⟨(usb_at hx hy).2 h, fun hm => hin ?_⟩
    rw [mem_box] at hm
    simp only at hm
    unfold PnIn
    omega
def pnK (l : List ByteArray) (ps : List Prt) : List ByteArray := ps.foldl (fun t p => pnB t p.b) l
theorem pnK_ok : ∀ (ps : List Prt) {l : List ByteArray}, SkOk l → SkOk (pnK l ps) ∧ wid (pnK l ps) = wid l ∧ (pnK l ps).length = l.length
  | [], _, h => ⟨h, rfl, rfl⟩
  | p :: ps, l, h => by
    obtain ⟨h1, h2, h3⟩ := pnK_ok ps (l := pnB l p.b) (pnP_ok h _ _ _ _)
    exact ⟨h1, h2.trans (pnP_wid h _ _ _ _), h3.trans (pnP_len _ _ _ _ _)⟩
theorem pnK_sz : ∀ (ps : List Prt) {l : List ByteArray}, SkOk l → TSz l → TSz (pnK l ps)
  | [], _, _, h => h
  | p :: ps, _, h, _ => pnK_sz ps (pnP_ok h _ _ _ _) (pnP_sz h _ _ _ _)
theorem pnK_usb {g : Int} (hg : 1 ≤ g) : ∀ (ps : List Prt) {l : List ByteArray}, SkOk l → (∀ p ∈ ps, 0 ≤ p.b.x0 ∧ 0 ≤ p.b.y0) → ∀ {c : Cel}, usb (pnK l ps) g c = true → usb l g c = true ∧ ∀ p ∈ ps, c ∉ boxCells p.b
  | [], _, _, _, _, h => ⟨h, by simp⟩
  | p :: ps, l, hok, hb, c, h => by
    obtain ⟨h1, h2⟩ := pnK_usb hg ps (l := pnB l p.b) (pnP_ok hok _ _ _ _) (fun q hq => hb q (by simp [hq])) h
    obtain ⟨h3, h4⟩ := usb_pnB hok hg (hb p (by simp)) h1
    refine ⟨h3, fun q hq => ?_⟩
    rcases List.mem_cons.1 hq with rfl | hq
    · exact h4
    · exact h2 q hq
theorem pnK_snoc (l : List ByteArray) (ps : List Prt) {k : Nat} (h : k < ps.length) : pnK l (ps.take (k + 1)) = pnB (pnK l (ps.take k)) ps[k].b := by
  unfold pnK
  rw [List.take_succ_eq_append_getElem h, List.foldl_append]; rfl
/-- the parts of a skin -/
def paP (l : List ByteArray) (g : Int) : List Prt := partsL (usb l g) (wid l) l.length 3000
/-- what the law asks of a part -/
def PaOk (l : List ByteArray) (g : Int) (p : Prt) : Prop := 1 ≤ p.n ∧ 4 ≤ p.e ∧ RcOk p.b.x0 p.b.y0 (p.b.x1 - p.b.x0 + 1) (p.b.y1 - p.b.y0 + 1) ∧ RcIn p.b.x0 p.b.y0 (p.b.x1 - p.b.x0 + 1) (p.b.y1 - p.b.y0 + 1) (wid l) l.length ∧ (p.n : Int) ≤ cnt l g p.b.x0.toNat p.b.y0.toNat (p.b.x1 - p.b.x0 + 1).toNat (p.b.y1 - p.b.y0 + 1).toNat
theorem whole {l : List ByteArray} {g : Int} (hok : SkOk l) (hg : 1 ≤ g) : (∀ p ∈ paP l g, PaOk l g p) ∧ ((((paP l g).map fun p => p.n).sum : Nat) : Int) = cnt l g 0 0 (wid l) l.length ∧ partsL (usb (pnK l (paP l g)) g) (wid (pnK l (paP l g))) (pnK l (paP l g)).length 3000 = [] := by
  obtain ⟨ls, h1, h2, h3, h4⟩ := partsL_lists (usb l g) (wid l) l.length 3000 (fun c hc => usb_grid hg hc)
  have hgr : ∀ L ∈ ls, ∀ c ∈ L, usb l g c = true := fun L hL c hc => (h3 c).1 (List.mem_flatten.2 ⟨L, hL, hc⟩)
  have hnd : ∀ L ∈ ls, L.Nodup := fun L hL => (List.pairwise_flatten.1 (List.nodup_iff_pairwise_ne.1 h2)).1 L hL
  have hbx : ∀ L ∈ ls, 0 ≤ (boxL L).x0 ∧ 0 ≤ (boxL L).y0 ∧ (boxL L).x1 ≤ (wid l : Int) - 1 ∧ (boxL L).y1 ≤ (l.length : Int) - 1 := fun L hL =>
    fold_in L Bx.no (by unfold Bx.no; simp only; omega) fun c hc => by
      have := usb_grid hg (hgr L hL c hc)
      rw [mem_box] at this
      unfold grid at this
      simp only at this
      exact ⟨this.1, this.2.1, this.2.2.1, this.2.2.2⟩
  have hp : ∀ p ∈ paP l g, ∃ L ∈ ls, p = partL L 3000 := fun p hp => by
    unfold paP at hp
    rw [h1] at hp
    obtain ⟨L, hL, e⟩ := List.mem_map.1 hp
    exact ⟨L, hL, e.symm⟩
  refine ⟨fun p hpm => ?_, ?_, ?_⟩
  · obtain ⟨L, hL, rfl⟩ := hp p hpm
    have hne := h4 L hL
    have hb := hbx L hL
    obtain ⟨c, hc⟩ : ∃ c, c ∈ L := by
      cases L with
      | nil => exact absurd rfl hne
      | cons a _ => exact ⟨a, by simp⟩
    have hcb := box_has hc
    rw [mem_box] at hcb
    refine ⟨List.length_pos_of_mem hc, edgeL_four hne, ?_, ?_, ?_⟩
    · show RcOk (boxL L).x0 (boxL L).y0 ((boxL L).x1 - (boxL L).x0 + 1) ((boxL L).y1 - (boxL L).y0 + 1)
      unfold RcOk; omega
    · show RcIn (boxL L).x0 (boxL L).y0 ((boxL L).x1 - (boxL L).x0 + 1) ((boxL L).y1 - (boxL L).y0 + 1) _ _
      unfold RcIn; omega
    · show (L.length : Int) ≤ cnt l g (boxL L).x0.toNat (boxL L).y0.toNat ((boxL L).x1 - (boxL L).x0 + 1).toNat ((boxL L).y1 - (boxL L).y0 + 1).toNat
      rw [cnt_box l g hb.1 hb.2.1]
      have := nodup_len L ((boxCells (boxL L)).filter (usb l g)) (hnd L hL) fun d hd => List.mem_filter.2 ⟨box_has hd, hgr L hL d hd⟩
      omega
  · have e : ((paP l g).map fun p => p.n).sum = ls.flatten.length := by
      unfold paP; rw [h1]; exact sum_len ls 3000
    rw [e]
    have h5 := cnt_box l g (b := grid l) (Int.le_refl 0) (Int.le_refl 0)
    have e1 : ((grid l).x1 - (grid l).x0 + 1).toNat = wid l := by unfold grid; simp only; omega
    have e2 : ((grid l).y1 - (grid l).y0 + 1).toNat = l.length := by unfold grid; simp only; omega
    rw [e1, e2] at h5
    rw [show cnt l g 0 0 (wid l) l.length = cnt l g (grid l).x0.toNat (grid l).y0.toNat (wid l) l.length from rfl, h5]
    have := nodup_eq h2 (m := (boxCells (grid l)).filter (usb l g)) (List.nodup_iff_pairwise_ne.2 (List.Pairwise.filter _ (List.nodup_iff_pairwise_ne.1 (boxCells_nodup (grid l))))) fun c => by
      rw [h3 c, List.mem_filter]
      exact ⟨fun h => ⟨usb_grid hg h, h⟩, fun h => h.2⟩
    omega
  · refine partsL_nil _ _ _ fun c => ?_
    by_cases hu : usb (pnK l (paP l g)) g c = true
    · exfalso
      obtain ⟨k1, k2⟩ := pnK_usb hg (paP l g) hok (fun p hpm => by
        obtain ⟨L, hL, rfl⟩ := hp p hpm
        exact ⟨(hbx L hL).1, (hbx L hL).2.1⟩) hu
      obtain ⟨L, hL, hc⟩ := List.mem_flatten.1 ((h3 c).2 k1)
      exact k2 (partL L 3000) (by unfold paP; rw [h1]; exact List.mem_map.2 ⟨L, hL, rfl⟩) (box_has hc)
    · exact Bool.eq_false_iff.2 hu
end Go.Proofs.YtdkoomcgnaokgaaDoor
