/- Plain: what split finds is a least division. No conditions. -/
import Derived.Test.YtmgofdgbenfjmaaDoorSp1
import Derived.Test.YtmgofdgbenfjmaaDoorOpn
namespace Go.Proofs.YtmgofdgbenfjmaaDoor
section
variable {u : Int → Int → Bool} {w h : Nat} {F S : List Chd} {C : List Cel} {r : Cel → Int}
theorem walV_cov (hF : ∀ c ∈ takF F S, c.1.2 = c.2.2) (hS : ∀ c ∈ takS F S, c.1.1 = c.2.1 ∧ c.1.2 < c.2.2) (d : Cel) : walV (takF F S ++ takS F S) d = covV (takS F S) d.1 d.2 := by
  rw [Bool.eq_iff_iff, covV_iff]
  unfold walV vwl
  rw [List.any_eq_true]
  constructor
  · rintro ⟨c, hc, k⟩
    have k := of_decide_eq_true k
    rcases List.mem_append.1 hc with hc | hc
    · have := hF c hc; omega
    · have := hS c hc; exact ⟨c, hc, by omega, by omega, by omega⟩
  · rintro ⟨c, hc, k⟩
    have := hS c hc
    exact ⟨c, List.mem_append.2 (.inr hc), decide_eq_true (by omega)⟩
theorem endD_dn (d : Cel) : endD (takF F S ++ takS F S) d = dnC F S d := by
  rw [Bool.eq_iff_iff]
  unfold endD dnC endsL
  rw [List.any_eq_true, decide_eq_true_iff]
  simp only [List.mem_append, List.mem_map, Bool.or_eq_true, decide_eq_true_eq]
  constructor
  · rintro ⟨c, hc | hc, rfl | rfl⟩
    · exact .inl (.inl ⟨c, hc, rfl⟩)
    · exact .inl (.inr ⟨c, hc, rfl⟩)
    · exact .inr (.inl ⟨c, hc, rfl⟩)
    · exact .inr (.inr ⟨c, hc, rfl⟩)
  · rintro ((⟨c, hc, rfl⟩ | ⟨c, hc, rfl⟩) | (⟨c, hc, rfl⟩ | ⟨c, hc, rfl⟩))
    · exact ⟨c, .inl hc, .inl rfl⟩
    · exact ⟨c, .inl hc, .inr rfl⟩
    · exact ⟨c, .inr hc, .inl rfl⟩
    · exact ⟨c, .inr hc, .inr rfl⟩
theorem walH_cov (hF : ∀ c ∈ takF F S, c.1.2 = c.2.2 ∧ c.1.1 < c.2.1) (hS : ∀ c ∈ takS F S, c.1.1 = c.2.1) (d : Cel) : (walH (takF F S ++ takS F S) d || rayK (endD (takF F S ++ takS F S)) r C d) = covH (cutH F S C r) d.1 d.2 := by
  rw [Bool.eq_iff_iff, covH_iff, Bool.or_eq_true]
  unfold walH rayK hwl cutH
  rw [List.any_eq_true, List.any_eq_true]
  constructor
  · rintro (⟨c, hc, k⟩ | ⟨c, hc, k⟩)
    · have k := of_decide_eq_true k
      rcases List.mem_append.1 hc with hc | hc
      · have := hF c hc
        exact ⟨segF c, List.mem_append.2 (.inl (List.mem_map.2 ⟨c, hc, rfl⟩)), by show c.1.1 ≤ d.1; omega, by show d.1 < c.2.1; omega, by show c.1.2 = d.2; omega⟩
      · have := hS c hc; omega
    · rw [Bool.and_eq_true, endD_dn] at k
      have k2 := of_decide_eq_true k.2
      refine ⟨rayS c (r c), List.mem_append.2 (.inr (List.mem_map.2 ⟨c, List.mem_filter.2 ⟨hc, k.1⟩, rfl⟩)), ?_⟩
      unfold rayS
      split
      · exact ⟨by show c.1 ≤ d.1; omega, by show d.1 < r c; omega, by show c.2 = d.2; omega⟩
      · exact ⟨by show r c ≤ d.1; omega, by show d.1 < c.1; omega, by show c.2 = d.2; omega⟩
  · rintro ⟨s, hs, k1, k2, k3⟩
    rcases List.mem_append.1 hs with hs | hs
    · obtain ⟨c, hc, rfl⟩ := List.mem_map.1 hs
      have := hF c hc
      have k1 : c.1.1 ≤ d.1 := k1
      have k2 : d.1 < c.2.1 := k2
      have k3 : c.1.2 = d.2 := k3
      exact .inl ⟨c, List.mem_append.2 (.inl hc), decide_eq_true (by omega)⟩
    · obtain ⟨c, hc, rfl⟩ := List.mem_map.1 hs
      obtain ⟨h1, h2⟩ := List.mem_filter.1 hc
      refine .inr ⟨c, h1, ?_⟩
      rw [Bool.and_eq_true, endD_dn]
      refine ⟨h2, decide_eq_true ?_⟩
      unfold rayS at k1 k2 k3
      split at k1
      · rename_i hh
        rw [if_pos hh] at k2 k3
        have k1 : c.1 ≤ d.1 := k1
        have k2 : d.1 < r c := k2
        have k3 : c.2 = d.2 := k3
        omega
      · rename_i hh
        rw [if_neg hh] at k2 k3
        have k1 : r c ≤ d.1 := k1
        have k2 : d.1 < c.1 := k2
        have k3 : c.2 = d.2 := k3
        omega
theorem open_hng {H : List Seg} {V : List Chd} {fa fb : Cel → Bool} (ha : ∀ d, fa d = covH H d.1 d.2) (hb : ∀ d, fb d = covV V d.1 d.2) (c d : Cel) (hc : u c.1 c.2 = true) (hd : u d.1 d.2 = true) : d ∈ openL fa fb c ↔ Hng (plnC u H V) c d := by
  unfold openL Hng plnC
  rw [List.mem_filter]
  obtain ⟨x, y⟩ := c
  obtain ⟨x', y'⟩ := d
  dsimp only at hc hd ⊢
  have e1 : y + 1 - 1 = y := by omega
  have e2 : x + 1 - 1 = x := by omega
  rw [e1, e2]
  constructor
  · rintro ⟨h1, h2⟩
    simp only [sidesL, List.mem_cons, List.not_mem_nil, or_false] at h1
    unfold walB at h2
    dsimp only at h2
    rcases h1 with h1 | h1 | h1 | h1 <;> (obtain ⟨rfl, rfl⟩ := Prod.mk.injEq .. ▸ h1)
    · rw [show max y (y - 1) = y by omega, ha] at h2
      simp only [decide_true, Bool.true_and, Bool.not_or, Bool.and_eq_true] at h2
      exact .inl ⟨rfl, by rw [hc, hd, h2.1]; rfl⟩
    · rw [show max x (x - 1) = x by omega, hb] at h2
      simp only [decide_true, Bool.true_and, Bool.not_or, Bool.and_eq_true] at h2
      exact .inr (.inr (.inl ⟨rfl, by rw [hc, hd, h2.2]; rfl⟩))
    · rw [show max x (x + 1) = x + 1 by omega, hb] at h2
      simp only [decide_true, Bool.true_and, Bool.not_or, Bool.and_eq_true] at h2
      exact .inr (.inr (.inr ⟨rfl, by rw [hc, hd, h2.2]; rfl⟩))
    · rw [show max y (y + 1) = y + 1 by omega, ha] at h2
      simp only [decide_true, Bool.true_and, Bool.not_or, Bool.and_eq_true] at h2
      exact .inr (.inl ⟨rfl, by rw [hc, hd, h2.1]; rfl⟩)
  · have nx1 : decide (x - 1 = x) = false := decide_eq_false (by omega)
    have nx2 : decide (x + 1 = x) = false := decide_eq_false (by omega)
    have ny1 : decide (y - 1 = y) = false := decide_eq_false (by omega)
    have ny2 : decide (y + 1 = y) = false := decide_eq_false (by omega)
    rintro (⟨h1, h2⟩ | ⟨h1, h2⟩ | ⟨h1, h2⟩ | ⟨h1, h2⟩) <;> (obtain ⟨rfl, rfl⟩ := Prod.mk.injEq .. ▸ h1) <;> simp only [Bool.and_eq_true] at h2 <;> refine ⟨by simp [sidesL], ?_⟩ <;> unfold walB <;> dsimp only
    · rw [show max y (y - 1) = y by omega, ha, ny1]; simpa using h2.2
    · rw [show max y (y + 1) = y + 1 by omega, ha, ny2]; simpa using h2.2
    · rw [show max x (x - 1) = x by omega, hb, nx1]; simpa using h2.2
    · rw [show max x (x + 1) = x + 1 by omega, hb, nx2]; simpa using h2.2
end
/-- what split finds -/
def splB (u : Int → Int → Bool) (w h n : Nat) : List Bx :=
  let C := cornK u (w + 1) ((w + 1) * (h + 1))
  let L := takF (chF u C) (chS u C) ++ takS (chF u C) (chS u C)
  (spK (fun c => u c.1 c.2) (openL (fun d => walH L d || rayK (endD L) (fun c => stopX (walV L) c.1 c.2 (wayT u c.1 c.2)) C d) (walV L)) n w (w * h)).2
def splK (u : Int → Int → Bool) (w h : Nat) : Nat := kuK (chF u (cornK u (w + 1) ((w + 1) * (h + 1)))) (chS u (cornK u (w + 1) ((w + 1) * (h + 1))))
theorem split_least {u : Int → Int → Bool} {w h n : Nat} (hs : ∀ x y, u x y = true → 0 ≤ x ∧ x < w ∧ 0 ≤ y ∧ y < h) (hw : w ≤ 48) (hh : h ≤ 48) (hn : 2304 ≤ n) :
    Dv u (splB u w h n) ∧ (∀ l', Dv u l' → (splB u w h n).length ≤ l'.length) ∧ 4 * ((splB u w h n).length : Int) = sm2 (w + 1) (h + 1) (chiU u) + 4 * (sm2 (w + 1) (h + 1) (fun x y => b2 (q3 u x y)) - splK u w h) := by
  have hC := mem_cornK (w := w) (h := h) hs
  have hCn := cornK_nodup u (w + 1) ((w + 1) * (h + 1))
  have hCr : ∀ c ∈ cornK u (w + 1) ((w + 1) * (h + 1)), 0 ≤ c.1 ∧ c.1 ≤ 48 ∧ 0 ≤ c.2 ∧ c.2 ≤ 48 := fun c hc => by
    have := q3_in hs ((hC c).1 hc); omega
  unfold splB splK
  dsimp only
  generalize cornK u (w + 1) ((w + 1) * (h + 1)) = C at hC hCn hCr ⊢
  have hF := chF_all hs hw hC fun c hc => by have := hCr c hc; omega
  have hS := chS_all hs hh hC fun c hc => by have := hCr c hc; omega
  have hFn := chF_nodup (u := u) hCn
  have hSn := chS_nodup (u := u) hCn
  generalize chF u C = F at hF hFn ⊢
  generalize chS u C = S at hS hSn ⊢
  have tF : ∀ a ∈ takF F S, isF u a := fun a ha => (hF a).1 ((sub_pk _ F 0).subset ha)
  have tS : ∀ a ∈ takS F S, isS u a := fun a ha => (hS a).1 ((sub_pk _ S 0).subset ha)
  have hV := walV_cov (F := F) (S := S) (fun c hc => (tF c hc).1) (fun c hc => ⟨(tS c hc).1, (tS c hc).2.1⟩)
  generalize hfb : walV (takF F S ++ takS F S) = fb at hV ⊢
  have hway : ∀ c ∈ C, Way u c (wayT u c.1 c.2) := fun c hc => way_ok hs hw (by have := hCr c hc; omega) ((hC c).1 hc)
  have hstp : ∀ c ∈ C, Stp (takS F S) c (wayT u c.1 c.2) (stopX fb c.1 c.2 (wayT u c.1 c.2)) := fun c hc => by
    have h1 := hCr c hc
    have h2 := way_rg hs hw (x := c.1) (y := c.2) ⟨h1.1, h1.2.1⟩
    refine stop_ok (V := takS F S) (fun b hb => (tS b hb).2.1) hV (x := c.1) (y := c.2) (by omega) h2 fun e => ?_
    rcases hway c hc with ⟨_, k, _⟩ | ⟨_, k, _⟩ <;> omega
  have hH := walH_cov (F := F) (S := S) (C := C) (r := fun c => stopX fb c.1 c.2 (wayT u c.1 c.2)) (fun c hc => ⟨(tF c hc).1, (tF c hc).2.1⟩) (fun c hc => (tS c hc).1)
  have hcut := cuts_ok (u := u) (F := F) (S := S) (C := C) (t := fun c => wayT u c.1 c.2) (r := fun c => stopX fb c.1 c.2 (wayT u c.1 c.2)) (fun c hc => (hF c).1 hc) (fun c hc => (hS c).1 hc) hC hway hstp
  have hlen := cuts_len (u := u) (F := F) (S := S) (C := C) (r := fun c => stopX fb c.1 c.2 (wayT u c.1 c.2)) hs hFn (fun c hc => (hF c).1 hc) hSn (fun c hc => (hS c).1 hc) hCn hC
  obtain ⟨d1, d2⟩ := sp_dv (p := plnC u (cutH F S C fun c => stopX fb c.1 c.2 (wayT u c.1 c.2)) (takS F S)) (nx := openL (fun d => walH (takF F S ++ takS F S) d || rayK (endD (takF F S ++ takS F S)) (fun c => stopX fb c.1 c.2 (wayT u c.1 c.2)) C d) fb) (okC hcut hs) hw hh (fun c d hc hd => open_hng hH hV c d hc hd) hn
  obtain ⟨e1, e2⟩ := least_cut hcut hs d1 d2 hFn hF hSn hS (kuK_most F S) hlen
  exact ⟨d1, e1, e2⟩
end Go.Proofs.YtmgofdgbenfjmaaDoor
