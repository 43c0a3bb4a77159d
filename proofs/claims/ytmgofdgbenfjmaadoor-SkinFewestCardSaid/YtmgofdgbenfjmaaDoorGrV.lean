/- Plain: what is taken and what is matched are all the chords. No conditions. -/
import Derived.Test.YtmgofdgbenfjmaaDoorDv2
namespace Go.Proofs.YtmgofdgbenfjmaaDoor
section
variable {adj : Nat → Nat → Bool} {nF n : Nat}
/-- how many of the first k searches find a partner -/
def sucK (adj : Nat → Nat → Bool) (n : Nat) : Nat → Nat
  | 0 => 0
  | k + 1 => sucK adj n k + if (ku adj n (n + 1) k (fun _ => false, kuAll adj n k)).1 then 1 else 0
def mtd (m : Nat → Int) (n i : Nat) : Bool := decide (cntI m (i : Int) n ≠ 0)
theorem suc_eq (ha : ∀ i j, adj i j = true → j < n) : ∀ k, sucK adj n k = ctb (mtd (kuAll adj n k) n) k
  | 0 => rfl
  | k + 1 => by
    have hA := kuA_all ha k
    have ih := suc_eq ha k
    have r := ku_ok (adj := adj) (n := n) (n + 1) k (fun _ => false, kuAll adj n k) (by show unm (fun _ => false) n < n + 1; rw [unm_all]; omega)
    show sucK adj n k + (if (ku adj n (n + 1) k (fun _ => false, kuAll adj n k)).1 then 1 else 0) = ctb (mtd (ku adj n (n + 1) k (fun _ => false, kuAll adj n k)).2.2 n) (k + 1)
    rw [ih]
    revert r
    generalize ku adj n (n + 1) k (fun _ => false, kuAll adj n k) = q
    intro r
    obtain ⟨ok, sn, m'⟩ := q
    have sp : ∀ f : Nat → Bool, ctb f (k + 1) = ctb f k + if f k then 1 else 0 := fun f => by
      unfold ctb
      rw [List.range_succ, List.filter_append, List.length_append]
      cases h : f k <;> simp [h]
    rw [sp]
    have h0 := hA.out k (Int.le_refl _)
    cases ok with
    | true =>
      have hc : ∀ v, 0 ≤ v → cntI m' v n = cntI (kuAll adj n k) v n + if v = (k : Int) then 1 else 0 := r.cnt rfl
      have e1 : ctb (mtd m' n) k = ctb (mtd (kuAll adj n k) n) k := by
        unfold ctb
        congr 1
        refine List.filter_congr fun i hi => ?_
        have := List.mem_range.1 hi
        unfold mtd
        rw [hc i (by omega), if_neg (by omega), Nat.add_zero]
      have e2 : mtd m' n k = true := by
        unfold mtd
        rw [hc k (by omega), if_pos rfl, h0]; rfl
      rw [e1, e2]
    | false =>
      have hm : m' = kuAll adj n k := r.no rfl
      subst hm
      have e2 : mtd (kuAll adj n k) n k = false := by
        unfold mtd
        rw [h0]; rfl
      rw [e2]
theorem ctb_not (f : Nat → Bool) (N : Nat) : ctb (fun j => !f j) N + ctb f N = N := by
  unfold ctb
  have : ∀ l : List Nat, (l.filter fun j => !f j).length + (l.filter f).length = l.length := fun l => by
    induction l with
    | nil => rfl
    | cons a l ih => cases h : f a <;> simp [h] at ih ⊢ <;> omega
  rw [this, List.length_range]
/-- what is taken and what is matched are all -/
theorem kuZ_eq (ha : ∀ i j, adj i j = true → i < nF ∧ j < n) : ctb (kuZ adj nF n).1 nF + ctb (fun j => !(kuZ adj nF n).2 j) n + sucK adj n nF = nF + n := by
  rw [suc_eq (fun i j h => (ha i j h).2)]
  have h0 : KuA adj n nF (kuM adj nF n) := kuA_all (adj := adj) (n := n) (fun i j h => (ha i j h).2) nF
  obtain ⟨hz, hr⟩ := kuZ_ok ha
  show _ + ctb (mtd (kuM adj nF n) n) nF = _
  revert h0 hz hr
  generalize kuM adj nF n = m
  generalize kuZ adj nF n = s
  intro h0 hz hr
  have a1 := ctb_not s.1 nF
  have a2 := ctb_not s.2 n
  -- matched: in, or not in
  have a3 : ctb (mtd m n) nF = ctb (fun i => mtd m n i && s.1 i) nF + ctb (fun i => !s.1 i) nF := by
    have h1 := filter_two (mtd m n) s.1 (List.range nF)
    have h2 : ((List.range nF).filter fun i => mtd m n i && !s.1 i) = (List.range nF).filter fun i => !s.1 i := List.filter_congr fun i hi => by
      cases hs : s.1 i with
      | true => simp
      | false =>
        have : mtd m n i = true := decide_eq_true fun e => by
          rw [hr i (List.mem_range.1 hi) e] at hs; cases hs
        rw [this]; rfl
    unfold ctb
    rw [h2] at h1
    omega
  have a4 : ctb (fun i => mtd m n i && s.1 i) nF = ctb s.2 n := by
    unfold ctb
    refine Nat.le_antisymm ?_ ?_
    · refine Nat.le_trans (nodup_len _ (((List.range n).filter s.2).map fun j => (m j).toNat) (List.nodup_range.filter _) fun i hi => ?_) (Nat.le_of_eq (List.length_map _))
      obtain ⟨k1, k2⟩ := List.mem_filter.1 hi
      rw [Bool.and_eq_true] at k2
      obtain ⟨j, hj, e⟩ := cntI_mem n (of_decide_eq_true k2.1)
      have haj := h0.adj_ j hj (by omega)
      rw [e, Int.toNat_natCast] at haj
      exact List.mem_map.2 ⟨j, List.mem_filter.2 ⟨List.mem_range.2 hj, hz.c1 i k2.2 j hj haj⟩, by rw [e, Int.toNat_natCast]⟩
    · refine Nat.le_trans (Nat.le_of_eq (List.length_map fun j => (m j).toNat).symm) (nodup_len _ _ (nodup_map_on (List.nodup_range.filter _) fun a hka b hkb e => ?_) fun i hi => ?_)
      · obtain ⟨a1, a2⟩ := List.mem_filter.1 hka
        obtain ⟨b1, b2'⟩ := List.mem_filter.1 hkb
        rw [List.mem_range] at a1 b1
        have ea := (hz.c2 a a2).1
        have eb := (hz.c2 b b2').1
        exact cntI_inj n (h0.one (m a) ea) a b a1 b1 rfl (by have e : (m a).toNat = (m b).toNat := e; omega)
      · obtain ⟨j, hj, e⟩ := List.mem_map.1 hi
        obtain ⟨j1, j2⟩ := List.mem_filter.1 hj
        rw [List.mem_range] at j1
        obtain ⟨c1, c2⟩ := hz.c2 j j2
        have haj := h0.adj_ j j1 c1
        have e : (m j).toNat = i := e
        rw [e] at haj c2
        refine List.mem_filter.2 ⟨List.mem_range.2 (ha i j haj).1, ?_⟩
        rw [Bool.and_eq_true]
        refine ⟨decide_eq_true ?_, c2⟩
        have := cntI_pos (f := m) (v := (i : Int)) n j1 (by omega)
        omega
  omega
end
theorem kuK_eq (F S : List Chd) : kuK F S + sucK (adjC F S) S.length F.length = F.length + S.length := kuZ_eq adjC_in
end Go.Proofs.YtmgofdgbenfjmaaDoor
