/- slices.Clone, IndexFunc and DeleteFunc at ints, walked. Conditions: the row is the call's own; the closure answers as ch. -/
import Derived.Test.YtbhjhajnhpohlaaFwP
import Derived.Test.YtbhjhajnhpohlaaTl
import Derived.Lib.SliceRun
import Derived.Laws.IdiomCopy
import Derived.Lib.EndianMore
namespace Go.Proofs.Ytbhjhajnhpohlaa
open Go.RowKit

theorem some_nilI (W : World) (a : Addr) (n c : Nat) : (binOp .eql 35 (.slice (some a) n c) (.slice none 0 0)).run Try.prog W = .ok (.bool false) W := by kernel_rfl
theorem nil_nilI (W : World) : (binOp .eql 35 (.slice none 0 0) (.slice none 0 0)).run Try.prog W = .ok (.bool true) W := by kernel_rfl
theorem add_addr (b off j : Nat) : (⟨b, off, none⟩ : Addr).add j = ⟨b, off + j, none⟩ := by
  simp only [Addr.add]
  split <;> simp_all
section
variable {base g n cap : Nat} {w : World} {l : List Int}
/-- an element of the row is overwritten -/
theorem Vi.setI (h : Vi base w (.slice (some ⟨g, 0, none⟩) n cap) l) {i : Nat} (hi : i < l.length) (m : Int) :
    Vi base (w.setCell ⟨g, i, none⟩ (.int .i64 m)) (.slice (some ⟨g, 0, none⟩) n cap) (l.set i m) := by
  obtain ⟨hl, h⟩ := h
  rcases h with ⟨hv, h0⟩ | ⟨g', c, cur, hv, hg, hh, hn, hm, hcur, hx⟩
  · omega
  · injection hv with e1 e2 e3
    injection e1 with e1
    injection e1 with e1
    subst e1 e2 e3
    have h1 := (show Bk 3 w g cur from hh).set i (.int .i64 m)
    have e : ints (l.set i m) = (ints l).set i (.int .i64 m) := by unfold ints; rw [List.map_set]
    refine ⟨by rw [e]; simpa using hl, .inr ⟨g, cap, _, by rw [List.length_set], hg, h1, by rw [List.length_set]; exact hn, hm, by simpa using hcur, ?_⟩⟩
    rw [e, List.length_set]
    simp only [Array.toList_setIfInBounds]
    rw [List.take_set, hx]
theorem Vi.at1 (h : Vi base w (.slice (some ⟨g, 0, none⟩) n cap) l) {i : Nat} (hi : i < l.length) : w.cell? ⟨g, i, none⟩ = some (.int .i64 l[i]) ∧ w.frozen? ⟨g, i, none⟩ = false ∧ g < w.heap.size ∧ base ≤ g := by
  obtain ⟨hl, h⟩ := h
  rcases h with ⟨hv, h0⟩ | ⟨g', c, cur, hv, hg, hh, hn, hm, hcur, hx⟩
  · omega
  · injection hv with e1 e2 e3
    injection e1 with e1
    injection e1 with e1
    subst e1 e2 e3
    have hb : Bk 3 w g cur := hh
    have hq : (ints l)[i]? = some (.int .i64 l[i]) := by simp [ints, hi]
    rw [← hx, List.getElem?_take] at hq
    refine ⟨?_, hb.frozen _, hb.lt, hg⟩
    rw [hb.cell]
    split at hq
    · simpa using hq
    · cases hq
end
set_option maxRecDepth 100000 in
set_option maxHeartbeats 2000000 in
theorem cloneI_any (base : Nat) (v : Value) (l : List Int) (w : World) (hl : l.length ≤ 1000) (h : Vi base w v l) :
    Calls Try.prog 86 #[v] w fun e w' => ∃ v', e = .returned v' ∧ Vi w.heap.size w' v' l ∧ Below w.heap.size w w' := by
  have hnn := nil_nilI
  have hsn := some_nilI
  by_cases h0 : v = .slice none 0 0
  · have hz : l = [] := by
      rcases h.2 with ⟨_, h1⟩ | ⟨g, c, cur, hv, _⟩
      · exact List.eq_nil_of_length_eq_zero h1
      · rw [h0] at hv; cases hv
    subst h0 hz
    clear h
    go_enter Try.func86, Try.ntmps86
    go_wp2
    go_ret
    exact ⟨_, rfl, Vi.nil _ _, Below.refl _ _⟩
  · obtain ⟨b, cap, rfl, hat⟩ : ∃ b cap, v = .slice (some ⟨b, 0, none⟩) l.length cap ∧ ∀ i (hi : i < l.length), w.cell? ⟨b, 0 + i, none⟩ = some (.int .i64 l[i]) ∧ b < w.heap.size := by
      rcases h.2 with ⟨h1, _⟩ | ⟨g, c, cur, hv, _⟩
      · exact absurd h1 h0
      · refine ⟨g, c, hv, fun i hi => ?_⟩
        rw [hv] at h
        rw [Nat.zero_add]
        exact ⟨(h.at1 hi).1, (h.at1 hi).2.2.1⟩
    have hx := ext_alloc w (.cells #[] 3)
    have HOW := Lib.hid (show (w.alloc (.cells #[] 3)).ownsRow w.heap.size 3 1 (.slice (some ⟨w.heap.size, 0, none⟩) 0 0) 0 [] from own_new (Nat.le_refl _) rfl (by decide))
    have HN := Lib.hid (show ∀ (j : Nat) u, (ints l)[j]? = some u → (w.alloc (.cells #[] 3)).cell? ((⟨b, 0, none⟩ : Addr).add j) = some u from fun j u hu => by
      have hj : j < l.length := by
        have := (List.getElem?_eq_some_iff.1 hu).1
        rwa [ints_len] at this
      rw [add_addr, hx.cell (p := ⟨b, 0 + j, none⟩) (hat j hj).2, (hat j hj).1]
      have : (ints l)[j]? = some (.int .i64 l[j]) := by simp [ints, hj]
      rw [this] at hu
      exact hu)
    have HNL := Lib.hid (ints_len l)
    obtain ⟨i, hi, hz, hsz, hby⟩ := info_parts info_int
    have HI := Lib.hid (And.intro hi (And.intro hz (And.intro hsz hby)))
    clear hx hat hi hz hsz hby h h0
    go_enter Try.func86, Try.ntmps86
    go_wp2_with (at_builtin; refine wpList_append_own _ rfl _ _ 35 rfl w.heap.size 3 i (.int .i64 0) 1 8 Try.underlying35 HI.out.1 HI.out.2.1 HI.out.2.2.1 HI.out.2.2.2 rfl (by decide) _ 0 [] (by rfl) HOW.out ⟨b, 0, none⟩ l.length cap (ints l) (by rfl) (by rw [HNL.out, Nat.mul_one]) HN.out (by intro u hu; obtain ⟨s, _, rfl⟩ := List.mem_map.1 hu; rfl) (by unfold maxLen; omega) (by omega) (by simp) ?_; intro v' w' hv hgr _; have HV := Lib.hid hv; have HGR := Lib.hid hgr; clear hv hgr)
    have hv : Vi w.heap.size w' v' l := by
      have hv := HV.out
      rw [Nat.zero_add, List.nil_append] at hv
      exact hv
    go_ret
    exact ⟨_, rfl, hv, ((Below.refl _ w).alloc (Nat.le_refl _) _).grown HGR.out (by simp) (fun k hk => by injection hk with hk; simp at hk; omega)⟩
/-- the closure answers ch, wherever nothing below base has turned -/
def ChI (base : Nat) (w : World) (K : FuncId) (caps : Array Value) (xs : List Int) (ch : Int → Bool) : Prop :=
  Enters K ∧ ∀ W, Below base w W → base ≤ W.heap.size → ∀ x ∈ xs, Calls Try.prog K (#[.int .i64 x] ++ caps) W fun e w' => e = .returned (.bool (ch x)) ∧ Below W.heap.size W w'
/-- where the first one is -/
def fdx (ch : Int → Bool) (xs : List Int) : Int := match xs.findIdx? ch with
  | none => -1
  | some i => i
set_option maxRecDepth 100000 in
set_option maxHeartbeats 4000000 in
theorem indexI_any (base : Nat) (A : Option Addr) (cap : Nat) (xs : List Int) (K : FuncId) (caps : Array Value) (ch : Int → Bool) (w : World) (hb : base ≤ w.heap.size) (hn : xs.length ≤ 1000) (h : ISl w A xs) (hch : ChI base w K caps xs ch) :
    Calls Try.prog 94 #[.slice A xs.length cap, .func (.func K) #[] caps] w fun e w' => e = .returned (.int .i64 (fdx ch xs)) ∧ Below w.heap.size w w' := by
  have HM := Lib.hid h
  have HC := Lib.hid hch.2
  have hen := hch.1
  unfold Enters at hen
  have HBS := Lib.hid hb
  clear h hch hb
  go_enter Try.func94, Try.ntmps94
  go_wp2
  go_loopg [8] xs.length (fun g i wr => ∃ k : Nat, i = .int .i64 k ∧ k ≤ xs.length ∧ g = xs.length - k ∧ Below w.heap.size w wr ∧ ∀ j (h : j < xs.length), j < k → ch xs[j] = false)
  case atStart => exact ⟨0, rfl, by omega, by omega, Below.refl _ _, fun j _ h => by omega⟩
  case round =>
    obtain ⟨k, rfl, hk, hg, hb, hp⟩ := hrel
    have HG := Lib.hid hg
    have HP := Lib.hid hp
    have HB := Lib.hid hb
    clear hg hp hb
    by_cases hlt : k < xs.length
    · rcases HM.out.ext HB.out with hf | ⟨b, off, rfl, hblt, hcl⟩
      · rw [hf] at hlt; simp at hlt
      · have c1 := hcl k hlt
        have HCX := Lib.hid (HC.out wr (HB.out.mono HBS.out) (Nat.le_trans HBS.out HB.out.size) xs[k] (List.getElem_mem hlt))
        obtain ⟨m, hm⟩ : ∃ m, m = xs[k] := ⟨_, rfl⟩
        rw [← hm] at c1 HCX
        have HMM := Lib.hid hm
        clear hm hcl
        cases hd : ch m
        · rw [hd] at HCX
          have HN := Lib.hid (show ∀ j (h : j < xs.length), j < k + 1 → ch xs[j] = false from fun j h hjk => by
            by_cases e : j = k
            · subst e; rw [← HMM.out]; exact hd
            · exact HP.out j h (by omega))
          clear hd
          go_wp2_with (refine HCX.out.mono ?_; rintro e w1 ⟨rfl, hx1⟩)
          go_roundg (xs.length - (k + 1))
          case measure => have := HG.out; omega
          case rel => exact ⟨k + 1, by go_num, by omega, rfl, bext HB.out hx1 HB.out.size, HN.out⟩
        · rw [hd] at HCX
          have HR := Lib.hid (show fdx ch xs = (k : Int) from by
            unfold fdx
            have e : xs.findIdx? ch = some k := by
              rw [List.findIdx?_eq_some_iff_getElem]
              exact ⟨hlt, by rw [← HMM.out]; exact hd, fun j hjk => by simpa using HP.out j (by omega) hjk⟩
            rw [e])
          clear hd
          go_wp2_with (refine HCX.out.mono ?_; rintro e w1 ⟨rfl, hx1⟩)
          go_ret
          exact ⟨by rw [HR.out]; rfl, bext HB.out hx1 HB.out.size⟩
    · obtain rfl : k = xs.length := by omega
      have HR := Lib.hid (show fdx ch xs = -1 from by
        unfold fdx
        have e : xs.findIdx? ch = none := by
          rw [List.findIdx?_eq_none_iff]
          intro m hm
          obtain ⟨j, hj, rfl⟩ := List.getElem_of_mem hm
          exact HP.out j hj hj
        rw [e])
      go_wp2
      go_ret
      exact ⟨by rw [HR.out]; rfl, HB.out⟩
theorem fdx_none {ch : Int → Bool} {xs : List Int} (h : fdx ch xs = -1) : xs.filter (fun x => !ch x) = xs := by
  unfold fdx at h
  split at h
  · rename_i e
    rw [List.filter_eq_self]
    intro x hx
    rw [List.findIdx?_eq_none_iff.1 e x hx]; rfl
  · omega
theorem fdx_some {ch : Int → Bool} {xs : List Int} (h : fdx ch xs ≠ -1) : ∃ i : Nat, fdx ch xs = i ∧ i < xs.length ∧ (xs.take (i + 1)).filter (fun x => !ch x) = xs.take i := by
  unfold fdx at h ⊢
  split at h
  · exact absurd rfl h
  · rename_i i e
    obtain ⟨hi, h1, h2⟩ := List.findIdx?_eq_some_iff_getElem.1 e
    refine ⟨i, rfl, hi, ?_⟩
    rw [List.take_succ_eq_append_getElem hi, List.filter_append]
    have e1 : (xs.take i).filter (fun x => !ch x) = xs.take i := by
      rw [List.filter_eq_self]
      intro x hx
      obtain ⟨j, hj, rfl⟩ := List.getElem_of_mem hx
      rw [List.length_take] at hj
      rw [List.getElem_take]
      simpa using h2 j (by omega)
    rw [e1]
    simp [h1]
theorem keep_yes {ch : Int → Bool} {xs cs : List Int} {i j : Nat} (hj : j < xs.length) (hij : i ≤ j) (hc : cs.length = xs.length) (h : ch xs[j] = false) (h1 : cs.take i = (xs.take j).filter fun x => !ch x) (h2 : ∀ q (h : q < xs.length), j ≤ q → cs[q]'(by omega) = xs[q]) :
    (cs.set i xs[j]).take (i + 1) = (xs.take (j + 1)).filter (fun x => !ch x) ∧ ∀ q (h : q < xs.length), j + 1 ≤ q → (cs.set i xs[j])[q]'(by simp; omega) = xs[q] := by
  constructor
  · rw [List.take_succ_eq_append_getElem (by simp; omega), List.take_succ_eq_append_getElem hj, List.filter_append, ← h1]
    congr 1
    · exact List.take_set_of_le (Nat.le_refl _)
    · simp [h]
  · intro q hq hjq
    rw [List.getElem_set_ne (by omega)]
    exact h2 q hq (by omega)
theorem keep_no {ch : Int → Bool} {xs cs : List Int} {i j : Nat} (hj : j < xs.length) (h : ch xs[j] = true) (h1 : cs.take i = (xs.take j).filter fun x => !ch x) : cs.take i = (xs.take (j + 1)).filter fun x => !ch x := by
  rw [List.take_succ_eq_append_getElem hj, List.filter_append, h1]
  simp [h]
theorem size_setC (b : Nat) : ∀ (vs : List Value) (o : Nat) (w : World), (w.setCells b o vs).heap.size = w.heap.size
  | [], _, _ => rfl
  | v :: vs, o, w => by
    show ((w.setCell ⟨b, o, none⟩ v).setCells b (o + 1) vs).heap.size = _
    rw [size_setC b vs, World.size_setCell]
/-- what lies below the row's base is kept while the row turns -/
theorem isl_set {w : World} {g o : Nat} {vs : List Value} {l : List Int} (h : ∀ j (h : j < l.length), w.cell? ⟨g, j, none⟩ = some (.int .i64 l[j])) (hl : l.length ≤ o) (hg : g < w.heap.size) (hs : (w.setCells g o vs).heap.size = w.heap.size) : ISl (w.setCells g o vs) (some ⟨g, 0, none⟩) l := by
  refine .inr ⟨g, 0, rfl, by rw [hs]; exact hg, fun j hj => ?_⟩
  rw [Nat.zero_add, World.cell?_setCells_out g vs o w ⟨g, j, none⟩ (fun _ _ => .inl (by show j < o; omega))]
  exact h j hj
set_option maxRecDepth 100000 in
set_option maxHeartbeats 4000000 in
theorem deleteI_any (base : Nat) (v : Value) (xs : List Int) (K : FuncId) (caps : Array Value) (ch : Int → Bool) (w : World) (hb : base ≤ w.heap.size) (hn : xs.length ≤ 1000) (h : Vi base w v xs) (hch : ChI base w K caps xs ch) :
    Calls Try.prog 85 #[v, .func (.func K) #[] caps] w fun e w' => ∃ A c, e = .returned (.slice A (xs.filter fun x => !ch x).length c) ∧ (xs.filter fun x => !ch x).length ≤ c ∧ c ≤ maxLen ∧ ISl w' A (xs.filter fun x => !ch x) ∧ Below base w w' ∧ ∀ a, A = some a → base ≤ a.block := by
  obtain ⟨A, cap, rfl, hc1, hc2, hisl⟩ := h.isl
  have HIX := Lib.hid (indexI_any base A cap xs K caps ch w hb hn hisl hch)
  have HV := Lib.hid h
  have HI := Lib.hid hisl
  have HC := Lib.hid hch.2
  have hen := hch.1
  unfold Enters at hen
  unfold maxLen at hc2
  have HAB := Lib.hid (show ∀ a, A = some a → base ≤ a.block from fun a ha => by
    rcases h.2 with ⟨h1, _⟩ | ⟨g, c, cur, hv, hg, _⟩
    · injection h1 with h2; rw [h2] at ha; cases ha
    · injection hv with h2; rw [h2] at ha; injection ha with ha; rw [← ha]; exact hg)
  obtain ⟨ji, hji⟩ : ∃ ji, ji = fdx ch xs := ⟨_, rfl⟩
  rw [← hji] at HIX
  have HJI := Lib.hid hji
  clear hji h hisl hch
  by_cases hj0 : ji = -1
  · subst hj0
    have HR := Lib.hid (fdx_none HJI.out.symm)
    go_enter Try.func85, Try.ntmps85
    go_wp2_with (go_at_call 94; refine HIX.out.mono ?_; rintro e w1 ⟨rfl, hx1⟩)
    go_ret
    refine ⟨A, cap, by rw [HR.out]; rfl, by rw [HR.out]; exact hc1, by unfold maxLen; omega, by rw [HR.out]; exact HI.out.ext hx1, hx1.mono hb, HAB.out⟩
  · obtain ⟨i0, hi0, hlt0, hf0⟩ := fdx_some (ch := ch) (xs := xs) (by rw [← HJI.out]; exact hj0)
    have hji : ji = (i0 : Int) := HJI.out.trans hi0
    subst hji
    have HF0 := Lib.hid hf0
    obtain ⟨g, rfl⟩ : ∃ g, A = some ⟨g, 0, none⟩ := by
      rcases HV.out.2 with ⟨h1, _⟩ | ⟨g, c, cur, hv, _⟩
      · injection h1 with _ h2; omega
      · injection hv with h1; exact ⟨g, h1⟩
    have hne : ((i0 : Int) == -1) = false := by simp
    clear hi0 hf0 hj0
    go_enter Try.func85, Try.ntmps85
    go_wp2_with (go_at_call 94; refine HIX.out.mono ?_; rintro e w1 ⟨rfl, hx1⟩; have HX1 := Lib.hid hx1; have HV1 := Lib.hid (HV.out.ext hx1); clear hx1)
    go_loopg [6, 5] (xs.length - (i0 + 1)) (fun gg z y wr => ∃ (j i : Nat) (cs : List Int), z = .int .i64 j ∧ y = .int .i64 i ∧ j ≤ xs.length ∧ gg = xs.length - j ∧ i < j ∧ cs.length = xs.length ∧ Vi base wr (.slice (some ⟨g, 0, none⟩) xs.length cap) cs ∧ Below base w wr ∧ w.heap.size ≤ wr.heap.size ∧ cs.take i = (xs.take j).filter (fun x => !ch x) ∧ ∀ q (h : q < xs.length) (h2 : q < cs.length), j ≤ q → cs[q] = xs[q])
    case atStart => exact ⟨i0 + 1, i0, xs, by go_num, rfl, by omega, by omega, by omega, rfl, HV1.out, HX1.out.mono hb, HX1.out.size, HF0.out.symm, fun q _ _ _ => rfl⟩
    case round =>
      obtain ⟨j, i, cs, rfl, rfl, hj, hg, hij, hcs, hvi, hbw, hsz, htk, hdr⟩ := hrel
      have HG := Lib.hid hg
      have HVC := Lib.hid hvi
      have HTK := Lib.hid htk
      have HDR := Lib.hid hdr
      have HCS := Lib.hid hcs
      have HBW := Lib.hid hbw
      obtain ⟨-, -, p3, p4⟩ := hvi.at1 (i := i) (by omega)
      clear hg hvi htk hdr hcs HIX
      by_cases hlt : j < xs.length
      · obtain ⟨c1, -, -, -⟩ := HVC.out.at1 (i := j) (by rw [HCS.out]; exact hlt)
        rw [HDR.out j hlt (by rw [HCS.out]; exact hlt) (Nat.le_refl _)] at c1
        have HCX := Lib.hid (HC.out wr HBW.out (Nat.le_trans hb hsz) xs[j] (List.getElem_mem hlt))
        have HY := Lib.hid (fun h => keep_yes (ch := ch) (cs := cs) (i := i) hlt (by omega) HCS.out h HTK.out (fun q hq hjq => HDR.out q hq (by rw [HCS.out]; exact hq) hjq))
        have HNO := Lib.hid (fun h => keep_no (ch := ch) (cs := cs) (i := i) hlt h HTK.out)
        have HSET := Lib.hid (fun W (h : Vi base W (.slice (some ⟨g, 0, none⟩) xs.length cap) cs) => h.setI (i := i) (by rw [HCS.out]; omega) xs[j])
        obtain ⟨m, hm⟩ : ∃ m, m = xs[j] := ⟨_, rfl⟩
        rw [← hm] at c1 HCX HY HNO HSET
        clear hm
        cases hd : ch m
        · rw [hd] at HCX
          have HY2 := Lib.hid (HY.out hd)
          clear hd HY HNO
          go_wp2_with (refine HCX.out.mono ?_; rintro e w2 ⟨rfl, hx2⟩; have HX2 := Lib.hid hx2; have HV2 := Lib.hid (HVC.out.ext hx2); obtain ⟨s1, s2, s3, s4⟩ := (HVC.out.ext hx2).at1 (i := i) (by rw [HCS.out]; omega); clear hx2)
          go_roundg (xs.length - (j + 1))
          case measure => have := HG.out; omega
          case rel =>
            refine ⟨j + 1, i + 1, cs.set i m, by go_num, by go_num, by omega, rfl, by omega, by rw [List.length_set]; exact HCS.out, HSET.out _ HV2.out, ?_, ?_, HY2.out.1, fun q hq hq2 hjq => HY2.out.2 q hq hjq⟩
            · exact (HBW.out.trans (HX2.out.mono (Nat.le_trans hb hsz))).setCell (p := ⟨g, i, none⟩) p4 _
            · have := HX2.out.size; simp; omega
        · rw [hd] at HCX
          have HNO2 := Lib.hid (HNO.out hd)
          clear hd HY HNO
          go_wp2_with (refine HCX.out.mono ?_; rintro e w2 ⟨rfl, hx2⟩; have HX2 := Lib.hid hx2; have HV2 := Lib.hid (HVC.out.ext hx2); clear hx2)
          go_roundg (xs.length - (j + 1))
          case measure => have := HG.out; omega
          case rel =>
            refine ⟨j + 1, i, cs, by go_num, rfl, by omega, rfl, by omega, HCS.out, HV2.out, HBW.out.trans (HX2.out.mono (Nat.le_trans hb hsz)), ?_, HNO2.out, fun q hq hq2 hjq => HDR.out q hq hq2 (by omega)⟩
            have := HX2.out.size; omega
      · obtain rfl : j = xs.length := by omega
        have htk2 := HTK.out
        rw [List.take_length] at htk2
        have hfl : (xs.filter fun x => !ch x).length = i := by
          rw [← htk2, List.length_take, HCS.out]; omega
        have HFL := Lib.hid hfl
        have HTK2 := Lib.hid htk2
        have hcl : ∀ ty, (Builtin.clear_ #[35] ty #[.slice (some ⟨g, i, none⟩) (xs.length - i) (cap - i)]).run Try.prog wr = .ok (.tuple #[]) (wr.setCells g i (List.replicate (xs.length - i) (.int .i64 0))) :=
          fun ty => Lib.run_clear_slice wr 35 3 ty (.int .i64 0) Try.underlying35 Try.zeroValue3 rfl rfl g i _ _ (by omega) (fun q hq => by rw [(HVC.out.at1 (i := i + q) (by rw [HCS.out]; omega)).1]; rfl) (fun q hq => (HVC.out.at1 (i := i + q) (by rw [HCS.out]; omega)).2.1)
        have i1 : (0 : Int) ≤ (i : Int) := by omega
        have i2 : (i : Int) ≤ (xs.length : Int) := by omega
        have i3 : (i : Int) ≤ (cap : Int) := by omega
        have i4 : ¬ cap = i := by omega
        clear hfl htk2
        go_wp2
        go_ret
        have hsc : (wr.setCells g i (List.replicate (xs.length - i) (.int .i64 0))).heap.size = wr.heap.size := size_setC _ _ _ _
        refine ⟨some ⟨g, 0, none⟩, cap, by rw [HFL.out]; rfl, by rw [HFL.out]; omega, by unfold maxLen; omega, ?_, ?_, HAB.out⟩
        · refine isl_set (fun q hq => ?_) (Nat.le_of_eq HFL.out) p3 hsc
          rw [HFL.out] at hq
          have e := (HVC.out.at1 (i := q) (by rw [HCS.out]; omega)).1
          rw [e]
          have e2 : (xs.filter fun x => !ch x)[q]? = cs[q]? := by rw [← HTK2.out, List.getElem?_take, if_pos hq]
          rw [List.getElem?_eq_getElem (by rw [HFL.out]; exact hq), List.getElem?_eq_getElem (by rw [HCS.out]; omega)] at e2
          injection e2 with e2
          rw [e2]
        · exact HBW.out.trans (Lib.below_setCells_w p4 _ _ _)
end Go.Proofs.Ytbhjhajnhpohlaa
