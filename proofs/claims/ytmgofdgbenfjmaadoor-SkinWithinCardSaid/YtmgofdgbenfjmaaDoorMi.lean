/- slices.Equal at strings, slices.Clone, Mirror both, walked. Conditions: each string's length is an int. -/
import Derived.Test.YtmgofdgbenfjmaaDoorDr
namespace Go.Proofs.YtmgofdgbenfjmaaDoor
open Go.RowKit

/-- the byte of a cell -/
def cellB (l : List ByteArray) (x y : Nat) : Nat := match l[y]? with | some r => byteAt r x | none => 48
theorem cellB_at {l : List ByteArray} {x y : Nat} (hy : y < l.length) : cellB l x y = byteAt l[y] x := by unfold cellB; rw [List.getElem?_eq_getElem hy]
theorem cellB_rg {l : List ByteArray} (hok : SkOk l) (x y : Nat) : 48 ≤ cellB l x y ∧ cellB l x y ≤ 57 := by
  unfold cellB
  by_cases hy : y < l.length
  · rw [List.getElem?_eq_getElem hy]; exact byte_range (hok.row hy) x
  · rw [List.getElem?_eq_none (by omega)]
    show 48 ≤ 48 ∧ 48 ≤ 57
    decide
theorem gr_cell {l : List ByteArray} {x y : Nat} (hx : x < wid l) (hy : y < l.length) : gr l (x : Int) (y : Int) = (cellB l x y : Int) - 48 := by
  unfold gr
  rw [if_neg (by omega), Int.toNat_natCast, Int.toNat_natCast, List.getElem?_eq_getElem hy, cellB_at hy]
theorem gr_cellN {l : List ByteArray} (hok : SkOk l) {x y : Nat} (hx : x < wid l) (hy : y < l.length) : 48 + (gr l (x : Int) (y : Int)).toNat = cellB l x y := by
  rw [gr_cell hx hy]
  have := cellB_rg hok x y
  omega
theorem gr_rg {l : List ByteArray} (hok : SkOk l) (x y : Int) : 0 ≤ gr l x y ∧ gr l x y ≤ 9 := by
  unfold gr
  split
  · omega
  · rename_i h
    by_cases hy : y.toNat < l.length
    · rw [List.getElem?_eq_getElem hy]
      have := byte_range (hok.row hy) x.toNat
      simp only
      omega
    · rw [List.getElem?_eq_none (by omega)]; simp
theorem wid_skF {w h : Nat} {c : Nat → Nat → Nat} (hh : 1 ≤ h) : wid (skF w h c) = w := by
  obtain ⟨k, rfl⟩ : ∃ k, h = k + 1 := ⟨h - 1, by omega⟩
  unfold skF
  rw [List.range_succ_eq_map]
  show (rowF w _).size = w
  exact rowF_size _ _
theorem skF_ok {w h : Nat} {c : Nat → Nat → Nat} (hw : 1 ≤ w ∧ w ≤ 48) (hh : 1 ≤ h ∧ h ≤ 48) (hc : ∀ x y, x < w → y < h → 48 ≤ c x y ∧ c x y ≤ 57) : SkOk (skF w h c) := by
  refine ⟨by rw [skF_len]; omega, by rw [skF_len]; omega, by rw [wid_skF hh.1]; omega, by rw [wid_skF hh.1]; omega, fun r hr => ?_⟩
  rw [wid_skF hh.1]
  obtain ⟨y, hy, rfl⟩ := List.getElem_of_mem hr
  rw [skF_at hy]
  rw [skF_len] at hy
  rw [row_all (rowF_size _ _)]
  intro x hx
  rw [rowF_size] at hx
  have := hc x y hx hy
  rw [rowF_byte hx (by omega)]
  exact this
theorem skF_sz {w h : Nat} {c : Nat → Nat → Nat} (hw : w ≤ 48) : TSz (skF w h c) := by
  intro r hr
  obtain ⟨y, hy, rfl⟩ := List.getElem_of_mem hr
  rw [skF_at hy, rowF_size]; omega
theorem beq_self_str (s : ByteArray) : (s.toList == s.toList) = true := by simp
set_option maxHeartbeats 1000000 in
theorem equal_strs (A B : Option Addr) (c c' : Nat) (l : List ByteArray) (w : World) (hl : l.length ≤ 9223372036854775807) (hA : TSl w A l) (hB : TSl w B l) :
    Calls Tryd.prog 29 #[.slice A l.length c, .slice B l.length c'] w fun e w' => e = .returned (.bool true) ∧ Below w.heap.size w w' := by
  have HA := Lib.hid hA
  have HB := Lib.hid hB
  clear hA hB
  go_enter Tryd.func29, Tryd.ntmps29
  go_wp2
  go_loopg [13] l.length (fun g i wr => ∃ k : Nat, i = .int .i64 k ∧ k ≤ l.length ∧ g = l.length - k ∧ Below w.heap.size w wr)
  case atStart => exact ⟨0, rfl, by omega, by omega, Below.refl _ _⟩
  case round =>
    obtain ⟨k, rfl, hk, hg, hbl⟩ := hrel
    have HG := Lib.hid hg
    clear hg
    by_cases hlt : k < l.length
    · have hf := HA.out.ext hbl
      have hf' := HB.out.ext hbl
      rcases hf with hf | ⟨b, off, rfl, hblt, hc⟩
      · rw [hf] at hlt; simp at hlt
      · rcases hf' with hf' | ⟨b', off', rfl, hblt', hc'⟩
        · rw [hf'] at hlt; simp at hlt
        · have c1 := hc k hlt
          have c2 := hc' k hlt
          generalize l[k] = y at *
          have i0 : (0 : Int) ≤ (k : Int) := by omega
          have i1 : (k : Int) < (l.length : Int) := by omega
          have hbs := beq_self_str y
          clear hc hc'
          go_wp2
          go_quiet (fail)
          go_wp2
          go_roundg (l.length - (k + 1))
          case measure => have := HG.out; omega
          case rel => exact ⟨k + 1, by go_num, by omega, rfl, ext_trans hbl (ext_drewN _ _)⟩
    · go_wp2
      go_ret
      exact ⟨rfl, hbl⟩
theorem some_nil (W : World) (a : Addr) (n c : Nat) : (binOp .eql 22 (.slice (some a) n c) (.slice none 0 0)).run Tryd.prog W = .ok (.bool false) W := by kernel_rfl
set_option maxRecDepth 100000 in
set_option maxHeartbeats 2000000 in
theorem clone_any (A : Option Addr) (cap : Nat) (l : List ByteArray) (w : World) (h1 : 1 ≤ l.length) (h48 : l.length ≤ 1000) (h : TSl w A l) :
    Calls Tryd.prog 77 #[.slice A l.length cap] w (RetSk w l) := by
  rcases h with h0 | ⟨b, off, rfl, hlt, hcl⟩
  · rw [h0] at h1; simp at h1
  have hsn := some_nil
  have hx := ext_alloc w (.cells #[] 9)
  have HX := Lib.hid hx
  have HOW := Lib.hid (show (w.alloc (.cells #[] 9)).ownsRow w.heap.size 9 1 (.slice (some ⟨w.heap.size, 0, none⟩) 0 0) 0 [] from own_new (news := []) (m := 0) rfl (by decide) (Nat.le_refl _) rfl)
  have HN := Lib.hid (show ∀ (j : Nat) u, (l.map Value.string)[j]? = some u → (w.alloc (.cells #[] 9)).cell? ((⟨b, off, none⟩ : Addr).add j) = some u from fun j u hu => by
    have hj : j < l.length := by
      have := (List.getElem?_eq_some_iff.1 hu).1
      simpa using this
    have e : (⟨b, off, none⟩ : Addr).add j = ⟨b, off + j, none⟩ := by
      simp only [Addr.add]
      split <;> simp_all
    rw [e, hx.cell (p := ⟨b, off + j, none⟩) hlt, hcl j hj]
    rw [List.getElem?_map, List.getElem?_eq_getElem hj] at hu
    exact hu)
  obtain ⟨i, hi, hz, hsz, hby⟩ := info_parts info_string
  have HI := Lib.hid (And.intro hi (And.intro hz (And.intro hsz hby)))
  clear hx hcl hi hz hsz hby
  go_enter Tryd.func77, Tryd.ntmps77
  go_wp2_with (at_builtin; refine wpList_append_own _ rfl _ _ 22 rfl w.heap.size 9 i (.string ⟨#[]⟩) 1 16 Tryd.underlying22 HI.out.1 HI.out.2.1 HI.out.2.2.1 HI.out.2.2.2 rfl (by decide) _ 0 [] (by rfl) HOW.out ⟨b, off, none⟩ l.length cap (l.map Value.string) (by rfl) (by simp) HN.out (by intro u hu; obtain ⟨s, _, rfl⟩ := List.mem_map.1 hu; rfl) (by unfold maxLen; omega) (by omega) (by simp) ?_; intro v' w' hv hgr _; have HV := Lib.hid hv; have HGR := Lib.hid hgr; clear hv hgr)
  have hv := HV.out
  rw [Nat.zero_add, List.nil_append] at hv
  obtain ⟨A2, cap2, hv2, k1, k2, k3⟩ := Vt.tsl (l := l) hv
  subst hv2
  go_ret
  refine ⟨?_, A2, cap2, rfl, k1, by unfold maxLen at k2; omega, k3⟩
  exact ((Below.refl _ w).alloc (Nat.le_refl _) _).grown HGR.out (by simp) (fun k hk => by injection hk with hk; simp at hk; omega)
set_option maxRecDepth 100000 in
set_option maxHeartbeats 2000000 in
theorem mirror_cell (x y : Nat) (p q : Nat) (A : Option Addr) (cap : Nat) (l : List ByteArray) (W : World) (hok : SkOk l) (h : TSl W A l) (hp : W.cell? ⟨p, 0, none⟩ = some (.slice A l.length cap)) (hq : W.cell? ⟨q, 0, none⟩ = some (.int .i64 (wid l))) (hx : x < wid l) (hy : y < l.length) :
    Calls Tryd.prog 80 #[.int .i64 (x : Int), .int .i64 (y : Int), .pointer (some ⟨p, 0, none⟩), .pointer (some ⟨q, 0, none⟩)] W fun e w' => e = .returned (.int .u8 (cellB l (wid l - 1 - x) y : Int)) ∧ Below W.heap.size W w' := by
  have hw48 := hok.2.2.2.1
  have hl48 := hok.2.1
  rcases h with h0 | ⟨b, off, rfl, hblt, hcl⟩
  · rw [h0] at hy; simp at hy
  have c1 := hcl y hy
  have hs := (hok.row hy).1
  have HCB := Lib.hid (cellB_at (x := wid l - 1 - x) hy)
  obtain ⟨r, hr⟩ : ∃ r, r = l[y] := ⟨_, rfl⟩
  rw [← hr] at c1 hs HCB
  have hyl : (y : Int) < (l.length : Int) := by omega
  obtain ⟨n, hn⟩ : ∃ n, n = wid l := ⟨_, rfl⟩
  rw [← hn] at hq hx hw48 hs HCB ⊢
  obtain ⟨m, hm⟩ : ∃ m, m = n - 1 - x := ⟨_, rfl⟩
  have e1 : IntKind.i64.wrap ((n : Int) - 1) = (n : Int) - 1 := IntWalk.i64_in _ ⟨by omega, by omega⟩
  have e2 : (n : Int) - 1 - (x : Int) = (m : Int) := by omega
  have hmr : m < r.size := by omega
  have hmr2 : (m : Int) < (r.size : Int) := by omega
  rw [← hm] at HCB ⊢
  have HB := Lib.hid (show byteAt r m = r[m].toNat from dif_pos hmr)
  obtain ⟨z, hz⟩ : ∃ z, z = cellB l m y := ⟨_, rfl⟩
  have HZ := Lib.hid hz
  rw [← hz]
  clear hcl hr hn hm hz hs
  go_enter Tryd.func80, Tryd.ntmps80
  go_upto_region 1 with (fail)
  go_quiet (fail)
  go_wp2
  go_ret
  refine ⟨?_, ext_drewN _ _⟩
  rw [HZ.out, HCB.out, HB.out]
  rfl
end Go.Proofs.YtmgofdgbenfjmaaDoor
