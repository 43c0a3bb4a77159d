/- around and its closures walked; Erode, Dilate, Open of the program. Conditions: each string's length is an int. -/
import Derived.Test.YtdkoomcgnaokgaaDoorTn
import Derived.Test.YtdkoomcgnaokgaaDoorErP
namespace Go.Proofs.YtdkoomcgnaokgaaDoor
open Go.RowKit

/-- the closures -/
def bK (e : Bool) : FuncId := if e then 66 else 68
set_option maxRecDepth 100000 in
theorem bK_enter (e : Bool) (args : Array Value) (V : World) : (callFunc (bK e) args).run Tryd.prog V = .ok (.enter (bK e) args) V := by cases e <;> rfl
theorem bK_any (e : Bool) (a b : Nat) (W : World) : Calls Tryd.prog (bK e) #[.int .u8 (a : Int), .int .u8 (b : Int)] W fun r w' => r = .returned (.int .u8 ((bst e a b : Nat) : Int)) ∧ w' = W := by
  cases e
  · show Calls Tryd.prog 68 _ _ _
    have HE := Lib.hid (show ((bst false a b : Nat) : Int) = max (a : Int) (b : Int) from by unfold bst; simp only [Bool.false_eq_true, if_false]; omega)
    go_enter Tryd.func68, Tryd.ntmps68
    go_wp2
    go_ret
    exact ⟨by rw [HE.out]; rfl, rfl⟩
  · show Calls Tryd.prog 66 _ _ _
    have HE := Lib.hid (show ((bst true a b : Nat) : Int) = min (a : Int) (b : Int) from by unfold bst; simp only [if_true]; omega)
    go_enter Tryd.func66, Tryd.ntmps66
    go_wp2
    go_ret
    exact ⟨by rw [HE.out]; rfl, rfl⟩
/-- what around's closures see -/
def ArS (W : World) (pk pb po : Nat) (k : Nat) (K : FuncId) (e : Bool) : Prop :=
  W.cell? ⟨pk, 0, none⟩ = some (.int .i64 (k : Int)) ∧ W.cell? ⟨pb, 0, none⟩ = some (.func (.func K) #[] #[]) ∧ W.cell? ⟨po, 0, none⟩ = some (.bool e) ∧ pk < W.heap.size ∧ pb < W.heap.size ∧ po < W.heap.size
theorem ArS.ext {W W' : World} {pk pb po k : Nat} {K : FuncId} {e : Bool} (h : ArS W pk pb po k K e) (hb : Below W.heap.size W W') : ArS W' pk pb po k K e := by
  obtain ⟨h1, h2, h3, h4, h5, h6⟩ := h
  have hs := hb.size
  exact ⟨(hb.cell (p := ⟨pk, 0, none⟩) h4).trans h1, (hb.cell (p := ⟨pb, 0, none⟩) h5).trans h2, (hb.cell (p := ⟨po, 0, none⟩) h6).trans h3, by omega, by omega, by omega⟩
theorem fdW_succ (e : Bool) (w : Nat) (f : Nat → Nat) (c : Nat) (lo : Int) (n : Nat) : fdW e w f c lo (n + 1) = stW e w f (fdW e w f c lo n) (lo + (n : Int)) := rfl
set_option maxRecDepth 100000 in
set_option maxHeartbeats 4000000 in
theorem once_cell (e : Bool) (K : FuncId) (hE : ∀ args V, (callFunc K args).run Tryd.prog V = .ok (.enter K args) V) (hK : ∀ a b W, Calls Tryd.prog K #[.int .u8 ((a : Nat) : Int), .int .u8 ((b : Nat) : Int)] W fun r w' => r = .returned (.int .u8 ((bst e a b : Nat) : Int)) ∧ w' = W)
    (x y k : Nat) (ps pk pw pb po : Nat) (A : Option Addr) (cap : Nat) (l : List ByteArray) (W : World) (hok : SkOk l) (h : TSl W A l) (hp : W.cell? ⟨ps, 0, none⟩ = some (.slice A l.length cap)) (hps : ps < W.heap.size) (hw : W.cell? ⟨pw, 0, none⟩ = some (.int .i64 (wid l))) (hpw : pw < W.heap.size) (ha : ArS W pk pb po k K e) (hx : x < wid l) (hy : y < l.length) (hk : k ≤ 48) :
    Calls Tryd.prog 90 #[.int .i64 (x : Int), .int .i64 (y : Int), .pointer (some ⟨ps, 0, none⟩), .pointer (some ⟨pk, 0, none⟩), .pointer (some ⟨pw, 0, none⟩), .pointer (some ⟨pb, 0, none⟩), .pointer (some ⟨po, 0, none⟩)] W fun r w' => r = .returned (.int .u8 ((onF e (wid l) k (fun i => cellB l i y) x : Nat) : Int)) ∧ Below W.heap.size W w' := by
  have hw48 := hok.2.2.2.1
  have hl48 := hok.2.1
  rcases h with h0 | ⟨b, off, rfl, hblt, hcl⟩
  · rw [h0] at hy; simp at hy
  have c1 := hcl y hy
  have hs := (hok.row hy).1
  have hby : ∀ i, i < l[y].size → cellB l i y = l[y][i]!.toNat := fun i hi => by
    rw [cellB_at hy]; unfold byteAt; rw [dif_pos hi, getElem!_pos l[y] i hi]
  have hfr : ∀ i, i < wid l → 48 ≤ cellB l i y ∧ cellB l i y ≤ 57 := fun i _ => cellB_rg hok i y
  obtain ⟨r, hr⟩ : ∃ r, r = l[y] := ⟨_, rfl⟩
  rw [← hr] at c1 hs hby
  obtain ⟨f, hf⟩ : ∃ f : Nat → Nat, f = fun i => cellB l i y := ⟨_, rfl⟩
  have hby2 : ∀ i, i < r.size → f i = r[i]!.toNat := fun i hi => by rw [hf]; exact hby i hi
  have hfr2 : ∀ i, i < wid l → 48 ≤ f i ∧ f i ≤ 57 := fun i hi => by rw [hf]; exact hfr i hi
  rw [← hf]
  have hyl : (y : Int) < (l.length : Int) := by omega
  obtain ⟨n, hn⟩ : ∃ n, n = wid l := ⟨_, rfl⟩
  rw [← hn] at hw hx hw48 hs hfr2 ⊢
  have HF := Lib.hid hby2
  have HFR := Lib.hid hfr2
  have HM := Lib.hid (show ∀ W', Below W.heap.size W W' → b < W'.heap.size ∧ W'.cell? ⟨b, off + y, none⟩ = some (.string r) ∧ W'.cell? ⟨ps, 0, none⟩ = some (.slice (some ⟨b, off, none⟩) l.length cap) ∧ W'.cell? ⟨pw, 0, none⟩ = some (.int .i64 (n : Int)) ∧ ArS W' pk pb po k K e from fun W' hW => ⟨Nat.lt_of_lt_of_le hblt hW.size, (hW.cell (p := ⟨b, off + y, none⟩) hblt).trans c1, (hW.cell (p := ⟨ps, 0, none⟩) hps).trans hp, (hW.cell (p := ⟨pw, 0, none⟩) hpw).trans hw, ha.ext hW⟩)
  have HK := Lib.hid hK
  have HK48 := Lib.hid (fun a W => show Calls Tryd.prog K #[.int .u8 ((a : Nat) : Int), .int .u8 48] W fun r w' => r = .returned (.int .u8 ((bst e a 48 : Nat) : Int)) ∧ w' = W from hK a 48 W)
  have hr0 := hby2 x (by omega)
  have hxr : x < r.size := by omega
  have hxr2 : (x : Int) < (r.size : Int) := by omega
  have HX0 := Lib.hid (show (r[x]'hxr).toNat = f x from by rw [hr0, getElem!_pos r x hxr])
  clear hcl hr hn hf hby hby2 hfr hfr2 hok hp hps hw hpw ha c1 hK hr0
  obtain ⟨hb1, c1, c2, c3, c4, c5, c6, _⟩ := HM.out W (Below.refl _ _)
  unfold onF
  go_enter Tryd.func90, Tryd.ntmps90
  go_upto_block 0 with (fail)
  rw [HX0.out]
  have HB0 := Lib.hid (Below.refl W.heap.size W)
  obtain ⟨lo, hlo⟩ : ∃ lo, lo = (x : Int) - (k : Int) := ⟨_, rfl⟩
  rw [← hlo]
  have HLO := Lib.hid hlo
  have hlb : -48 ≤ lo ∧ lo ≤ 48 := by omega
  have hle : (x : Int) + (k : Int) = lo + 2 * (k : Int) := by omega
  have HLE := Lib.hid hle
  clear hlo hb1 c1 c2 c3 c4 c5 c6 hle
  go_wp2_with (fail)
  go_loopg [11, 10] (2 * k + 1) (fun gg i c wr => ∃ (j cv : Nat), i = .int .i64 (lo + (j : Int)) ∧ j ≤ 2 * k + 1 ∧ gg = 2 * k + 1 - j ∧ c = .int .u8 (cv : Int) ∧ cv = fdW e n f (f x) lo j ∧ Below W.heap.size W wr)
  case atStart => exact ⟨0, f x, by simp, by omega, by omega, rfl, rfl, HB0.out⟩
  case round =>
    obtain ⟨j, cv, rfl, hj, hg, rfl, hcv, hb⟩ := hrel
    have HG := Lib.hid hg
    have HB := Lib.hid hb
    have HCV := Lib.hid hcv
    clear hg hb hcv HB0
    obtain ⟨hb1, c1, c2, c3, c4, c5, c6, _⟩ := HM.out wr HB.out
    have HSU := Lib.hid (fdW_succ e n f (f x) lo j)
    rw [← HCV.out] at HSU
    obtain ⟨i, hi⟩ : ∃ i, i = lo + (j : Int) := ⟨_, rfl⟩
    have HI := Lib.hid hi
    rw [← hi] at HSU ⊢
    have hib : -48 ≤ i ∧ i ≤ 150 := by omega
    by_cases hlt : j < 2 * k + 1
    · have hik : i ≤ (x : Int) + (k : Int) := by have := HLE.out; omega
      clear hi
      by_cases h0 : 0 ≤ i
      · by_cases h1 : i < (n : Int)
        · obtain ⟨m, rfl⟩ : ∃ m : Nat, i = (m : Int) := ⟨i.toNat, by omega⟩
          have hmr : m < r.size := by omega
          have hmr2 : (m : Int) < (r.size : Int) := by omega
          have HST := Lib.hid (show stW e n f cv (m : Int) = bst e cv (r[m]'hmr).toNat from by
            unfold stW; rw [if_pos ⟨h0, h1⟩, Int.toNat_natCast, HF.out m hmr, getElem!_pos r m hmr])
          go_upto_region 6 with (fail)
          go_quiet (exact Calls.quiet_of_same (HK.out _ _ _))
          go_wp2
          go_roundg (2 * k + 1 - (j + 1))
          case measure => have := HG.out; omega
          case rel => exact ⟨j + 1, _, by have := HI.out; go_num, by omega, rfl, rfl, by rw [HSU.out, HST.out], bdrewN HB.out _⟩
        · have HST := Lib.hid (show stW e n f cv i = if e then bst e cv 48 else cv from by unfold stW; rw [if_neg (fun h => h1 h.2)])
          cases e
          · go_wp2
            go_roundg (2 * k + 1 - (j + 1))
            case measure => have := HG.out; omega
            case rel => exact ⟨j + 1, cv, by have := HI.out; go_num, by omega, rfl, rfl, by rw [HSU.out, HST.out]; rfl, HB.out⟩
          · go_wp2_with (refine (HK48.out _ _).mono ?_; rintro r9 w9 ⟨rfl, rfl⟩)
            go_roundg (2 * k + 1 - (j + 1))
            case measure => have := HG.out; omega
            case rel => exact ⟨j + 1, _, by have := HI.out; go_num, by omega, rfl, rfl, by rw [HSU.out, HST.out]; rfl, HB.out⟩
      · have HST := Lib.hid (show stW e n f cv i = if e then bst e cv 48 else cv from by unfold stW; rw [if_neg (fun h => h0 h.1)])
        cases e
        · go_wp2
          go_roundg (2 * k + 1 - (j + 1))
          case measure => have := HG.out; omega
          case rel => exact ⟨j + 1, cv, by have := HI.out; go_num, by omega, rfl, rfl, by rw [HSU.out, HST.out]; rfl, HB.out⟩
        · go_wp2_with (refine (HK48.out _ _).mono ?_; rintro r9 w9 ⟨rfl, rfl⟩)
          go_roundg (2 * k + 1 - (j + 1))
          case measure => have := HG.out; omega
          case rel => exact ⟨j + 1, _, by have := HI.out; go_num, by omega, rfl, rfl, by rw [HSU.out, HST.out]; rfl, HB.out⟩
    · have hik : ¬ i ≤ (x : Int) + (k : Int) := by have := HLE.out; omega
      have HE := Lib.hid (show cv = fdW e n f (f x) lo (2 * k + 1) from by rw [HCV.out]; rw [show j = 2 * k + 1 by omega])
      clear hi
      go_wp2
      refine bodyPost_ret (v := .int .u8 (cv : Int)) (by simp [results, Tryd.results90, go_sem]) rfl ?_
      exact ⟨by rw [HE.out, HLO.out], HB.out⟩
/-- along the rows -/
def rowP (e : Bool) (l : List ByteArray) (k : Nat) : List ByteArray := skF (wid l) l.length fun x y => onF e (wid l) k (fun i => cellB l i y) x
def flipP (l : List ByteArray) : List ByteArray := skF l.length (wid l) fun x y => cellB l y x
theorem rowP_ok {l : List ByteArray} (hok : SkOk l) (e : Bool) (k : Nat) : SkOk (rowP e l k) :=
  skF_ok ⟨hok.2.2.1, hok.2.2.2.1⟩ ⟨hok.1, hok.2.1⟩ (fun _ _ hx _ => onF_rg (fun i _ => cellB_rg hok i _) hx)
theorem flipP_ok {l : List ByteArray} (hok : SkOk l) : SkOk (flipP l) := skF_ok ⟨hok.1, hok.2.1⟩ ⟨hok.2.2.1, hok.2.2.2.1⟩ (fun _ _ _ _ => cellB_rg hok _ _)
set_option maxRecDepth 100000 in
set_option maxHeartbeats 4000000 in
theorem once_any (e : Bool) (K : FuncId) (hE : ∀ args V, (callFunc K args).run Tryd.prog V = .ok (.enter K args) V) (hK : ∀ a b W, Calls Tryd.prog K #[.int .u8 ((a : Nat) : Int), .int .u8 ((b : Nat) : Int)] W fun r w' => r = .returned (.int .u8 ((bst e a b : Nat) : Int)) ∧ w' = W)
    (k pk pb po : Nat) (A : Option Addr) (cap : Nat) (l : List ByteArray) (W : World) (hok : SkOk l) (h : TSl W A l) (ha : ArS W pk pb po k K e) (hk : k ≤ 48) :
    Calls Tryd.prog 89 #[.slice A l.length cap, .pointer (some ⟨pk, 0, none⟩), .pointer (some ⟨pb, 0, none⟩), .pointer (some ⟨po, 0, none⟩)] W (RetSk W (rowP e l k)) := by
  have hmf : ∀ (fn : Fn) (first cap : Array Value) (w : World), (Instr.makeFunc fn first cap).run Tryd.prog w = .ok (.func fn first cap) w := fun _ _ _ _ => rfl
  have HT := Lib.hid h
  rcases h with h0 | ⟨b, off, rfl, hblt, hcl⟩
  · have h1 := hok.1; rw [h0] at h1; simp at h1
  obtain ⟨r0, c0, hr0⟩ := first_row hok hcl
  have hl0 : 0 < l.length := by have := hok.1; omega
  have hl48 := hok.2.1
  have hw48 := hok.2.2.2.1
  have HX1 := Lib.hid (ext_alloc W (.cells #[.slice (some ⟨b, off, none⟩) l.length cap] 22))
  have HS1 := Lib.hid (Bk.new 22 W #[.slice (some ⟨b, off, none⟩) l.length cap])
  obtain ⟨V, hV⟩ : ∃ V, V = W.alloc (.cells #[.slice (some ⟨b, off, none⟩) l.length cap] 22) := ⟨_, rfl⟩
  obtain ⟨ps, hps⟩ : ∃ ps, ps = W.heap.size := ⟨_, rfl⟩
  have HV := Lib.hid hV
  have HPS := Lib.hid hps
  rw [← hV] at HX1 HS1
  rw [← hps] at HS1
  have c0' := (HX1.out.cell (p := ⟨b, off, none⟩) hblt).trans c0
  have hb4 := Nat.lt_of_lt_of_le hblt HX1.out.size
  have HOK := Lib.hid hok
  have HA := Lib.hid ha
  have HK := Lib.hid hK
  have HE := Lib.hid hE
  unfold RetSk
  obtain ⟨ms, hms⟩ : ∃ ms, ms = rowP e l k := ⟨_, rfl⟩
  have HMS := Lib.hid hms
  rw [← hms]
  clear hcl hV hps hblt c0 hok ha hK hE hms
  go_enter Tryd.func89, Tryd.ntmps89
  go_upto_region 1 with (fail)
  rw [← HV.out, ← HPS.out]
  obtain ⟨s1, s2, s3⟩ := HS1.out.facts
  go_upto_region 2 with (fail)
  obtain ⟨n, hn⟩ : ∃ n, n = wid l := ⟨_, rfl⟩
  have HN := Lib.hid hn
  rw [← hn] at hr0 hw48 ⊢
  clear hn c0' hb4 s1 s2 s3
  have HX2 := Lib.hid (ext_alloc V (.cells #[.int .i64 n] 3))
  have HW2 := Lib.hid (Bk.new 3 V #[.int .i64 n])
  have HS2 := Lib.hid (HS1.out.ext HX2.out)
  obtain ⟨X, hX⟩ : ∃ X, X = V.alloc (.cells #[.int .i64 n] 3) := ⟨_, rfl⟩
  obtain ⟨pw, hpw⟩ : ∃ pw, pw = V.heap.size := ⟨_, rfl⟩
  rw [← hX] at HX2 HW2 HS2 ⊢
  rw [← hpw] at HW2 ⊢
  have HB2 := Lib.hid (ext_trans HX1.out HX2.out)
  clear hX hpw HX1 HX2 HS1
  obtain ⟨s1, s2, s3⟩ := HS2.out.facts
  obtain ⟨w1, w2, w3⟩ := HW2.out.facts
  have HTU := Lib.hid (turned_any n l.length 90 #[.pointer (some ⟨ps, 0, none⟩), .pointer (some ⟨pk, 0, none⟩), .pointer (some ⟨pw, 0, none⟩), .pointer (some ⟨pb, 0, none⟩), .pointer (some ⟨po, 0, none⟩)] (fun x y => onF e (wid l) k (fun i => cellB l i y) x) X (by omega) (by omega) (fun _ _ => rfl)
    (fun Z hZ x y hx hy => once_cell e K HE.out HK.out x y k ps pk pw pb po (some ⟨b, off, none⟩) cap l Z HOK.out (HT.out.ext (ext_trans HB2.out hZ)) ((HS2.out.ext hZ).cell 0) (HS2.out.ext hZ).lt (by rw [← HN.out]; exact (HW2.out.ext hZ).cell 0) (HW2.out.ext hZ).lt (HA.out.ext (ext_trans HB2.out hZ)) (by rw [← HN.out]; exact hx) hy hk)
    (fun x y hx _ => by have := onF_rg (e := e) (w := wid l) (k := k) (f := fun i => cellB l i y) (x := x) (fun i _ => cellB_rg HOK.out i y) (by rw [← HN.out]; exact hx); omega))
  unfold RetSk at HTU
  rw [show (skF n l.length fun x y => onF e (wid l) k (fun i => cellB l i y) x) = ms from by rw [HMS.out, HN.out]; rfl] at HTU
  go_wp2_with (go_at_call 61; refine (HTU.out).mono ?_; rintro r5 w5 ⟨hx5, A5, cap5, rfl, k1, k2, k3⟩)
  refine bodyPost_ret (v := .slice A5 ms.length cap5) (by simp [results, Tryd.results89, go_sem]) rfl ?_
  exact ⟨ext_trans HB2.out hx5, A5, cap5, rfl, k1, k2, k3⟩
set_option maxRecDepth 100000 in
set_option maxHeartbeats 4000000 in
theorem flip_cell (x y : Nat) (p : Nat) (A : Option Addr) (cap : Nat) (l : List ByteArray) (W : World) (hok : SkOk l) (h : TSl W A l) (hp : W.cell? ⟨p, 0, none⟩ = some (.slice A l.length cap)) (hx : x < l.length) (hy : y < wid l) :
    Calls Tryd.prog 92 #[.int .i64 (x : Int), .int .i64 (y : Int), .pointer (some ⟨p, 0, none⟩)] W fun e w' => e = .returned (.int .u8 (cellB l y x : Int)) ∧ w' = W := by
  rcases h with h0 | ⟨b, off, rfl, hblt, hcl⟩
  · rw [h0] at hx; simp at hx
  have c1 := hcl x hx
  have hs := (hok.row hx).1
  have HCB := Lib.hid (cellB_at (x := y) hx)
  obtain ⟨r, hr⟩ : ∃ r, r = l[x] := ⟨_, rfl⟩
  rw [← hr] at c1 hs HCB
  have hmr : y < r.size := by omega
  have hmr2 : (y : Int) < (r.size : Int) := by omega
  have hml2 : (x : Int) < (l.length : Int) := by omega
  have HB := Lib.hid (show byteAt r y = r[y].toNat from dif_pos hmr)
  obtain ⟨z, hz⟩ : ∃ z, z = cellB l y x := ⟨_, rfl⟩
  have HZ := Lib.hid hz
  rw [← hz]
  clear hcl hr hz hs
  go_enter Tryd.func92, Tryd.ntmps92
  go_wp2
  go_ret
  refine ⟨?_, rfl⟩
  rw [HZ.out, HCB.out, HB.out]
  rfl
set_option maxRecDepth 100000 in
set_option maxHeartbeats 4000000 in
theorem flip_any (A : Option Addr) (cap : Nat) (l : List ByteArray) (W : World) (hok : SkOk l) (h : TSl W A l) :
    Calls Tryd.prog 91 #[.slice A l.length cap] W (RetSk W (flipP l)) := by
  have hmf : ∀ (fn : Fn) (first cap : Array Value) (w : World), (Instr.makeFunc fn first cap).run Tryd.prog w = .ok (.func fn first cap) w := fun _ _ _ _ => rfl
  have HT := Lib.hid h
  rcases h with h0 | ⟨b, off, rfl, hblt, hcl⟩
  · have h1 := hok.1; rw [h0] at h1; simp at h1
  obtain ⟨r0, c0, hr0⟩ := first_row hok hcl
  have hl1 := hok.1
  have hl0 : 0 < l.length := by omega
  have hl48 := hok.2.1
  have hw48 := hok.2.2.2.1
  have HX1 := Lib.hid (ext_alloc W (.cells #[.slice (some ⟨b, off, none⟩) l.length cap] 22))
  have HBX := Lib.hid (Bk.new 22 W #[.slice (some ⟨b, off, none⟩) l.length cap])
  obtain ⟨X, hX⟩ : ∃ X, X = W.alloc (.cells #[.slice (some ⟨b, off, none⟩) l.length cap] 22) := ⟨_, rfl⟩
  obtain ⟨p, hp⟩ : ∃ p, p = W.heap.size := ⟨_, rfl⟩
  have HV := Lib.hid hX
  have HPS := Lib.hid hp
  rw [← hX] at HX1 HBX
  rw [← hp] at HBX
  have c0' := (HX1.out.cell (p := ⟨b, off, none⟩) hblt).trans c0
  have hb4 := Nat.lt_of_lt_of_le hblt HX1.out.size
  have HOK := Lib.hid hok
  have HT4 := Lib.hid (HT.out.ext HX1.out)
  have HTU := Lib.hid (fun Z (hZ : Below X.heap.size X Z) => turned_any l.length (wid l) 92 #[.pointer (some ⟨p, 0, none⟩)] (fun x y => cellB l y x) Z (by omega) (by omega) (fun _ _ => rfl)
    (fun V hV x y hx hy => (flip_cell x y p (some ⟨b, off, none⟩) cap l V HOK.out (HT4.out.ext (ext_trans hZ hV)) ((HBX.out.ext (ext_trans hZ hV)).cell 0) hx hy).mono fun e w' hr => ⟨hr.1, by rw [hr.2]; exact Below.refl _ _⟩)
    (fun x y _ _ => by have := cellB_rg HOK.out y x; omega))
  unfold RetSk at HTU ⊢
  obtain ⟨M, hM⟩ : ∃ M, M = flipP l := ⟨_, rfl⟩
  rw [show (skF l.length (wid l) fun x y => cellB l y x) = M from by rw [hM]; rfl] at HTU
  rw [← hM]
  clear hcl hX hp hblt c0 hok hM
  go_enter Tryd.func91, Tryd.ntmps91
  go_upto_region 1 with (fail)
  rw [← HV.out, ← HPS.out]
  obtain ⟨f1, f2, f3⟩ := HBX.out.facts
  refine wp_region_held_drew (S := (fun wx => Below X.heap.size X wx ∧ wx.cell? ⟨p, 0, none⟩ = some (.slice (some ⟨b, off, none⟩) l.length cap) ∧ wx.cell? ⟨b, off, none⟩ = some (.string r0))) (by kernel_rfl) (⟨ext_drew _, f1 0, c0'⟩) (fun hHeld => ?_)
  refine wpAnyH_take (i := 0) (v := ?v1) rfl (by kernel_rfl) (by kernel_rfl) (by kernel_rfl) (fun _ _ _ h => h) (Or.inl ⟨by rfl, ?hy1⟩) hHeld ?rst1
  case hy1 => (intro wx hSw; (try dsimp only at hSw); go_simp; try (with_reducible rfl))
  try simp only [List.getElem_toArray, List.getElem_cons_zero, Act.put, List.setIfInBounds_toArray, List.set_cons_zero, List.set_cons_succ]
  refine wpAnyH_take (i := 1) (v := ?v2) rfl (by kernel_rfl) (by kernel_rfl) (by kernel_rfl) (fun _ _ _ h => h) (Or.inl ⟨by rfl, ?hy2⟩) hHeld ?rst2
  case hy2 => (intro wx hSw; (try dsimp only at hSw); go_simp; try (with_reducible rfl))
  try simp only [List.getElem_toArray, List.getElem_cons_zero, List.getElem_cons_succ, Act.put, List.setIfInBounds_toArray, List.set_cons_zero, List.set_cons_succ]
  refine wpAnyH_take (i := 2) (v := ?v3) rfl (by kernel_rfl) (by kernel_rfl) (by kernel_rfl) (fun _ _ _ h => h) (Or.inl ⟨by rfl, ?hy3⟩) hHeld ?rst3
  case hy3 => (intro wx hSw; (try dsimp only at hSw); go_simp; try (with_reducible rfl))
  try simp only [List.getElem_toArray, List.getElem_cons_zero, List.getElem_cons_succ, Act.put, List.setIfInBounds_toArray, List.set_cons_zero, List.set_cons_succ]
  refine wpAnyH_take (i := 3) (v := ?v4) rfl (by kernel_rfl) (by kernel_rfl) (by kernel_rfl) (fun _ _ _ h => h) (Or.inl ⟨by rfl, ?hy4⟩) hHeld ?rst4
  case hy4 => (intro wx hSw; (try dsimp only at hSw); go_simp; try (with_reducible rfl))
  try simp only [List.getElem_toArray, List.getElem_cons_zero, List.getElem_cons_succ, Act.put, List.setIfInBounds_toArray, List.set_cons_zero, List.set_cons_succ]
  refine wpAnyH_take (i := 4) (v := ?v5) rfl (by kernel_rfl) (by kernel_rfl) (by kernel_rfl) (fun _ _ _ h => h) (Or.inl ⟨by rfl, ?hy5⟩) hHeld ?rst5
  case hy5 => (intro wx hSw; (try dsimp only at hSw); go_simp; try (with_reducible rfl))
  try simp only [List.getElem_toArray, List.getElem_cons_zero, List.getElem_cons_succ, Act.put, List.setIfInBounds_toArray, List.set_cons_zero, List.set_cons_succ]
  refine wpAnyH_take (i := 5) (v := ?v6) rfl (by kernel_rfl) (by kernel_rfl) (by kernel_rfl) (fun _ _ _ h => h) (Or.inl ⟨by rfl, ?hy6⟩) hHeld ?rst6
  case hy6 => (intro wx hSw; (try dsimp only at hSw); go_simp; try (with_reducible rfl))
  try simp only [List.getElem_toArray, List.getElem_cons_zero, List.getElem_cons_succ, Act.put, List.setIfInBounds_toArray, List.set_cons_zero, List.set_cons_succ]
  refine wpAnyH_take (i := 6) (v := ?v7) rfl (by kernel_rfl) (by kernel_rfl) (by kernel_rfl) (fun _ _ _ h => h) (Or.inl ⟨by rfl, ?hy7⟩) hHeld ?rst7
  case hy7 => (intro wx hSw; (try dsimp only at hSw); go_simp; try (with_reducible rfl))
  try simp only [List.getElem_toArray, List.getElem_cons_zero, List.getElem_cons_succ, Act.put, List.setIfInBounds_toArray, List.set_cons_zero, List.set_cons_succ]
  refine wpAnyH_ready (rs := [7]) (by kernel_rfl) (by simp) ?_
  refine AllReadyH.cons rfl (fun K hK => ?_) AllReadyH.nil
  go_simp
  (go_at_call 61; refine (HTU.out _ (ext_drew _)).mono ?_; rintro e w5 ⟨hx5, A5, cap5, rfl, k6, k7, k8⟩)
  refine hK.out _ _ (⟨ext_trans (ext_drew _) hx5, ((HBX.out.ext (ext_trans (ext_drew _) hx5)).cell 0), ((ext_trans (ext_drew _) hx5).cell (p := ⟨b, off, none⟩) hb4).trans c0'⟩) (fun hHeld => ?_)
  clear hK K
  try simp only [List.getElem_toArray, List.getElem_cons_zero, List.getElem_cons_succ, Act.put, List.setIfInBounds_toArray, List.set_cons_zero, List.set_cons_succ]
  refine wpAnyH_take (i := 8) (v := ?v8) rfl (by kernel_rfl) (by kernel_rfl) (by kernel_rfl) (fun _ _ _ h => h) (Or.inl ⟨by rfl, ?hy8⟩) hHeld ?rst8
  case hy8 => (intro wx hSw; (try dsimp only at hSw); go_simp; try (with_reducible rfl))
  try simp only [List.getElem_toArray, List.getElem_cons_zero, List.getElem_cons_succ, Act.put, List.setIfInBounds_toArray, List.set_cons_zero, List.set_cons_succ]
  refine wpAnyH_done (by kernel_rfl) ?_ _
  go_wp2
  refine bodyPost_ret (v := .slice A5 M.length cap5) (by simp [results, Tryd.results91, go_sem]) rfl ?_
  exact ⟨ext_trans HX1.out (ext_trans (ext_drew _) hx5), A5, cap5, rfl, k6, k7, k8⟩
end Go.Proofs.YtdkoomcgnaokgaaDoor
