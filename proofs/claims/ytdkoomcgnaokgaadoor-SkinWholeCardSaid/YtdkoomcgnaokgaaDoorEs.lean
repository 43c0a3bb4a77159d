/- around walked; Erode, Dilate, Open of the program. Conditions: each string's length is an int. -/
import Derived.Test.YtdkoomcgnaokgaaDoorEr
namespace Go.Proofs.YtdkoomcgnaokgaaDoor
open Go.RowKit

theorem cellB_skF {w h : Nat} {c : Nat → Nat → Nat} {x y : Nat} (hx : x < w) (hy : y < h) (hc : c x y < 256) : cellB (skF w h c) x y = c x y := by
  rw [cellB_at (show y < (skF w h c).length by rw [skF_len]; exact hy), skF_at]
  exact rowF_byte hx hc
theorem fdW_congr {e : Bool} {w : Nat} {f g : Nat → Nat} {c : Nat} {lo : Int} (h : ∀ i, i < w → f i = g i) : ∀ n, fdW e w f c lo n = fdW e w g c lo n
  | 0 => rfl
  | n + 1 => by
    unfold fdW stW
    rw [fdW_congr h n]
    by_cases hi : 0 ≤ lo + (n : Int) ∧ lo + (n : Int) < (w : Int)
    · rw [if_pos hi, if_pos hi, h _ (by omega)]
    · rw [if_neg hi, if_neg hi]
theorem onF_congr {e : Bool} {w k : Nat} {f g : Nat → Nat} {x : Nat} (h : ∀ i, i < w → f i = g i) (hx : x < w) : onF e w k f x = onF e w k g x := by
  unfold onF; rw [h x hx]; exact fdW_congr h _
/-- eroded (true) or dilated (false) -/
def morP (e : Bool) (l : List ByteArray) (k : Nat) : List ByteArray := skF (wid l) l.length (c4 e (wid l) l.length k (cellB l))
def arP (e : Bool) (l : List ByteArray) (k : Nat) : List ByteArray := flipP (rowP e (flipP (rowP e l k)) k)
theorem flipP_skF {w h : Nat} {c : Nat → Nat → Nat} (hh : 1 ≤ h) (hc : ∀ x y, x < w → y < h → c x y < 256) : flipP (skF w h c) = skF h w fun x y => c y x := by
  unfold flipP
  rw [skF_len, wid_skF hh]
  exact skF_congr fun x y hx hy => cellB_skF hy hx (hc y x hy hx)
theorem rowP_skF {w h : Nat} {c : Nat → Nat → Nat} (e : Bool) (k : Nat) (hh : 1 ≤ h) (hc : ∀ x y, x < w → y < h → c x y < 256) : rowP e (skF w h c) k = skF w h fun x y => onF e w k (fun i => c i y) x := by
  unfold rowP
  rw [skF_len, wid_skF hh]
  exact skF_congr fun x y hx hy => onF_congr (fun i hi => cellB_skF hi hy (hc i y hi hy)) hx
theorem arP_eq {l : List ByteArray} (hok : SkOk l) (e : Bool) (k : Nat) : arP e l k = morP e l k := by
  have hw1 := hok.2.2.1
  have hh1 := hok.1
  have b1 : ∀ x y, x < wid l → y < l.length → 48 ≤ onF e (wid l) k (fun i => cellB l i y) x ∧ onF e (wid l) k (fun i => cellB l i y) x ≤ 57 := fun x y hx _ => onF_rg (fun i _ => cellB_rg hok i y) hx
  unfold arP morP
  rw [show rowP e l k = skF (wid l) l.length fun x y => onF e (wid l) k (fun i => cellB l i y) x from rfl]
  rw [flipP_skF hh1 (fun x y hx hy => by have := b1 x y hx hy; omega)]
  rw [rowP_skF e k hw1 (fun x y hx hy => by have := b1 y x hy hx; omega)]
  rw [flipP_skF hw1 (fun x y hx hy => by
    have := onF_rg (e := e) (w := l.length) (k := k) (f := fun i => onF e (wid l) k (fun j => cellB l j i) y) (x := x) (fun i hi => b1 y i hy hi) hx
    omega)]
  rfl
theorem morP_ok {l : List ByteArray} (hok : SkOk l) (e : Bool) (k : Nat) : SkOk (morP e l k) :=
  skF_ok ⟨hok.2.2.1, hok.2.2.2.1⟩ ⟨hok.1, hok.2.1⟩ (fun _ _ hx hy => c4_rg (fun i j _ _ => cellB_rg hok i j) hx hy)
theorem morP_sz {l : List ByteArray} (hok : SkOk l) (e : Bool) (k : Nat) : TSz (morP e l k) := skF_sz hok.2.2.2.1
set_option maxRecDepth 100000 in
set_option maxHeartbeats 4000000 in
theorem around_any (e : Bool) (K : FuncId) (hE : ∀ args V, (callFunc K args).run Tryd.prog V = .ok (.enter K args) V) (hK : ∀ a b W, Calls Tryd.prog K #[.int .u8 ((a : Nat) : Int), .int .u8 ((b : Nat) : Int)] W fun r w' => r = .returned (.int .u8 ((bst e a b : Nat) : Int)) ∧ w' = W)
    (k : Nat) (A : Option Addr) (cap : Nat) (l : List ByteArray) (W : World) (hok : SkOk l) (h : TSl W A l) (hk : k ≤ 48) :
    Calls Tryd.prog 65 #[.slice A l.length cap, .int .i64 (k : Int), .bool e, .func (.func K) #[] #[]] W (RetSk W (morP e l k)) := by
  have hmf : ∀ (fn : Fn) (first cap : Array Value) (w : World), (Instr.makeFunc fn first cap).run Tryd.prog w = .ok (.func fn first cap) w := fun _ _ _ _ => rfl
  obtain ⟨V, hV⟩ : ∃ V, V = ((W.alloc (.cells #[.int .i64 (k : Int)] 3)).alloc (.cells #[.bool e] 4)).alloc (.cells #[.func (.func K) #[] #[]] 93) := ⟨_, rfl⟩
  have HX := Lib.hid (show Below W.heap.size W V from by rw [hV]; exact ext_trans (ext_trans (ext_alloc _ _) (ext_alloc _ _)) (ext_alloc _ _))
  have HA := Lib.hid (show ArS V W.heap.size (W.heap.size + 1 + 1) (W.heap.size + 1) k K e from by
    have h1 := Bk.new 3 W #[.int .i64 (k : Int)]
    have h2 := Bk.new 4 (W.alloc (.cells #[.int .i64 (k : Int)] 3)) #[.bool e]
    have h3 := Bk.new 93 ((W.alloc (.cells #[.int .i64 (k : Int)] 3)).alloc (.cells #[.bool e] 4)) #[.func (.func K) #[] #[]]
    have h1 := (h1.alloc (.cells #[.bool e] 4)).alloc (.cells #[.func (.func K) #[] #[]] 93)
    have h2 := h2.alloc (.cells #[.func (.func K) #[] #[]] 93)
    rw [← hV] at h1 h2 h3
    simp only [World.size_alloc] at h2 h3
    exact ⟨h1.cell 0, h3.cell 0, h2.cell 0, h1.lt, h3.lt, h2.lt⟩)
  have HV := Lib.hid hV
  have HT := Lib.hid h
  have HOK := Lib.hid hok
  have HON := Lib.hid (fun A cap l (V' : World) (hV : Below V.heap.size V V') (hok : SkOk l) (h : TSl V' A l) => once_any e K hE hK k W.heap.size (W.heap.size + 1 + 1) (W.heap.size + 1) A cap l V' hok h (HA.out.ext hV) hk)
  unfold RetSk at HON ⊢
  have HFL := Lib.hid (fun A cap l (V' : World) (hok : SkOk l) (h : TSl V' A l) => flip_any A cap l V' hok h)
  unfold RetSk at HFL
  have HEQ := Lib.hid (arP_eq hok e k)
  obtain ⟨l1, hl1⟩ : ∃ l1, l1 = rowP e l k := ⟨_, rfl⟩
  obtain ⟨l2, hl2⟩ : ∃ l2, l2 = flipP l1 := ⟨_, rfl⟩
  obtain ⟨l3, hl3⟩ : ∃ l3, l3 = rowP e l2 k := ⟨_, rfl⟩
  obtain ⟨l4, hl4⟩ : ∃ l4, l4 = flipP l3 := ⟨_, rfl⟩
  have HE4 := Lib.hid (show morP e l k = l4 from by rw [← HEQ.out]; unfold arP; rw [hl4, hl3, hl2, hl1])
  have o1 : SkOk l1 := by rw [hl1]; exact rowP_ok hok e k
  have o2 : SkOk l2 := by rw [hl2]; exact flipP_ok o1
  have o3 : SkOk l3 := by rw [hl3]; exact rowP_ok o2 e k
  have H1 := Lib.hid (fun V' (hV : Below V.heap.size V V') (h : TSl V' A l) => HON.out A cap l V' hV hok h)
  have H2 := Lib.hid (fun A cap V' (h : TSl V' A l1) => HFL.out A cap l1 V' o1 h)
  have H3 := Lib.hid (fun A cap V' (hV : Below V.heap.size V V') (h : TSl V' A l2) => HON.out A cap l2 V' hV o2 h)
  have H4 := Lib.hid (fun A cap V' (h : TSl V' A l3) => HFL.out A cap l3 V' o3 h)
  rw [← hl1] at H1
  rw [← hl2] at H2
  rw [← hl3] at H3
  rw [← hl4] at H4
  rw [HE4.out]
  clear hV hl1 hl2 hl3 hl4 o1 o2 o3 hok h HON HFL HEQ hE hK
  go_enter Tryd.func65, Tryd.ntmps65
  go_upto_region 1 with (fail)
  rw [← HV.out]
  go_wp2_with (first
    | (go_at_call_of 89 (Value.slice A l.length cap); refine (H1.out _ (Below.refl _ _) (HT.out.ext HX.out)).mono ?_; rintro r1 w1 ⟨hx1, A1, c1, rfl, i1, j1, t1⟩)
    | (go_at_call_of 91 (Value.slice A1 l1.length c1); refine (H2.out _ _ _ t1).mono ?_; rintro r2 w2 ⟨hx2, A2, c2, rfl, i2, j2, t2⟩; have b2 := ext_trans hx1 hx2)
    | (go_at_call_of 89 (Value.slice A2 l2.length c2); refine (H3.out _ _ _ b2 t2).mono ?_; rintro r3 w3 ⟨hx3, A3, c3, rfl, i3, j3, t3⟩; have b3 := ext_trans b2 hx3)
    | (go_at_call_of 91 (Value.slice A3 l3.length c3); refine (H4.out _ _ _ t3).mono ?_; rintro r4 w4 ⟨hx4, A4, c4', rfl, i4, j4, t4⟩; have b4 := ext_trans b3 hx4))
  refine bodyPost_ret (v := .slice A4 l4.length c4') (by simp [results, Tryd.results65, go_sem]) rfl ?_
  exact ⟨ext_trans HX.out b4, A4, c4', rfl, i4, j4, t4⟩
end Go.Proofs.YtdkoomcgnaokgaaDoor
