/- The reference's morphed walked. Conditions: a skin. -/
import Derived.Test.YtdkoomcgnaokgaaDoorEs
import Derived.Deep.CutBlock
namespace Go.Proofs.YtdkoomcgnaokgaaDoor
open Go.RowKit

theorem rwB_succ (e : Bool) (f : Nat → Nat) (u0 c j : Nat) : rwB e f u0 c (j + 1) = bst e (rwB e f u0 c j) (f (u0 + j)) := rfl
theorem bxB_succ (e : Bool) (c2 : Nat → Nat → Nat) (u0 v0 nu c a : Nat) : bxB e c2 u0 v0 nu c (a + 1) = rwB e (fun u => c2 u (v0 + a)) u0 (bxB e c2 u0 v0 nu c a) nu := rfl
def mI (e : Bool) (l : List ByteArray) (k : Nat) (x y : Nat) : Int := (mB e (wid l) l.length k (cellB l) x y : Int) - 48
theorem mB_rg {l : List ByteArray} (hok : SkOk l) (e : Bool) (k x y : Nat) : 48 ≤ mB e (wid l) l.length k (cellB l) x y ∧ mB e (wid l) l.length k (cellB l) x y ≤ 57 := by
  unfold mB
  refine bxB_rg ?_ _ fun _ _ _ _ => cellB_rg hok _ _
  unfold iniB
  split
  · omega
  · exact cellB_rg hok _ _
theorem bst_lt {e : Bool} {a b : Nat} (h : b < a) : bst e a b = if e then b else a := by unfold bst; cases e <;> simp <;> omega
theorem bst_gt {e : Bool} {a b : Nat} (h : a ≤ b) : bst e a b = if e then a else b := by unfold bst; cases e <;> simp <;> omega
set_option maxRecDepth 100000 in
set_option maxHeartbeats 8000000 in
theorem morphed_any (e : Bool) (k : Nat) (A : Option Addr) (cap : Nat) (l : List ByteArray) (W : World) (hok : SkOk l) (h : TSl W A l) (hk : k ≤ 48) :
    Calls Tryd.prog 67 #[.slice A l.length cap, .int .i64 (k : Int), .bool e] W (RetSk W (morP e l k)) := by
  have HOK := Lib.hid hok
  have HGR := Lib.hid (fun x y V (hV : Below W.heap.size W V) => rgrade_any A cap l x y V hok (h.ext hV))
  rcases h with h0 | ⟨b, off, rfl, hblt, hcl⟩
  · have h1 := hok.1; rw [h0] at h1; simp at h1
  obtain ⟨r0, c0, hr0⟩ := first_row hok hcl
  have hl1 := hok.1
  have hl48 := hok.2.1
  have hw48 := hok.2.2.2.1
  have hw1 := hok.2.2.1
  have hl0 : 0 < l.length := by omega
  obtain ⟨n, hn⟩ : ∃ n, n = wid l := ⟨_, rfl⟩
  have HN := Lib.hid hn
  rw [← hn] at hr0 hw48 hw1
  have HMR := Lib.hid (fun x y => mB_rg hok e k x y)
  have HMC := Lib.hid (fun x y (hx : x < wid l) (hy : y < l.length) => mB_c4 (e := e) (k := k) (c := cellB l) hx hy)
  have HCB := Lib.hid (fun x y => cellB_rg hok x y)
  have HGC := Lib.hid (fun x y (hx : x < wid l) (hy : y < l.length) => gr_cell hx hy)
  have HB0 := Lib.hid (Below.refl W.heap.size W)
  obtain ⟨c, hcc⟩ : ∃ c, c = cellB l := ⟨_, rfl⟩
  obtain ⟨H, hH⟩ : ∃ H, H = l.length := ⟨_, rfl⟩
  clear hcl hn hok
  go_enter Tryd.func67, Tryd.ntmps67
  go_upto_block 0 with (fail)
  clear c0 hr0 hblt hl0
  go_wp2_with (fail)
  go_loopg [23, 9] l.length (fun gg i v wr => ∃ y : Nat, i = .int .i64 y ∧ y ≤ l.length ∧ gg = l.length - y ∧ Below W.heap.size W wr ∧ Vi W.heap.size wr v (gridP n (mI e l k) y 0))
  case atStart => exact ⟨0, rfl, by omega, by omega, HB0.out, by rw [gridP_none]; exact Vi.nil _ _⟩
  case round =>
    obtain ⟨y, rfl, hy, hg, hb, hv⟩ := hrel
    have HG := Lib.hid hg
    have HB := Lib.hid hb
    have HVV := Lib.hid hv
    clear hg hb hv HB0
    by_cases hlt : y < l.length
    · go_wp2_with (fail)
      go_loopg [27, 9] n (fun gg i v wr => ∃ x : Nat, i = .int .i64 x ∧ x ≤ n ∧ gg = n - x ∧ Below W.heap.size W wr ∧ Vi W.heap.size wr v (gridP n (mI e l k) y x))
      case atStart => exact ⟨0, rfl, by omega, by omega, HB.out, HVV.out⟩
      case round =>
        obtain ⟨x, rfl, hx, hg2, hb2, hv2⟩ := hrel
        have HG2 := Lib.hid hg2
        have HB2 := Lib.hid hb2
        have HV2 := Lib.hid hv2
        have HLT := Lib.hid hlt
        clear hg2 hb2 hv2 HB HVV
        obtain ⟨V0, hV0⟩ : ∃ V0, V0 = wr := ⟨_, rfl⟩
        subst hV0
        by_cases hxn : x < n
        · have HG0 := Lib.hid (HGR.out (x : Int) (y : Int) V0 HB2.out)
          rw [HGC.out x y (by rw [← HN.out]; exact hxn) hlt] at HG0
          go_upto_region 10 with (go_at_call 53; refine (HG0.out).mono ?_; rintro r9 w9 ⟨rfl, rfl⟩)
          have HI := Lib.hid (show iniB e n l.length k (cellB l) x y = if e = true ∧ edg n l.length k x y then 48 else cellB l x y from rfl)
          obtain ⟨iv, hiv⟩ : ∃ iv, iv = iniB e n l.length k (cellB l) x y := ⟨_, rfl⟩
          have HIV := Lib.hid hiv
          rw [← hiv] at HI
          clear hiv
          have HE := Lib.hid (show edg n l.length k x y ↔ (x : Int) < (k : Int) ∨ (y : Int) < (k : Int) ∨ (n : Int) ≤ (x : Int) + (k : Int) ∨ (l.length : Int) ≤ (y : Int) + (k : Int) from by unfold edg; omega)
          have HY := Lib.hid (show e = true ∧ edg n l.length k x y → (0 : Int) = (iv : Int) - 48 from fun h => by
            have : iv = 48 := by rw [HI.out, if_pos h]
            omega)
          have HZ := Lib.hid (fun (h : ¬ (e = true ∧ edg n l.length k x y)) => show cellB l x y = iv from by rw [HI.out, if_neg h])
          obtain ⟨ib, hib⟩ : ∃ ib : Int, ib = (iv : Int) - 48 := ⟨_, rfl⟩
          rw [← hib] at HY
          have HIB := Lib.hid hib
          obtain ⟨ix, hix⟩ : ∃ ix : Int, ix = (cellB l x y : Int) - 48 := ⟨_, rfl⟩
          rw [← hix]
          have HZ2 := Lib.hid (fun (h : ¬ (e = true ∧ edg n l.length k x y)) => show ix = ib from by rw [hix, hib, HZ.out h])
          clear hib hix HZ HI
          have HV := Lib.hid (show ix = ib ∨ (e = true ∧ edg n l.length k x y) from Classical.byCases (fun h => .inr h) (fun h => .inl (HZ2.out h)))
          go_cut [58] (fun z wx => z = .bool (decide (e = true ∧ edg n l.length k x y)) ∧ wx = w9)
          case first =>
            cases e
            · have HD := Lib.hid (decide_eq_false (show ¬ (false = true ∧ edg n l.length k x y) from fun h => by cases h.1))
              go_wp2
              go_meet
              case rel => exact ⟨by rw [HD.out], rfl⟩
            · by_cases h1 : (x : Int) < (k : Int)
              · have HD := Lib.hid (decide_eq_true (show (true = true ∧ edg n l.length k x y) from ⟨rfl, HE.out.2 (.inl h1)⟩))
                go_wp2
                go_meet
                case rel => exact ⟨by rw [HD.out], rfl⟩
              · by_cases h2 : (y : Int) < (k : Int)
                · have HD := Lib.hid (decide_eq_true (show (true = true ∧ edg n l.length k x y) from ⟨rfl, HE.out.2 (.inr (.inl h2))⟩))
                  go_wp2
                  go_meet
                  case rel => exact ⟨by rw [HD.out], rfl⟩
                · by_cases h3 : (n : Int) ≤ (x : Int) + (k : Int)
                  · have HD := Lib.hid (decide_eq_true (show (true = true ∧ edg n l.length k x y) from ⟨rfl, HE.out.2 (.inr (.inr (.inl h3)))⟩))
                    go_wp2
                    go_meet
                    case rel => exact ⟨by rw [HD.out], rfl⟩
                  · by_cases h4 : (l.length : Int) ≤ (y : Int) + (k : Int)
                    · have HD := Lib.hid (decide_eq_true (show (true = true ∧ edg n l.length k x y) from ⟨rfl, HE.out.2 (.inr (.inr (.inr h4)))⟩))
                      go_wp2
                      go_meet
                      case rel => exact ⟨by rw [HD.out], rfl⟩
                    · have HD := Lib.hid (decide_eq_false (show ¬ (true = true ∧ edg n l.length k x y) from fun h => (HE.out.1 h.2).elim h1 (fun h => h.elim h2 (fun h => h.elim h3 h4))))
                      go_wp2
                      go_meet
                      case rel => exact ⟨by rw [HD.out], rfl⟩
          case rest =>
            obtain ⟨rfl, hw⟩ := hcut
            rename_i hKc
            refine hKc _ _ ?_
            go_cut [12] (fun z wx => z = .int .i64 ib ∧ wx = wc)
            case first =>
              by_cases hd : (e = true ∧ edg n l.length k x y)
              · rw [decide_eq_true hd]
                have HD := Lib.hid (HY.out hd)
                clear hd
                go_wp2
                go_meet
                case rel => exact ⟨by rw [← HD.out], rfl⟩
              · rw [decide_eq_false hd]
                have HD := Lib.hid (HZ2.out hd)
                clear hd
                go_wp2
                go_meet
                case rel => exact ⟨by rw [HD.out], rfl⟩
            case rest =>
              obtain ⟨rfl, hw2⟩ := hcut
              subst hw2
              subst hw
              clear HE HY HZ2 HV HG0 hKc
              obtain ⟨v0, hv0⟩ : ∃ v0 : Nat, v0 = y - k := ⟨_, rfl⟩
              obtain ⟨nv, hnv⟩ : ∃ nv : Nat, nv = nuB l.length k y := ⟨_, rfl⟩
              obtain ⟨x0, hx0⟩ : ∃ x0 : Nat, x0 = x - k := ⟨_, rfl⟩
              obtain ⟨nx, hnx⟩ : ∃ nx : Nat, nx = nuB n k x := ⟨_, rfl⟩
              have HNV := Lib.hid hnv
              have HNX := Lib.hid hnx
              have HV0 := Lib.hid hv0
              have HX0 := Lib.hid hx0
              unfold nuB at hnv hnx
              have e1 : max 0 ((y : Int) - (k : Int)) = (v0 : Int) := by omega
              have e2 : min ((l.length : Int) - 1) ((y : Int) + (k : Int)) = (v0 : Int) + (nv : Int) - 1 := by omega
              have e3 : max 0 ((x : Int) - (k : Int)) = (x0 : Int) := by omega
              have e4 : min ((n : Int) - 1) ((x : Int) + (k : Int)) = (x0 : Int) + (nx : Int) - 1 := by omega
              have hvb : v0 + nv ≤ l.length := by omega
              have hxb : x0 + nx ≤ n := by omega
              clear hv0 hnv hx0 hnx
              have HBX := Lib.hid (fun a => bxB_succ e (cellB l) x0 v0 nx iv a)
              have HRW := Lib.hid (fun (f : Nat → Nat) c0 j => rwB_succ e f x0 c0 j)
              have hyl := hlt
              go_wp2_with (fail)
              go_loopg [13, 12] nv (fun gg v b wr => ∃ (a bv : Nat) (q z : Int), v = .int .i64 q ∧ q = (v0 : Int) + (a : Int) ∧ a ≤ nv ∧ gg = nv - a ∧ b = .int .i64 z ∧ z = (bv : Int) - 48 ∧ bv = bxB e (cellB l) x0 v0 nx iv a ∧ wr = wc)
              case atStart => exact ⟨0, iv, _, _, rfl, by omega, by omega, by omega, rfl, HIB.out, rfl, rfl⟩
              case round =>
                obtain ⟨a, bv, q, z, rfl, hq, ha, hg3, rfl, hz, hbv, hw⟩ := hrel
                subst hw
                have HQ := Lib.hid hq
                have HG3 := Lib.hid hg3
                have HZ := Lib.hid hz
                have HBV := Lib.hid hbv
                have hqb : 0 ≤ q ∧ q ≤ 100 := by omega
                by_cases han : a < nv
                · have hqt : q ≤ (v0 : Int) + (nv : Int) - 1 := by omega
                  obtain ⟨m, hm⟩ : ∃ m : Nat, m = v0 + a := ⟨_, rfl⟩
                  have hqm : q = (m : Int) := by omega
                  have hml : m < l.length := by omega
                  have HM := Lib.hid hm
                  subst hqm
                  clear hq hg3 hz hbv hm
                  go_wp2_with (fail)
                  go_loopg [14, 12] nx (fun gg v b wy => ∃ (j cv : Nat) (q z : Int), v = .int .i64 q ∧ q = (x0 : Int) + (j : Int) ∧ j ≤ nx ∧ gg = nx - j ∧ b = .int .i64 z ∧ z = (cv : Int) - 48 ∧ cv = rwB e (fun u => cellB l u m) x0 bv j ∧ wy = wr)
                  case atStart => exact ⟨0, bv, _, _, rfl, by omega, by omega, by omega, rfl, HZ.out, rfl, rfl⟩
                  case round =>
                    obtain ⟨j, cv, q2, z2, rfl, hq2, hj, hg4, rfl, hz2, hcv, hw⟩ := hrel
                    subst hw
                    have HQ2 := Lib.hid hq2
                    have HG4 := Lib.hid hg4
                    have HZ2 := Lib.hid hz2
                    have HCV := Lib.hid hcv
                    have hqb2 : 0 ≤ q2 ∧ q2 ≤ 100 := by omega
                    by_cases hjn : j < nx
                    · have hqt2 : q2 ≤ (x0 : Int) + (nx : Int) - 1 := by omega
                      obtain ⟨m2, hm2⟩ : ∃ m2 : Nat, m2 = x0 + j := ⟨_, rfl⟩
                      have hqm2 : q2 = (m2 : Int) := by omega
                      have hmn : m2 < n := by omega
                      subst hqm2
                      have HGM := Lib.hid (HGR.out (m2 : Int) (m : Int) wr HB2.out)
                      rw [HGC.out m2 m (by rw [← HN.out]; exact hmn) hml] at HGM
                      obtain ⟨gv, hgv⟩ : ∃ gv : Nat, gv = cellB l m2 m := ⟨_, rfl⟩
                      obtain ⟨gz, hgz⟩ : ∃ gz : Int, gz = (gv : Int) - 48 := ⟨_, rfl⟩
                      rw [← hgv, ← hgz] at HGM
                      have HNX := Lib.hid (show rwB e (fun u => cellB l u m) x0 bv (j + 1) = bst e cv gv from by rw [HRW.out, ← hcv, hgv, hm2])
                      have HGZ := Lib.hid hgz
                      have HQ3 := Lib.hid (show (m2 : Int) + 1 = (x0 : Int) + ((j + 1 : Nat) : Int) from by omega)
                      rcases Int.lt_trichotomy gz z2 with hlt2 | heq2 | hgt2
                      · have HST := Lib.hid (show bst e cv gv = if e then gv else cv from bst_lt (by omega))
                        clear hq2 hg4 hz2 hcv hgz hgv hm2
                        cases e
                        · go_wp2_with (go_at_call 53; refine (HGM.out).mono ?_; rintro r8 w8 ⟨rfl, rfl⟩)
                          go_roundg (nx - (j + 1))
                          case measure => have := HG4.out; omega
                          case rel => exact ⟨j + 1, cv, _, _, rfl, HQ3.out, by omega, rfl, rfl, HZ2.out, by rw [HNX.out, HST.out]; rfl, rfl⟩
                        · have hne2 : (gz != z2) = true := by simp only [bne_iff_ne]; omega
                          go_wp2_with (go_at_call 53; refine (HGM.out).mono ?_; rintro r8 w8 ⟨rfl, rfl⟩)
                          go_roundg (nx - (j + 1))
                          case measure => have := HG4.out; omega
                          case rel => exact ⟨j + 1, gv, _, _, rfl, HQ3.out, by omega, rfl, rfl, HGZ.out, by rw [HNX.out, HST.out]; rfl, rfl⟩
                      · have HST := Lib.hid (show bst e cv gv = cv from by rw [show gv = cv by omega]; unfold bst; cases e <;> simp)
                        have hnl : ¬ gz < z2 := by omega
                        have hee : (gz != z2) = false := by rw [heq2]; simp
                        clear hq2 hg4 hz2 hcv hgz hgv hm2 heq2
                        cases e
                        · go_wp2_with (go_at_call 53; refine (HGM.out).mono ?_; rintro r8 w8 ⟨rfl, rfl⟩)
                          go_roundg (nx - (j + 1))
                          case measure => have := HG4.out; omega
                          case rel => exact ⟨j + 1, cv, _, _, rfl, HQ3.out, by omega, rfl, rfl, HZ2.out, by rw [HNX.out, HST.out], rfl⟩
                        · go_wp2_with (go_at_call 53; refine (HGM.out).mono ?_; rintro r8 w8 ⟨rfl, rfl⟩)
                          go_roundg (nx - (j + 1))
                          case measure => have := HG4.out; omega
                          case rel => exact ⟨j + 1, cv, _, _, rfl, HQ3.out, by omega, rfl, rfl, HZ2.out, by rw [HNX.out, HST.out], rfl⟩
                      · have HST := Lib.hid (show bst e cv gv = if e then cv else gv from bst_gt (by omega))
                        have hnl : ¬ gz < z2 := by omega
                        have hne2 : (gz != z2) = true := by simp only [bne_iff_ne]; omega
                        clear hq2 hg4 hz2 hcv hgz hgv hm2 hgt2
                        cases e
                        · go_wp2_with (go_at_call 53; refine (HGM.out).mono ?_; rintro r8 w8 ⟨rfl, rfl⟩)
                          rotate_left
                          · rename_i h9; simp at h9; omega
                          go_roundg (nx - (j + 1))
                          case measure => have := HG4.out; omega
                          case rel => exact ⟨j + 1, gv, _, _, rfl, HQ3.out, by omega, rfl, rfl, HGZ.out, by rw [HNX.out, HST.out]; rfl, rfl⟩
                        · go_wp2_with (go_at_call 53; refine (HGM.out).mono ?_; rintro r8 w8 ⟨rfl, rfl⟩)
                          go_roundg (nx - (j + 1))
                          case measure => have := HG4.out; omega
                          case rel => exact ⟨j + 1, cv, _, _, rfl, HQ3.out, by omega, rfl, rfl, HZ2.out, by rw [HNX.out, HST.out]; rfl, rfl⟩
                    · have hqt2 : ¬ q2 ≤ (x0 : Int) + (nx : Int) - 1 := by omega
                      have HJ := Lib.hid (show j = nx by omega)
                      clear hq2 hg4 hz2 hcv hjn
                      go_wp2
                      go_roundg (nv - (a + 1))
                      case measure => have := HG3.out; omega
                      case rel => exact ⟨a + 1, cv, _, _, rfl, by have := HM.out; omega, by omega, rfl, rfl, HZ2.out, by rw [HBX.out, ← HBV.out, ← HM.out, HCV.out, HJ.out], rfl⟩
                · have hqt : ¬ q ≤ (v0 : Int) + (nv : Int) - 1 := by omega
                  have HJ := Lib.hid (show a = nv by omega)
                  have HMI := Lib.hid (show z = mI e l k x y from by
                    unfold mI mB
                    rw [hz, hbv, HJ.out, HNV.out, HNX.out, HV0.out, HX0.out, HIV.out, HN.out])
                  have HGS := Lib.hid (gridP_cell n (mI e l k) y x)
                  rw [← HMI.out] at HGS
                  have hgl := gridP_len n (mI e l k) y x
                  have hyx : y * n + x ≤ 48 * 48 + 48 := by
                    have := Nat.mul_le_mul (show y ≤ 48 by omega) (show n ≤ 48 by omega)
                    omega
                  have hgl2 : (gridP n (mI e l k) y x).length ≤ 1000000 := by omega
                  have hbs : W.heap.size ≤ wr.heap.size := HB2.out.size
                  clear hq hg3 hz hbv han hgl hyx
                  go_wp2_with (at_builtin; refine wpList_pushI _ rfl _ _ rfl W.heap.size HV2.out (by rfl) (by rfl) rfl hgl2 hbs ?_; intro v5 w5 hv5 hb5 hk5 _; have HV5 := Lib.hid hv5; have HB5 := Lib.hid (HB2.out.trans hb5); clear hv5 hb5 hk5)
                  go_roundg (n - (x + 1))
                  case measure => have := HG2.out; omega
                  case rel => exact ⟨x + 1, by go_num, by omega, rfl, HB5.out, by rw [HGS.out]; exact HV5.out⟩
        · obtain rfl : x = n := by omega
          have HR := Lib.hid (gridP_row x (mI e l k) y)
          go_wp2
          go_roundg (l.length - (y + 1))
          case measure => have := HG.out; have := HLT.out; omega
          case rel => exact ⟨y + 1, by go_num, by have := HLT.out; omega, rfl, HB2.out, by rw [← HR.out]; exact HV2.out⟩
    · obtain rfl : y = l.length := by omega
      obtain ⟨C, cc, hv2, k1, k2, k3⟩ := HVV.out.isl
      subst hv2
      have HDR := Lib.hid (drawn_any n l.length (mI e l k) C cc wr (by omega) (by omega) (fun x y _ _ => by have := HMR.out x y; unfold mI; omega) k3)
      unfold RetSk at HDR ⊢
      obtain ⟨ms, hms⟩ : ∃ ms, ms = morP e l k := ⟨_, rfl⟩
      have e1 : (skF n l.length fun i j => 48 + (mI e l k i j).toNat) = ms := by
        rw [hms, HN.out]
        unfold morP
        refine skF_congr fun i j hi hj => ?_
        have h1 := HMR.out i j
        rw [← HMC.out i j hi hj]
        unfold mI
        omega
      rw [e1] at HDR
      have HMS := Lib.hid hms
      clear hms e1 k1 k2 k3 hlt
      go_wp2_with (go_at_call 63; refine (HDR.out).mono ?_; rintro r5 w5 ⟨hx5, A5, cap5, rfl, k1, k2, k3⟩)
      refine bodyPost_ret (v := .slice A5 ms.length cap5) (by simp [results, Tryd.results67, go_sem]) rfl ?_
      have hm2 := HMS.out
      subst hm2
      exact ⟨bext HB.out hx5 HB.out.size, A5, cap5, rfl, k1, k2, k3⟩
end Go.Proofs.YtdkoomcgnaokgaaDoor
