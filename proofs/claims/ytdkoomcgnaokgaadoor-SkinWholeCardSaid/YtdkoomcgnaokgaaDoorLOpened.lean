/- SkinOpened walked. Conditions: the arguments read as lists. -/
import Derived.Test.YtdkoomcgnaokgaaDoorOn
import Derived.Test.YtdkoomcgnaokgaaDoorLTurns
import Derived.Deep.CutBlock
namespace Go.Proofs.YtdkoomcgnaokgaaDoor
open Go.RowKit

/-- a returned skin that is there -/
def RetB (W : World) (h : Nat) (s : List ByteArray) (e : Ending) (W' : World) : Prop :=
  Below W.heap.size W W' ∧ ∃ b off cap, e = .returned (.tuple #[.slice (some ⟨b, off, none⟩) h cap, .int .i64 0]) ∧ h ≤ cap ∧ cap ≤ 9223372036854775807 ∧ TSl W' (some ⟨b, off, none⟩) s
theorem retB {W : World} {ok : Prop} {er : Int} {s : List ByteArray} {e : Ending} {W' : World} (hok : ok) (h1 : 1 ≤ s.length) (hr : RetS2 W ok er s e W') : RetB W s.length s e W' := by
  obtain ⟨hb, ⟨hn, _⟩ | ⟨_, A, cap, he, hc, hcm, ht⟩⟩ := hr
  · exact absurd hok hn
  · obtain ⟨b, off, rfl⟩ := ht.addr h1
    exact ⟨hb, b, off, cap, he, hc, hcm, ht⟩
set_option maxRecDepth 100000 in
set_option maxHeartbeats 4000000 in
theorem law_opened (A : Option Addr) (cap : Nat) (l : List ByteArray) (g k : Int) (w : World) (hc : l.length ≤ cap) (hcm : cap ≤ 9223372036854775807) (h : TSl w A l) (hz : TSz l) :
    Calls Tryd.prog 11 #[.slice A l.length cap, .int .i64 g, .int .i64 k] w fun e w' => e = .returned (.bool true) ∧ Below w.heap.size w w' := by
  have HGD := Lib.hid (fun W (hW : Below w.heap.size w W) => good_any A cap l g W hc hcm (h.ext hW) hz)
  have HRV := Lib.hid (fun W (hW : Below w.heap.size w W) => rvalid_any A cap l W hc hcm (h.ext hW) hz)
  have HO := Lib.hid (open_any A cap l k w hc hcm h hz)
  by_cases hmo : MoOk l k
  · obtain ⟨hok, hk0, hk48⟩ := hmo
    have hmo : MoOk l k := ⟨hok, hk0, hk48⟩
    obtain ⟨m, hm⟩ : ∃ m : Nat, m = k.toNat := ⟨_, rfl⟩
    have hkm : k = (m : Int) := by omega
    rw [← hm] at HO
    clear hm
    subst hkm
    obtain ⟨hof1, hof2, hof3⟩ := opP_facts hok m
    have HO1 := Lib.hid (HO.out.mono fun e w' hr => (show RetB w l.length (opP l m) e w' from by
      have := retB (s := opP l m) hmo (by rw [hof1]; exact hok.1) hr
      rw [hof1] at this; exact this))
    unfold RetB at HO1
    by_cases hps : PsOk l g
    · have hg1 := hps.2.1
      have hg9 := hps.2.2
      rw [decide_eq_true hps] at HGD
      have hmo2 : MoOk (opP l m) m := ⟨opP_ok hok m, hk0, hk48⟩
      have HO2 := Lib.hid (fun (W : World) b off c1 (h1 : l.length ≤ c1) (h2 : c1 ≤ 9223372036854775807) (h3 : TSl W (some ⟨b, off, none⟩) (opP l m)) => (show Calls Tryd.prog 37 #[.slice (some ⟨b, off, none⟩) l.length c1, .int .i64 (m : Int)] W (RetB W l.length (opP l m)) from by
        have h4 := open_any (some ⟨b, off, none⟩) c1 (opP l m) m W (by rw [hof1]; exact h1) h2 h3 (opP_sz hok m)
        rw [hof1, Int.toNat_natCast] at h4
        refine h4.mono fun e w' hr => ?_
        have e1 : morP false (morP true (opP l m) m) m = opP l m := opP_opP hok m
        rw [e1] at hr
        have := retB (s := opP l m) hmo2 (by rw [hof1]; exact hok.1) hr
        rw [hof1] at this; exact this))
      unfold RetB at HO2
      have HEQ := Lib.hid (fun A' B' c c' W (hA : TSl W A' (opP l m)) (hB : TSl W B' (opP l m)) => (show Calls Tryd.prog 32 #[.slice A' l.length c, .slice B' l.length c'] W _ from by
        have h4 := equal_strs A' B' c c' (opP l m) W (by rw [hof1]; have := hok.2.1; omega) hA hB
        rw [hof1] at h4
        exact h4))
      obtain ⟨hef1, hef2, hef3⟩ := erP_facts hok m
      have HER := Lib.hid (fun W (hW : Below w.heap.size w W) => (erode_any A cap l m W hc hcm (h.ext hW) hz).mono fun e w' hr => (show RetB W l.length (morP true l m) e w' from by
        rw [Int.toNat_natCast] at hr
        have := retB (s := morP true l m) hmo (by rw [hef1]; exact hok.1) hr
        rw [hef1] at this; exact this))
      unfold RetB at HER
      have HNT := Lib.hid (fun W (hW : Below w.heap.size w W) => (newtable_any A cap l g W hc hcm (h.ext hW) hz).mono (R' := fun e w' => Below W.heap.size W w' ∧ ∃ q, e = .returned (.tuple #[.pointer (some ⟨q, 0, none⟩), .int .i64 0]) ∧ TbS (wid l) l.length l g W.heap.size q l.length w') (fun e w' hr => by
        refine ⟨hr.1, ?_⟩
        rcases hr.2 with h | h
        · exact absurd hps h.1
        · exact h.2))
      have hl48 := hok.2.1
      have hw48 := hok.2.2.2.1
      obtain ⟨b0, o0, rfl⟩ := h.addr hok.1
      have HT0 := Lib.hid (fun W (hW : Below w.heap.size w W) => h.ext hW)
      have HARN := Lib.hid (fun x y (hx : x < wid l) (hy : y < l.length) => arN_full (l := l) (g := g) (k := m) hg1 hx hy)
      have HOK := Lib.hid hok
      have HOF := Lib.hid (show (opP l m).length = l.length ∧ wid (opP l m) = wid l ∧ ∀ x y, x < wid l → y < l.length → cellB (opP l m) x y ≤ cellB l x y from ⟨hof1, hof2, hof3⟩)
      have HEF := Lib.hid (show (morP true l m).length = l.length ∧ wid (morP true l m) = wid l ∧ ∀ x y, x < wid l → y < l.length → cellB (morP true l m) x y = c4 true (wid l) l.length m (cellB l) x y from ⟨hef1, hef2, hef3⟩)
      obtain ⟨n, hn⟩ : ∃ n, n = wid l := ⟨_, rfl⟩
      have HN := Lib.hid hn
      rw [← hn] at hw48
      clear h hz hps HO hof1 hof2 hof3 hef1 hef2 hef3 hmo hmo2 hok hn HRV
      go_enter Tryd.func11, Tryd.ntmps11
      go_upto_block 0 with (first
        | (go_at_call_of 37 (Value.slice (some ⟨b0, o0, none⟩) l.length cap); refine (HO1.out).mono ?_; rintro e w1 ⟨hx1, b1, o1, c1, rfl, i1, j1, t1⟩)
        | (go_at_call 17; refine (HGD.out _ hx1).mono ?_; rintro e w2 ⟨rfl, hx2⟩; have B2 := bext hx1 hx2 hx1.size)
        | (go_at_call_of 37 (Value.slice (some ⟨b1, o1, none⟩) l.length c1); refine (HO2.out _ _ _ _ i1 j1 (t1.ext hx2)).mono ?_; rintro e w3 ⟨hx3, b3, o3, c3, rfl, i3, j3, t3⟩; have B3 := bext B2 hx3 B2.size)
        | (go_at_call 32; refine (HEQ.out _ _ _ _ _ ((t1.ext hx2).ext hx3) t3).mono ?_; rintro e w4 ⟨rfl, hx4⟩; have B4 := bext B3 hx4 B3.size)
        | (go_at_call 33; refine (HER.out _ B4).mono ?_; rintro e w5 ⟨hx5, b5, o5, c5, rfl, i5, j5, t5⟩; have B5 := bext B4 hx5 B4.size)
        | (go_at_call 16; refine (HNT.out _ B5).mono ?_; rintro e w6 ⟨hx6, q, rfl, ht6⟩; have B6 := bext B5 hx6 B5.size))
      obtain ⟨V0, hV0⟩ : ∃ V0, V0 = w6 := ⟨_, rfl⟩
      subst hV0
      obtain ⟨base, hbase⟩ : ∃ base, base = w5.heap.size := ⟨_, rfl⟩
      rw [← hbase] at ht6
      have HB6 := Lib.hid B6
      have HS0 := Lib.hid (fun W (hW : Below V0.heap.size V0 W) => HT0.out W (bext B6 hW B6.size))
      have HS1 := Lib.hid (fun W (hW : Below V0.heap.size V0 W) => (((((t1.ext hx2).ext hx3).ext hx4).ext hx5).ext hx6).ext hW)
      have HS5 := Lib.hid (fun W (hW : Below V0.heap.size V0 W) => (t5.ext hx6).ext hW)
      have HTB := Lib.hid (fun W (hW : Below V0.heap.size V0 W) => ht6.ext hW)
      have HR := Lib.hid (fun W (hW : Below V0.heap.size V0 W) (y : Nat) (hy : y < l.length) => show
          (b0 < W.heap.size ∧ ∃ r : ByteArray, W.cell? ⟨b0, o0 + y, none⟩ = some (.string r) ∧ r.size = n ∧ ∀ x (hx : x < r.size), (r[x]'hx).toNat = cellB l x y) ∧
          (b1 < W.heap.size ∧ ∃ r : ByteArray, W.cell? ⟨b1, o1 + y, none⟩ = some (.string r) ∧ r.size = n ∧ ∀ x (hx : x < r.size), (r[x]'hx).toNat = cellB (opP l m) x y) ∧
          (b5 < W.heap.size ∧ ∃ r : ByteArray, W.cell? ⟨b5, o5 + y, none⟩ = some (.string r) ∧ r.size = n ∧ ∀ x (hx : x < r.size), (r[x]'hx).toNat = cellB (morP true l m) x y) from by
        have q0 := row_read HOK.out (HS0.out W hW) hy
        have q1 := row_read (opP_ok HOK.out m) (HS1.out W hW) (show y < (opP l m).length by rw [HOF.out.1]; exact hy)
        have q5 := row_read (morP_ok HOK.out true m) (HS5.out W hW) (show y < (morP true l m).length by rw [HEF.out.1]; exact hy)
        rw [← HN.out] at q0
        rw [HOF.out.2.1, ← HN.out] at q1
        rw [HEF.out.2.1, ← HN.out] at q5
        exact ⟨q0, q1, q5⟩)
      clear hx1 hx2 hx3 hx4 hx5 hx6 t1 t3 t5 ht6 hbase B2 B3 B4 B5 B6 HT0
      have HB0 := Lib.hid (Below.refl V0.heap.size V0)
      go_wp2_with (fail)
      go_loopg [102] l.length (fun gg i wr => ∃ y : Nat, i = .int .i64 y ∧ y ≤ l.length ∧ gg = l.length - y ∧ Below V0.heap.size V0 wr)
      case atStart => exact ⟨0, rfl, by omega, by omega, HB0.out⟩
      case round =>
        obtain ⟨y, rfl, hy, hg, hb⟩ := hrel
        have HG := Lib.hid hg
        have HB := Lib.hid hb
        clear hg hb HB0
        by_cases hlt : y < l.length
        · have hlt2 : (y : Int) < (l.length : Int) := by omega
          obtain ⟨⟨hl0, r0, d0, z0, _⟩, ⟨hl1, r1, d1, z1, _⟩, ⟨hl5, r5, d5, z5, _⟩⟩ := HR.out wr HB.out y hlt
          go_upto_region 14 with (fail)
          go_quiet (fail)
          obtain ⟨X, hX⟩ : ∃ X, X = wr.drewN nq := ⟨_, rfl⟩
          have HX := Lib.hid (show Below V0.heap.size V0 X from by rw [hX]; exact bdrewN HB.out nq)
          rw [← hX]
          clear hX hl0 d0 hl1 d1 hl5 d5 HB
          obtain ⟨⟨hl0, r0', d0, z0', _⟩, _, _⟩ := HR.out X HX.out y hlt
          go_wp2_with (fail)
          clear hl0 d0 z0'
          have HLT := Lib.hid hlt
          go_loopg [134] n (fun gg i wr => ∃ x : Nat, i = .int .i64 x ∧ x ≤ n ∧ gg = n - x ∧ Below V0.heap.size V0 wr)
          case atStart => exact ⟨0, rfl, by omega, by omega, HX.out⟩
          case round =>
            obtain ⟨x, rfl, hx, hg2, hb2⟩ := hrel
            have HG2 := Lib.hid hg2
            have HB2 := Lib.hid hb2
            clear hg2 hb2 HX
            by_cases hxn : x < n
            · have HAN := Lib.hid (HARN.out x y (by rw [← HN.out]; exact hxn) HLT.out)
              obtain ⟨cv, hcv⟩ : ∃ cv : Nat, cv = c4 true (wid l) l.length m (cellB l) x y := ⟨_, rfl⟩
              have HCV := Lib.hid (show cellB (morP true l m) x y = cv from by rw [hcv]; exact HEF.out.2.2 x y (by rw [← HN.out]; exact hxn) HLT.out)
              rw [← hcv] at HAN
              obtain ⟨sv, hsv⟩ : ∃ sv : Nat, sv = cellB l x y := ⟨_, rfl⟩
              obtain ⟨tv, htv⟩ : ∃ tv : Nat, tv = cellB (opP l m) x y := ⟨_, rfl⟩
              have hle : tv ≤ sv := by rw [hsv, htv]; exact HOF.out.2.2 x y (by rw [← HN.out]; exact hxn) HLT.out
              obtain ⟨kk, hkk⟩ : ∃ kk : Int, kk = 2 * (m : Int) + 1 := ⟨_, rfl⟩
              obtain ⟨kq, hkq⟩ : ∃ kq : Int, kq = kk * kk := ⟨_, rfl⟩
              have hkb : 1 ≤ kk ∧ kk ≤ 97 := by omega
              have hqb : 1 ≤ kq ∧ kq ≤ 97 * 97 := by
                rw [hkq]
                exact ⟨by have := Int.mul_le_mul hkb.1 hkb.1 (by omega) (by omega); omega, Int.mul_le_mul hkb.2 hkb.2 (by omega) (by omega)⟩
              rw [← hkk, ← hkq] at HAN
              have e1 : 2 * (m : Int) + 1 = kk := hkk.symm
              have e2 : kk * kk = kq := hkq.symm
              have hmod : (48 + g) % 256 = 48 + g := by omega
              unfold arN at HAN
              by_cases hk : m ≤ x ∧ m ≤ y
              · rw [if_pos hk] at HAN
                rw [← hkk] at HAN
                have HCT := Lib.hid (Count_any (wid l) l.length l g base q ((x : Int) - m) ((y : Int) - m) kk kk wr (HTB.out wr HB2.out) (by rw [← HN.out]; omega) (by omega))
                obtain ⟨nn, hnn⟩ : ∃ nn, nn = ctV (wid l) l.length l g ((x : Int) - m) ((y : Int) - m) kk kk := ⟨_, rfl⟩
                rw [← hnn] at HCT HAN
                have hk1 := hk.1
                have hk2 := hk.2
                clear hnn hk hcv hkk hkq
                by_cases hc8 : 48 + g ≤ (cv : Int)
                · have hnq : nn = kq := HAN.out.1 hc8
                  go_upto_region 22 with (go_at_call 15; refine (HCT.out).mono ?_; rintro e w9 ⟨rfl, hx9⟩)
                  have HB9 := Lib.hid (bext HB2.out hx9 HB2.out.size)
                  clear hx9
                  obtain ⟨⟨hl0, r0', d0, z0', b0'⟩, ⟨hl1, r1', d1, z1', b1'⟩, ⟨hl5, r5', d5, z5', b5'⟩⟩ := HR.out w9 HB9.out y HLT.out
                  have hxr0 : x < r0'.size := by omega
                  have hxr1 : x < r1'.size := by omega
                  have hxr5 : x < r5'.size := by omega
                  have hxr0' : (x : Int) < (r0'.size : Int) := by omega
                  have hxr1' : (x : Int) < (r1'.size : Int) := by omega
                  have hxr5' : (x : Int) < (r5'.size : Int) := by omega
                  have v0 := b0' x hxr0
                  have v1 := b1' x hxr1
                  have v5 := b5' x hxr5
                  rw [← hsv] at v0
                  rw [← htv] at v1
                  rw [HCV.out] at v5
                  have hn1 : ¬ sv < tv := by omega
                  have hn2 : ¬ (sv : Int) < (tv : Int) := by omega
                  clear b0' b1' b5' z0' z1' z5' hsv htv
                  go_quiet (fail)
                  go_wp2
                  go_roundg (n - (x + 1))
                  case measure => have := HG2.out; omega
                  case rel => exact ⟨x + 1, by go_num, by omega, rfl, bdrewN HB9.out _⟩
                · have hnq : (nn == kq) = false := by
                    rw [beq_eq_false_iff_ne]; exact fun h => hc8 (HAN.out.2 h)
                  have hc9 : (cv : Int) < 48 + g := by omega
                  go_upto_region 22 with (go_at_call 15; refine (HCT.out).mono ?_; rintro e w9 ⟨rfl, hx9⟩)
                  have HB9 := Lib.hid (bext HB2.out hx9 HB2.out.size)
                  clear hx9
                  obtain ⟨⟨hl0, r0', d0, z0', b0'⟩, ⟨hl1, r1', d1, z1', b1'⟩, ⟨hl5, r5', d5, z5', b5'⟩⟩ := HR.out w9 HB9.out y HLT.out
                  have hxr0 : x < r0'.size := by omega
                  have hxr1 : x < r1'.size := by omega
                  have hxr5 : x < r5'.size := by omega
                  have hxr0' : (x : Int) < (r0'.size : Int) := by omega
                  have hxr1' : (x : Int) < (r1'.size : Int) := by omega
                  have hxr5' : (x : Int) < (r5'.size : Int) := by omega
                  have v0 := b0' x hxr0
                  have v1 := b1' x hxr1
                  have v5 := b5' x hxr5
                  rw [← hsv] at v0
                  rw [← htv] at v1
                  rw [HCV.out] at v5
                  have hn1 : ¬ sv < tv := by omega
                  have hn2 : ¬ (sv : Int) < (tv : Int) := by omega
                  clear b0' b1' b5' z0' z1' z5' hsv htv
                  go_quiet (fail)
                  go_wp2
                  go_roundg (n - (x + 1))
                  case measure => have := HG2.out; omega
                  case rel => exact ⟨x + 1, by go_num, by omega, rfl, bdrewN HB9.out _⟩
              · rw [if_neg hk] at HAN
                have hnq : ((-1 : Int) == kq) = false := by
                  rw [beq_eq_false_iff_ne]; omega
                have hnq2 : (kq == (-1 : Int)) = false := by
                  rw [beq_eq_false_iff_ne]; omega
                have hc9 : (cv : Int) < 48 + g := by
                  by_cases h8 : 48 + g ≤ (cv : Int)
                  · have := HAN.out.1 h8; omega
                  · omega
                clear hcv hkk hkq
                by_cases hk1 : m ≤ x
                · have hk2 : ¬ m ≤ y := fun h => hk ⟨hk1, h⟩
                  clear hk
                  go_upto_region 22 with (fail)
                  obtain ⟨⟨hl0, r0', d0, z0', b0'⟩, ⟨hl1, r1', d1, z1', b1'⟩, ⟨hl5, r5', d5, z5', b5'⟩⟩ := HR.out wr HB2.out y HLT.out
                  have hxr0 : x < r0'.size := by omega
                  have hxr1 : x < r1'.size := by omega
                  have hxr5 : x < r5'.size := by omega
                  have hxr0' : (x : Int) < (r0'.size : Int) := by omega
                  have hxr1' : (x : Int) < (r1'.size : Int) := by omega
                  have hxr5' : (x : Int) < (r5'.size : Int) := by omega
                  have v0 := b0' x hxr0
                  have v1 := b1' x hxr1
                  have v5 := b5' x hxr5
                  rw [← hsv] at v0
                  rw [← htv] at v1
                  rw [HCV.out] at v5
                  have hn1 : ¬ sv < tv := by omega
                  have hn2 : ¬ (sv : Int) < (tv : Int) := by omega
                  clear b0' b1' b5' z0' z1' z5' hsv htv
                  go_quiet (fail)
                  go_wp2
                  go_roundg (n - (x + 1))
                  case measure => have := HG2.out; omega
                  case rel => exact ⟨x + 1, by go_num, by omega, rfl, bdrewN HB2.out _⟩
                · clear hk
                  go_upto_region 22 with (fail)
                  obtain ⟨⟨hl0, r0', d0, z0', b0'⟩, ⟨hl1, r1', d1, z1', b1'⟩, ⟨hl5, r5', d5, z5', b5'⟩⟩ := HR.out wr HB2.out y HLT.out
                  have hxr0 : x < r0'.size := by omega
                  have hxr1 : x < r1'.size := by omega
                  have hxr5 : x < r5'.size := by omega
                  have hxr0' : (x : Int) < (r0'.size : Int) := by omega
                  have hxr1' : (x : Int) < (r1'.size : Int) := by omega
                  have hxr5' : (x : Int) < (r5'.size : Int) := by omega
                  have v0 := b0' x hxr0
                  have v1 := b1' x hxr1
                  have v5 := b5' x hxr5
                  rw [← hsv] at v0
                  rw [← htv] at v1
                  rw [HCV.out] at v5
                  have hn1 : ¬ sv < tv := by omega
                  have hn2 : ¬ (sv : Int) < (tv : Int) := by omega
                  clear b0' b1' b5' z0' z1' z5' hsv htv
                  go_quiet (fail)
                  go_wp2
                  go_roundg (n - (x + 1))
                  case measure => have := HG2.out; omega
                  case rel => exact ⟨x + 1, by go_num, by omega, rfl, bdrewN HB2.out _⟩
            · obtain rfl : x = n := by omega
              go_wp2
              go_roundg (l.length - (y + 1))
              case measure => have := HG.out; have := HLT.out; omega
              case rel => exact ⟨y + 1, by go_num, by have := HLT.out; omega, rfl, HB2.out⟩
        · obtain rfl : y = l.length := by omega
          go_wp2_with (go_at_call 14; refine (awake_any _).mono ?_; rintro e w8 ⟨rfl, hx8⟩)
          refine bodyPost_ret (v := .bool true) (by simp [results, Tryd.results11, go_sem]) rfl ?_
          exact ⟨rfl, bext HB6.out (bext HB.out hx8 HB.out.size) HB6.out.size⟩
    · rw [decide_eq_false hps] at HGD
      rw [decide_eq_true hok] at HRV
      clear h hz hps HO hof1 hof2 hof3 hmo hok
      go_enter Tryd.func11, Tryd.ntmps11
      go_wp2_with (first
        | (go_at_call 37; refine (HO1.out).mono ?_; rintro e w1 ⟨hx1, b1, o1, c1, rfl, i1, j1, t1⟩)
        | (go_at_call 17; refine (HGD.out _ hx1).mono ?_; rintro e w2 ⟨rfl, hx2⟩; have B2 := bext hx1 hx2 hx1.size)
        | (go_at_call 26; refine (HRV.out _ B2).mono ?_; rintro e w3 ⟨rfl, hx3⟩; have B3 := bext B2 hx3 B2.size)
        | (go_at_call 14; refine (awake_any _).mono ?_; rintro e w8 ⟨rfl, hx8⟩; have B8 := bext B3 hx8 B3.size))
      go_ret
      exact ⟨rfl, B8⟩
  · have HO1 := Lib.hid (HO.out.mono (R' := fun e w' => Below w.heap.size w w' ∧ e = .returned (.tuple #[.slice none 0 0, .int .i64 2])) (fun e w' hr => ⟨hr.1, hr.2.elim (fun h => h.2) (fun h => absurd h.1 hmo)⟩))
    by_cases hok : SkOk l
    · rw [decide_eq_true hok] at HRV
      have hkk : k < 0 ∨ 48 < k := by
        by_cases h0 : k < 0
        · exact .inl h0
        · by_cases h1 : 48 < k
          · exact .inr h1
          · exact absurd ⟨hok, by omega, by omega⟩ hmo
      obtain ⟨pb, hpb⟩ : ∃ pb : Bool, pb = decide (PsOk l g) := ⟨_, rfl⟩
      rw [← hpb] at HGD
      clear h hz hmo hok HO hpb
      rcases hkk with h0 | h1
      · have h0' : ¬ 0 ≤ k := by omega
        cases pb
        all_goals
          go_enter Tryd.func11, Tryd.ntmps11
          go_wp2_with (first
            | (go_at_call 37; refine (HO1.out).mono ?_; rintro e w1 ⟨hx1, rfl⟩)
            | (go_at_call 17; refine (HGD.out _ hx1).mono ?_; rintro e w2 ⟨rfl, hx2⟩; have B2 := bext hx1 hx2 hx1.size)
            | (go_at_call 26; refine (HRV.out _ B2).mono ?_; rintro e w3 ⟨rfl, hx3⟩; have B3 := bext B2 hx3 B2.size)
            | (go_at_call 14; refine (awake_any _).mono ?_; rintro e w8 ⟨rfl, hx8⟩; have B8 := bext B3 hx8 B3.size))
          go_ret
          exact ⟨rfl, B8⟩
      · have h0' : 0 ≤ k := by omega
        have HD := Lib.hid (show (!decide (k ≤ 48)) = true from by simp; omega)
        cases pb
        all_goals
          go_enter Tryd.func11, Tryd.ntmps11
          go_wp2_with (first
            | (go_at_call 37; refine (HO1.out).mono ?_; rintro e w1 ⟨hx1, rfl⟩)
            | (go_at_call 17; refine (HGD.out _ hx1).mono ?_; rintro e w2 ⟨rfl, hx2⟩; have B2 := bext hx1 hx2 hx1.size)
            | (go_at_call 26; refine (HRV.out _ B2).mono ?_; rintro e w3 ⟨rfl, hx3⟩; have B3 := bext B2 hx3 B2.size)
            | (go_at_call 14; refine (awake_any _).mono ?_; rintro e w8 ⟨rfl, hx8⟩; have B8 := bext B3 hx8 B3.size))
          refine bodyPost_ret (v := .bool (!decide (k ≤ 48))) (by simp [results, Tryd.results11, go_sem]) rfl ?_
          exact ⟨by rw [HD.out], B8⟩
    · rw [decide_eq_false hok] at HRV
      have hps : ¬ PsOk l g := fun h => hok h.1
      rw [decide_eq_false hps] at HGD
      clear h hz hmo hok HO hps
      go_enter Tryd.func11, Tryd.ntmps11
      go_wp2_with (first
        | (go_at_call 37; refine (HO1.out).mono ?_; rintro e w1 ⟨hx1, rfl⟩)
        | (go_at_call 17; refine (HGD.out _ hx1).mono ?_; rintro e w2 ⟨rfl, hx2⟩; have B2 := bext hx1 hx2 hx1.size)
        | (go_at_call 26; refine (HRV.out _ B2).mono ?_; rintro e w3 ⟨rfl, hx3⟩; have B3 := bext B2 hx3 B2.size)
        | (go_at_call 14; refine (awake_any _).mono ?_; rintro e w8 ⟨rfl, hx8⟩; have B8 := bext B3 hx8 B3.size))
      go_ret
      exact ⟨rfl, B8⟩
end Go.Proofs.YtdkoomcgnaokgaaDoor
