/- SkinAround walked. Conditions: the arguments read as lists. -/
import Derived.Test.YtmgofdgbenfjmaaDoorAr1
import Derived.Test.YtmgofdgbenfjmaaDoorSf1
import Derived.Test.YtmgofdgbenfjmaaDoorGok
import Derived.Test.YtmgofdgbenfjmaaDoorAw1
import Derived.Test.YtmgofdgbenfjmaaDoorTn1
namespace Go.Proofs.YtmgofdgbenfjmaaDoor
open Go.RowKit

/-- the area of a greatest rectangle, 0 where no cell is usable -/
def ArOf (l : List ByteArray) (g v : Int) : Prop := (v = 0 ∧ ∀ s, ¬ UsR (usb l g) false s) ∨ ∃ m : Rn, BestR (usb l g) false m ∧ v = ((m.a * m.b : Nat) : Int)
theorem ArOf.same {l l' : List ByteArray} {g v v' : Int} (h : UsT g l l') (h' : UsT g l' l) (k : ArOf l g v) (k' : ArOf l' g v') : v' = v := by
  rcases k with ⟨rfl, k⟩ | ⟨m, hm, rfl⟩
  · rcases k' with ⟨rfl, _⟩ | ⟨m, hm, rfl⟩
    · rfl
    · obtain ⟨r, h1, _⟩ := h' m hm.1
      exact absurd h1 (k r)
  · rcases k' with ⟨rfl, k⟩ | ⟨m', hm', rfl⟩
    · obtain ⟨r, h1, _⟩ := h m hm.1
      exact absurd h1 (k r)
    · rw [area_same h h' hm hm']
theorem s2_ok {w w' : World} {ok : Prop} {er : Int} {s : List ByteArray} {e : Ending} (ho : ok) (h : RetS2 w ok er s e w') : Below w.heap.size w w' ∧ ∃ A cap, e = .returned (.tuple #[.slice A s.length cap, .int .i64 0]) ∧ s.length ≤ cap ∧ cap ≤ 9223372036854775807 ∧ TSl w' A s := by
  obtain ⟨hb, ⟨hn, he⟩ | ⟨_, k⟩⟩ := h
  · exact absurd ho hn
  · exact ⟨hb, k⟩
theorem s2_z {w w' : World} {ok : Prop} [Decidable ok] {s : List ByteArray} {e : Ending} (h : RetS2 w ok 2 s e w') : Below w.heap.size w w' ∧ ∃ A n cap, e = .returned (.tuple #[.slice A n cap, .int .i64 (if ok then 0 else 2)]) := by
  obtain ⟨hb, ⟨hn, he⟩ | ⟨ho, A, cap, he, _⟩⟩ := h
  · exact ⟨hb, none, 0, 0, by rw [if_neg hn]; exact he⟩
  · exact ⟨hb, A, _, cap, by rw [if_pos ho]; exact he⟩
theorem lg_ok {w w' : World} {l : List ByteArray} {g : Int} {e : Ending} (hp : PsOk l g) (h : RetLg w l g false e w') : Below w.heap.size w w' ∧ ∃ x y a b z v : Int, e = .returned (.tuple #[.agg #[.int .i64 x, .int .i64 y, .int .i64 a, .int .i64 b], .int .i64 z]) ∧ a * b = v ∧ 0 ≤ v ∧ v ≤ 2304 ∧ ArOf l g v := by
  obtain ⟨hb, ⟨hn, _⟩ | ⟨_, hno, he⟩ | ⟨_, m, hm, he⟩⟩ := h
  · exact absurd hp hn
  · exact ⟨hb, 0, 0, 0, 0, 7, 0, he, by decide, by decide, by decide, .inl ⟨rfl, hno⟩⟩
  · have hi := usR_in hp.1 hp.2.1 hm.1
    have h1 := hp.1.2.1
    have h2 := hp.1.2.2.2.1
    have h3 : m.a * m.b ≤ 48 * 48 := Nat.mul_le_mul (by omega) (by omega)
    exact ⟨hb, _, _, _, _, _, _, he, (Int.natCast_mul _ _).symm, by omega, by omega, .inr ⟨m, hm, rfl⟩⟩
set_option maxRecDepth 100000 in
set_option maxHeartbeats 8000000 in
theorem law_around (A : Option Addr) (cap : Nat) (l : List ByteArray) (g k : Int) (w : World) (hc : l.length ≤ cap) (hcm : cap ≤ 9223372036854775807) (h : TSl w A l) (hz : TSz l) :
    Calls Tryd.prog 11 #[.slice A l.length cap, .int .i64 g, .int .i64 k] w fun e w' => e = .returned (.bool true) ∧ Below w.heap.size w w' := by
  have HX := Lib.hid (fun W (hW : Below w.heap.size w W) => h.ext hW)
  have HT := Lib.hid (turn_any A cap l k w hc hcm h hz)
  have HGD := Lib.hid (fun W (hW : Below w.heap.size w W) => good_any A cap l g W hc hcm (h.ext hW) hz)
  by_cases hps : PsOk l g
  · have hok := hps.1
    have hg1 := hps.2.1
    obtain ⟨hq1, hq3⟩ := qn_eq k
    have hqb := qn_back k
    obtain ⟨q, hq⟩ : ∃ q, q = qn k := ⟨_, rfl⟩
    rw [← hq] at hq1 hq3 hqb HT
    obtain ⟨t, ht⟩ : ∃ t, t = turnK l q := ⟨_, rfl⟩
    obtain ⟨m, hm⟩ : ∃ m, m = mirP t := ⟨_, rfl⟩
    have tok : SkOk t := by rw [ht]; exact turnK_ok hok q
    have mok : SkOk m := by rw [hm]; exact mirP_ok tok
    have mps : PsOk m g := ⟨mok, hps.2⟩
    have tsz : TSz t := by rw [ht]; exact turnK_sz hok hz q
    have msz : TSz m := by rw [hm]; exact mirP_sz tok
    have hmm : mirP m = t := by rw [hm]; exact mir_mir tok
    have htt : turnK t (qn (IntKind.i64.wrap (4 - (q : Int)))) = l := by rw [hqb, ht]; exact turn_back hok hq3
    have pe : ptN g m = ptN g l := by rw [hm, ht]; exact ptN_stay hg1 hok q
    have fe : fwN g m = fwN g l := by rw [hm, ht]; exact fwN_stay hg1 hok q
    have te : tenK m = tenK l := by rw [hm, ht]; exact tenK_stay hok q
    have u1 : UsT g l m := by rw [hm, ht]; exact ust_there hg1 hok q
    have u2 : UsT g m l := by rw [hm, ht]; exact ust_back hg1 hok hq3
    have tl48 := tok.2.1
    have ll48 := hok.2.1
    rw [← ht] at HT
    rw [decide_eq_true hps] at HGD
    have HT1 := Lib.hid (HT.out.mono (R' := _) fun e w' hr => s2_ok hok hr)
    have HM1 := Lib.hid (fun A c W (h1 : t.length ≤ c) (h2 : c ≤ 9223372036854775807) (h : TSl W A t) => (mirror_any A c t W h1 h2 h tsz).mono (R' := _) fun e w' hr => s2_ok tok hr)
    rw [← hm] at HM1
    have HRV := Lib.hid (fun A c W (h1 : m.length ≤ c) (h2 : c ≤ 9223372036854775807) (h : TSl W A m) => rvalid_any A c m W h1 h2 h msz)
    rw [decide_eq_true mok] at HRV
    have HM2 := Lib.hid (fun A c W (h1 : m.length ≤ c) (h2 : c ≤ 9223372036854775807) (h : TSl W A m) => (mirror_any A c m W h1 h2 h msz).mono (R' := _) fun e w' hr => s2_ok mok hr)
    rw [hmm] at HM2
    obtain ⟨k2, hk2⟩ : ∃ k2, k2 = IntKind.i64.wrap (4 - (q : Int)) := ⟨_, rfl⟩
    rw [← hk2] at htt
    have hk2' : IntKind.i64.wrap (4 - (q : Int)) = k2 := hk2.symm
    have HT2 := Lib.hid (fun A c W (h1 : t.length ≤ c) (h2 : c ≤ 9223372036854775807) (h : TSl W A t) => (turn_any A c t k2 W h1 h2 h tsz).mono (R' := _) fun e w' hr => s2_ok tok hr)
    rw [htt] at HT2
    have HE1 := Lib.hid (fun A' B' c c' W (hA : TSl W A' t) (hB : TSl W B' t) => equal_strs A' B' c c' t W (by omega) hA hB)
    have HE2 := Lib.hid (fun A' B' c c' W (hA : TSl W A' l) (hB : TSl W B' l) => equal_strs A' B' c c' l W (by omega) hA hB)
    have HG1 := Lib.hid (fun W (hW : TSl W A l) => (grades_any A cap l W hc hcm hW hz).mono (R' := fun e w' => Below W.heap.size W w' ∧ ∃ g, e = .returned (.tuple #[.slice (some ⟨g, 0, none⟩) 10 10, .int .i64 0]) ∧ ISl w' (some ⟨g, 0, none⟩) (tenK l)) fun e w' hr => by
      obtain ⟨hb, ⟨hn, _⟩ | ⟨_, g, he, _, T, ho⟩⟩ := hr
      · exact absurd hok hn
      · exact ⟨hb, g, he, tenK_isl ho⟩)
    have HG2 := Lib.hid (fun A c W (h1 : m.length ≤ c) (h2 : c ≤ 9223372036854775807) (hW : TSl W A m) => (grades_any A c m W h1 h2 hW msz).mono (R' := fun e w' => Below W.heap.size W w' ∧ ∃ g, e = .returned (.tuple #[.slice (some ⟨g, 0, none⟩) 10 10, .int .i64 0]) ∧ ISl w' (some ⟨g, 0, none⟩) (tenK l)) fun e w' hr => by
      obtain ⟨hb, ⟨hn, _⟩ | ⟨_, g, he, _, T, ho⟩⟩ := hr
      · exact absurd mok hn
      · exact ⟨hb, g, he, te ▸ tenK_isl ho⟩)
    obtain ⟨P, hP⟩ : ∃ P, P = ptN g l := ⟨_, rfl⟩
    have hP1 : (partsL (usb l g) (wid l) l.length 3000).length = P := hP.symm
    have hP2 : (partsL (usb m g) (wid m) m.length 3000).length = P := by rw [hP, ← pe]; rfl
    have HP1 := Lib.hid (fun W (hW : TSl W A l) => (parts_any A cap l g W hc hcm hW hz).mono (R' := fun e w' => Below W.heap.size W w' ∧ ∃ A c, e = .returned (.tuple #[.slice A P c, .int .i64 0])) fun e w' hr => by
      obtain ⟨hb, ⟨hn, _⟩ | ⟨_, A', c', he, _⟩⟩ := hr
      · exact absurd hps hn
      · rw [hP1] at he; exact ⟨hb, A', c', he⟩)
    have HP2 := Lib.hid (fun A c W (h1 : m.length ≤ c) (h2 : c ≤ 9223372036854775807) (hW : TSl W A m) => (parts_any A c m g W h1 h2 hW msz).mono (R' := fun e w' => Below W.heap.size W w' ∧ ∃ A c, e = .returned (.tuple #[.slice A P c, .int .i64 0])) fun e w' hr => by
      obtain ⟨hb, ⟨hn, _⟩ | ⟨_, A', c', he, _⟩⟩ := hr
      · exact absurd mps hn
      · rw [hP2] at he; exact ⟨hb, A', c', he⟩)
    have HL1 := Lib.hid (fun W (hW : TSl W A l) => (largest_any A cap l g W hc hcm hW hz).mono (R' := _) fun e w' hr => lg_ok hps hr)
    have HL2 := Lib.hid (fun A c W (h1 : m.length ≤ c) (h2 : c ≤ 9223372036854775807) (hW : TSl W A m) => (largest_any A c m g W h1 h2 hW msz).mono (R' := _) fun e w' hr => lg_ok mps hr)
    obtain ⟨N, hN⟩ : ∃ N, N = fwN g l := ⟨_, rfl⟩
    have hN1 : (splB (us l g) (wid l) l.length 3000).length = N := hN.symm
    have hN2 : (splB (us m g) (wid m) m.length 3000).length = N := by rw [hN, ← fe]; rfl
    have HF1 := Lib.hid (fun W (hW : TSl W A l) => (sfewest_any A cap l g W hc hcm hW hz).mono (R' := fun e w' => Below W.heap.size W w' ∧ e = .returned (.tuple #[.int .i64 N, .int .i64 0])) fun e w' hr => by
      obtain ⟨hb, ⟨hn, _⟩ | ⟨_, he⟩⟩ := hr
      · exact absurd hps hn
      · rw [hN1] at he; exact ⟨hb, he⟩)
    have HF2 := Lib.hid (fun A c W (h1 : m.length ≤ c) (h2 : c ≤ 9223372036854775807) (hW : TSl W A m) => (sfewest_any A c m g W h1 h2 hW msz).mono (R' := fun e w' => Below W.heap.size W w' ∧ e = .returned (.tuple #[.int .i64 N, .int .i64 0])) fun e w' hr => by
      obtain ⟨hb, ⟨hn, _⟩ | ⟨_, he⟩⟩ := hr
      · exact absurd mps hn
      · rw [hN2] at he; exact ⟨hb, he⟩)
    have HE3 := Lib.hid (fun A' B' W (hA : ISl W A' (tenK l)) (hB : ISl W B' (tenK l)) => equal_same A' B' 10 10 (tenK l) W (by rw [tenK_len]; decide) hA hB)
    rw [tenK_len] at HE3
    have HAR := Lib.hid (fun v v' => ArOf.same (v := v) (v' := v') u1 u2)
    have HTC := Lib.hid (And.intro tl48 ll48)
    clear hk2 htt hqb hq ht hm hmm pe fe te u1 u2 tok mok mps tsz msz hP hP1 hP2 hN hN1 hN2 hok hps hg1 h hz HT tl48 ll48
    go_enter Tryd.func11, Tryd.ntmps11
    go_upto_region 16 with (first
      | (go_at_call_of 37 (Value.int .i64 k); refine (HT1.out).mono ?_; rintro e w1 ⟨hx1, A1, c1, rfl, k1, k2', ht1⟩; have B := Lib.hid hx1; have TT := Lib.hid ht1; clear hx1 ht1)
      | (go_at_call 21; refine (HGD.out _ B.out).mono ?_; rintro e w2 ⟨rfl, hx2⟩; have B := Lib.hid (bext B.out hx2 B.out.size); have TT := Lib.hid (TT.out.ext hx2); clear hx2)
      | (go_at_call_of 39 (Value.slice A1 t.length c1); refine (HM1.out A1 c1 _ k1 k2' TT.out).mono ?_; rintro e w3 ⟨hx3, A3, c3, rfl, k3, k4, ht3⟩; have B := Lib.hid (bext B.out hx3 B.out.size); have TT := Lib.hid (TT.out.ext hx3); have TM := Lib.hid ht3; clear hx3 ht3)
      | (go_at_call 38; refine (HRV.out A3 c3 _ k3 k4 TM.out).mono ?_; rintro e w4 ⟨rfl, hx4⟩; have B := Lib.hid (bext B.out hx4 B.out.size); have TT := Lib.hid (TT.out.ext hx4); have TM := Lib.hid (TM.out.ext hx4); clear hx4)
      | (go_at_call_of 39 (Value.slice A3 m.length c3); refine (HM2.out A3 c3 _ k3 k4 TM.out).mono ?_; rintro e w5 ⟨hx5, A5, c5, rfl, k5, k6, ht5⟩; have B := Lib.hid (bext B.out hx5 B.out.size); have TT := Lib.hid (TT.out.ext hx5); have TM := Lib.hid (TM.out.ext hx5); have TN := Lib.hid ht5; clear hx5 ht5)
      | (go_at_call_of 37 (Value.int .i64 k2); refine (HT2.out A5 c5 _ k5 k6 TN.out).mono ?_; rintro e w6 ⟨hx6, A6, c6, rfl, k7, k8, ht6⟩; have B := Lib.hid (bext B.out hx6 B.out.size); have TT := Lib.hid (TT.out.ext hx6); have TM := Lib.hid (TM.out.ext hx6); have TN := Lib.hid (TN.out.ext hx6); have TU := Lib.hid ht6; clear hx6 ht6)
      | (go_at_call_of 29 (Value.slice A5 t.length c5); refine (HE1.out _ _ _ _ _ TN.out TT.out).mono ?_; rintro e w7 ⟨rfl, hx7⟩; have B := Lib.hid (bext B.out hx7 B.out.size); have TM := Lib.hid (TM.out.ext hx7); have TU := Lib.hid (TU.out.ext hx7); clear hx7)
      | (go_at_call_of 29 (Value.slice A6 l.length c6); refine (HE2.out _ _ _ _ _ TU.out (HX.out _ B.out)).mono ?_; rintro e w8 ⟨rfl, hx8⟩; have B := Lib.hid (bext B.out hx8 B.out.size); have TM := Lib.hid (TM.out.ext hx8); clear hx8)
      | (go_at_call_of 40 (Value.slice A l.length cap); refine (HG1.out _ (HX.out _ B.out)).mono ?_; rintro e w9 ⟨hx9, g9, rfl, hi9⟩; have B := Lib.hid (bext B.out hx9 B.out.size); have TM := Lib.hid (TM.out.ext hx9); have G1 := Lib.hid hi9; clear hx9 hi9)
      | (go_at_call_of 40 (Value.slice A3 m.length c3); refine (HG2.out A3 c3 _ k3 k4 TM.out).mono ?_; rintro e w10 ⟨hx10, g10, rfl, hi10⟩; have B := Lib.hid (bext B.out hx10 B.out.size); have TM := Lib.hid (TM.out.ext hx10); have G1 := Lib.hid (G1.out.ext hx10); have G2 := Lib.hid hi10; clear hx10 hi10)
      | (go_at_call_of 12 (Value.slice A l.length cap); refine (HP1.out _ (HX.out _ B.out)).mono ?_; rintro e w11 ⟨hx11, A11, c11, rfl⟩; have B := Lib.hid (bext B.out hx11 B.out.size); have TM := Lib.hid (TM.out.ext hx11); have G1 := Lib.hid (G1.out.ext hx11); have G2 := Lib.hid (G2.out.ext hx11); clear hx11)
      | (go_at_call_of 12 (Value.slice A3 m.length c3); refine (HP2.out A3 c3 _ k3 k4 TM.out).mono ?_; rintro e w12 ⟨hx12, A12, c12, rfl⟩; have B := Lib.hid (bext B.out hx12 B.out.size); have TM := Lib.hid (TM.out.ext hx12); have G1 := Lib.hid (G1.out.ext hx12); have G2 := Lib.hid (G2.out.ext hx12); clear hx12)
      | (go_at_call_of 18 (Value.slice A l.length cap); refine (HL1.out _ (HX.out _ B.out)).mono ?_; rintro e w13 ⟨hx13, xa, ya, aa, ba, za, va, rfl, hab, hv0, hv1, har⟩; have B := Lib.hid (bext B.out hx13 B.out.size); have TM := Lib.hid (TM.out.ext hx13); have G1 := Lib.hid (G1.out.ext hx13); have G2 := Lib.hid (G2.out.ext hx13); have HA1 := Lib.hid har; clear hx13 har))
    have HK1 := Lib.hid (Bk.new 31 w13 #[.int .i64 xa, .int .i64 ya, .int .i64 aa, .int .i64 ba])
    have HX1 := Lib.hid (ext_alloc w13 (.cells #[.int .i64 xa, .int .i64 ya, .int .i64 aa, .int .i64 ba] 31))
    obtain ⟨V1, hV1⟩ : ∃ V1, V1 = w13.alloc (.cells #[.int .i64 xa, .int .i64 ya, .int .i64 aa, .int .i64 ba] 31) := ⟨_, rfl⟩
    obtain ⟨r1, hr1⟩ : ∃ r1, r1 = w13.heap.size := ⟨_, rfl⟩
    rw [← hV1] at HK1 HX1 ⊢
    rw [← hr1] at HK1 ⊢
    have B := Lib.hid (bext B.out HX1.out B.out.size)
    have TM := Lib.hid (TM.out.ext HX1.out)
    have G1 := Lib.hid (G1.out.ext HX1.out)
    have G2 := Lib.hid (G2.out.ext HX1.out)
    clear hV1 hr1 HX1
    go_upto_region 17 with (first
      | (go_at_call_of 18 (Value.slice A3 m.length c3); refine (HL2.out A3 c3 _ k3 k4 TM.out).mono ?_; rintro e w14 ⟨hx14, xb, yb, ab, bb, zb, vb, rfl, hab2, _, _, har⟩; have B := Lib.hid (bext B.out hx14 B.out.size); have TM := Lib.hid (TM.out.ext hx14); have G1 := Lib.hid (G1.out.ext hx14); have G2 := Lib.hid (G2.out.ext hx14); have HK1 := Lib.hid (HK1.out.ext hx14); have hvv := HAR.out _ _ HA1.out har; rw [hvv] at hab2; clear hx14 har hvv))
    have HK2 := Lib.hid (Bk.new 31 w14 #[.int .i64 xb, .int .i64 yb, .int .i64 ab, .int .i64 bb])
    have HX2 := Lib.hid (ext_alloc w14 (.cells #[.int .i64 xb, .int .i64 yb, .int .i64 ab, .int .i64 bb] 31))
    obtain ⟨V2, hV2⟩ : ∃ V2, V2 = w14.alloc (.cells #[.int .i64 xb, .int .i64 yb, .int .i64 ab, .int .i64 bb] 31) := ⟨_, rfl⟩
    obtain ⟨r2, hr2⟩ : ∃ r2, r2 = w14.heap.size := ⟨_, rfl⟩
    rw [← hV2] at HK2 HX2 ⊢
    rw [← hr2] at HK2 ⊢
    have HK1 := Lib.hid (HK1.out.ext HX2.out)
    have B := Lib.hid (bext B.out HX2.out B.out.size)
    have TM := Lib.hid (TM.out.ext HX2.out)
    have G1 := Lib.hid (G1.out.ext HX2.out)
    have G2 := Lib.hid (G2.out.ext HX2.out)
    clear hV2 hr2 HX2
    go_wp2_with (first
      | (go_at_call_of 30 (Value.slice A l.length cap); refine (HF1.out _ (HX.out _ B.out)).mono ?_; rintro e w15 ⟨hx15, rfl⟩; have HK1 := Lib.hid (HK1.out.ext hx15); have HK2 := Lib.hid (HK2.out.ext hx15); have B := Lib.hid (bext B.out hx15 B.out.size); have TM := Lib.hid (TM.out.ext hx15); have G1 := Lib.hid (G1.out.ext hx15); have G2 := Lib.hid (G2.out.ext hx15); clear hx15)
      | (go_at_call_of 30 (Value.slice A3 m.length c3); refine (HF2.out A3 c3 _ k3 k4 TM.out).mono ?_; rintro e w16 ⟨hx16, rfl⟩; have HK1 := Lib.hid (HK1.out.ext hx16); have HK2 := Lib.hid (HK2.out.ext hx16); have B := Lib.hid (bext B.out hx16 B.out.size); have G1 := Lib.hid (G1.out.ext hx16); have G2 := Lib.hid (G2.out.ext hx16); clear hx16)
      | (go_at_call 41; refine (HE3.out _ _ _ G1.out G2.out).mono ?_; rintro e w17 ⟨rfl, hx17⟩; obtain ⟨f1, f2, f3⟩ := (HK1.out.ext hx17).facts; obtain ⟨f4, f5, f6⟩ := (HK2.out.ext hx17).facts; have B := Lib.hid (bext B.out hx17 B.out.size); clear hx17)
      | (go_at_call 14; refine (awake_any _).mono ?_; rintro e w18 ⟨rfl, hx18⟩; have B := Lib.hid (bext B.out hx18 B.out.size); clear hx18))
    go_ret
    exact ⟨rfl, B.out⟩
  · rw [decide_eq_false hps] at HGD
    have HRV := Lib.hid (fun W (hW : Below w.heap.size w W) => rvalid_any A cap l W hc hcm (h.ext hW) hz)
    have HT1 := Lib.hid (HT.out.mono (R' := fun e w' => Below w.heap.size w w' ∧ ∃ A n cap z, e = .returned (.tuple #[.slice A n cap, .int .i64 z]) ∧ ((z = 0 ∧ SkOk l) ∨ (z = 2 ∧ ¬ SkOk l))) fun e w' hr => by
      obtain ⟨hb, ⟨hn, he⟩ | ⟨ho, A, cap, he, _⟩⟩ := hr
      · exact ⟨hb, none, 0, 0, 2, he, .inr ⟨rfl, hn⟩⟩
      · exact ⟨hb, A, _, cap, 0, he, .inl ⟨rfl, ho⟩⟩)
    by_cases hok : SkOk l
    · rw [decide_eq_true hok] at HRV
      have HT1 := Lib.hid (HT1.out.mono (R' := fun e w' => Below w.heap.size w w' ∧ ∃ A n cap, e = .returned (.tuple #[.slice A n cap, .int .i64 0])) fun e w' hr => by
        obtain ⟨hb, A, n, cap, z, he, ⟨rfl, _⟩ | ⟨_, hn⟩⟩ := hr
        · exact ⟨hb, A, n, cap, he⟩
        · exact absurd hok hn)
      clear hok hps h hz HT HX
      go_enter Tryd.func11, Tryd.ntmps11
      go_wp2_with (first
        | (go_at_call 37; refine (HT1.out).mono ?_; rintro e w1 ⟨hx1, A1, n1, c1, rfl⟩)
        | (go_at_call 21; refine (HGD.out _ hx1).mono ?_; rintro e w2 ⟨rfl, hx2⟩; have B2 := bext hx1 hx2 hx1.size)
        | (go_at_call 38; refine (HRV.out _ B2).mono ?_; rintro e w3 ⟨rfl, hx3⟩; have B3 := bext B2 hx3 B2.size)
        | (go_at_call 14; refine (awake_any _).mono ?_; rintro e w4 ⟨rfl, hx4⟩; have B4 := bext B3 hx4 B3.size))
      go_ret
      exact ⟨rfl, B4⟩
    · rw [decide_eq_false hok] at HRV
      have HT1 := Lib.hid (HT1.out.mono (R' := fun e w' => Below w.heap.size w w' ∧ ∃ A n cap, e = .returned (.tuple #[.slice A n cap, .int .i64 2])) fun e w' hr => by
        obtain ⟨hb, A, n, cap, z, he, ⟨_, ho⟩ | ⟨rfl, _⟩⟩ := hr
        · exact absurd ho hok
        · exact ⟨hb, A, n, cap, he⟩)
      clear hok hps h hz HT HX
      go_enter Tryd.func11, Tryd.ntmps11
      go_wp2_with (first
        | (go_at_call 37; refine (HT1.out).mono ?_; rintro e w1 ⟨hx1, A1, n1, c1, rfl⟩)
        | (go_at_call 21; refine (HGD.out _ hx1).mono ?_; rintro e w2 ⟨rfl, hx2⟩; have B2 := bext hx1 hx2 hx1.size)
        | (go_at_call 38; refine (HRV.out _ B2).mono ?_; rintro e w3 ⟨rfl, hx3⟩; have B3 := bext B2 hx3 B2.size)
        | (go_at_call 14; refine (awake_any _).mono ?_; rintro e w4 ⟨rfl, hx4⟩; have B4 := bext B3 hx4 B3.size))
      go_ret
      exact ⟨rfl, B4⟩
end Go.Proofs.YtmgofdgbenfjmaaDoor
