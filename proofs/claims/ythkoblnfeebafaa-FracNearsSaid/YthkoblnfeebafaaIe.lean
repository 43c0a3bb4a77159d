/- Walk of the reference's Near. Conditions: the arguments are within their kinds. -/
import Derived.Test.YthkoblnfeebafaaId
import Derived.Test.YthkoblnfeebafaaIb
namespace Go.Proofs.Ythkoblnfeebafaa
open Go.RowKit

theorem sgn3 (x : Int) : (x < 0 ∧ x.sign = -1) ∨ (x = 0 ∧ x.sign = 0) ∨ (0 < x ∧ x.sign = 1) := by
  rcases Int.lt_trichotomy x 0 with h | h | h
  · exact .inl ⟨h, Int.sign_eq_neg_one_of_neg h⟩
  · exact .inr (.inl ⟨h, by rw [h]; rfl⟩)
  · exact .inr (.inr ⟨h, Int.sign_eq_one_of_pos h⟩)
theorem sign_mul_pos {k x : Int} (hk : 1 ≤ k) : (k * x).sign = x.sign := by
  rw [Int.sign_mul, Int.sign_eq_one_of_pos (show 0 < k by omega), Int.one_mul]

/-- the distances to the two ends, compared -/
theorem near_contracts {n D a b c e : Int} (v1 : 1 ≤ D) (v2 : D ≤ 1000000000) (v3 : -1000000000 ≤ n) (v4 : n ≤ 1000000000) (b1 : 1 ≤ b) (b2 : b ≤ 1000000000) (e1 : 1 ≤ e) (e2 : e ≤ 1000000000) (a1 : -1000000000 ≤ a) (a2 : a ≤ 1000000000) (c1 : -1000000000 ≤ c) (c2 : c ≤ 1000000000)
    (x1 : 0 ≤ n * b - a * D) (x2 : n * b - a * D ≤ 1000000000) (y1 : 0 ≤ c * D - n * e) (y2 : c * D - n * e ≤ 1000000000) :
    (∀ W, Calls Try.prog 34 #[frv n D] W (RetQ W (rat n D))) ∧ (∀ W, Calls Try.prog 34 #[frv a b] W (RetQ W (rat a b))) ∧ (∀ W, Calls Try.prog 34 #[frv c e] W (RetQ W (rat c e))) ∧
    (∀ vx vy W, QAt W vx (rat c e) → QAt W vy (rat n D) → Calls Try.prog 33 #[vx, vy] W (RetQ W (rat (c * D - n * e) (e * D)))) ∧
    (∀ vx vy W, QAt W vx (rat n D) → QAt W vy (rat a b) → Calls Try.prog 33 #[vx, vy] W (RetQ W (rat (n * b - a * D) (D * b)))) ∧
    (∀ vx vy W, QAt W vx (rat (c * D - n * e) (e * D)) → QAt W vy (rat (n * b - a * D) (D * b)) → Calls Try.prog 39 #[vx, vy] W fun x w' => x = .returned (.int .i64 ((c * D - n * e) * b - (n * b - a * D) * e).sign) ∧ Below W.heap.size W w') := by
  have z1 : QOk (rat n D) := qok_rat (by omega) v1 (by omega)
  have z2 : QOk (rat a b) := qok_rat (by omega) b1 (by omega)
  have z3 : QOk (rat c e) := qok_rat (by omega) e1 (by omega)
  obtain ⟨p1, p2⟩ := mul_pos_bd e1 e2 v1 v2
  obtain ⟨p3, p4⟩ := mul_pos_bd v1 v2 b1 b2
  refine ⟨fun W => of_any n D W (by omega) (by omega) (by omega) (by omega) (by omega), fun W => of_any a b W (by omega) (by omega) (by omega) (by omega) (by omega), fun W => of_any c e W (by omega) (by omega) (by omega) (by omega) (by omega), fun vx vy W x y => ?_, fun vx vy W x y => ?_, fun vx vy W x y => ?_⟩
  · have h := less_q vx vy _ _ W x y z3 z1
    rwa [sub_eq2 e1 v1] at h
  · have h := less_q vx vy _ _ W x y z1 z2
    rwa [sub_eq2 v1 b1] at h
  · generalize hX : n * b - a * D = X at *
    generalize hY : c * D - n * e = Y at *
    have h := order_q vx vy _ _ W x y (qok_rat (by omega) p1 (by omega)) (qok_rat (by omega) p3 (by omega))
    have h5 : (rat Y (e * D) - rat X (D * b)).num.sign = (Y * b - X * e).sign := by
      rw [sub_eq2 p1 p3, sign_rat (Int.mul_pos (by omega) (by omega))]
      have e5 : Y * (D * b) - X * (e * D) = D * (Y * b - X * e) := by grind
      rw [e5, sign_mul_pos v1]
    rwa [h5] at h

/-- what Near knows of its own blocks -/
def NR (w : World) (g g' : Nat) (n D a b c e : Int) (wx : World) : Prop :=
  Below w.heap.size w wx ∧ Ce 23 wx w.heap.size (.int .i64 n) (.int .i64 D) ∧ Ce 23 wx (w.heap.size + 1) (.int .i64 0) (.int .i64 0) ∧ Ce 23 wx g (.int .i64 a) (.int .i64 b) ∧ Ce 23 wx g' (.int .i64 c) (.int .i64 e)
theorem NR.call {w : World} {g g' : Nat} {n D a b c e : Int} {wx wy : World} (h : NR w g g' n D a b c e wx) (hb : Below wx.heap.size wx wy) : NR w g g' n D a b c e wy := by
  obtain ⟨h1, h2, h3, h4, h5⟩ := h
  exact ⟨bext h1 hb (Nat.le_of_lt h2.facts.2.2), h2.ext hb, h3.ext hb, h4.ext hb, h5.ext hb⟩
theorem NR.cells {w : World} {g g' : Nat} {n D a b c e : Int} {wx : World} (h : NR w g g' n D a b c e wx) : NR w g g' n D a b c e wx ∧ (wx.cell? ⟨w.heap.size, 0, none⟩ = some (.int .i64 n) ∧ wx.cell? ⟨w.heap.size, 1, none⟩ = some (.int .i64 D)) ∧
    (wx.cell? ⟨g, 0, none⟩ = some (.int .i64 a) ∧ wx.cell? ⟨g, 1, none⟩ = some (.int .i64 b)) ∧ (wx.cell? ⟨g', 0, none⟩ = some (.int .i64 c) ∧ wx.cell? ⟨g', 1, none⟩ = some (.int .i64 e)) :=
  ⟨h, ⟨h.2.1.facts.1 0, h.2.1.facts.1 1⟩, ⟨h.2.2.2.1.facts.1 0, h.2.2.2.1.facts.1 1⟩, h.2.2.2.2.facts.1 0, h.2.2.2.2.facts.1 1⟩
theorem NR.start {w w2 : World} {n D : Int} (x y u v : Int) (E : Below ((w.alloc (.cells #[.int .i64 n, .int .i64 D] 23)).alloc (.cells #[.int .i64 0, .int .i64 0] 23)).heap.size ((w.alloc (.cells #[.int .i64 n, .int .i64 D] 23)).alloc (.cells #[.int .i64 0, .int .i64 0] 23)) w2) :
    NR w w2.heap.size (w2.heap.size + 1) n D x y u v ((w2.alloc (.cells #[.int .i64 x, .int .i64 y] 23)).alloc (.cells #[.int .i64 u, .int .i64 v] 23)) := by
  obtain ⟨R3, L3, H3, B3⟩ := near_cells (.int .i64 x) (.int .i64 y) (.int .i64 u) (.int .i64 v) E
  have N3 := (((Ce.new (T := 23) w (.int .i64 n) (.int .i64 D)).alloc (.cells #[.int .i64 0, .int .i64 0] 23)).ext E |>.alloc (.cells #[.int .i64 x, .int .i64 y] 23)).alloc (.cells #[.int .i64 u, .int .i64 v] 23)
  exact ⟨B3, N3, R3, L3, H3⟩

set_option maxRecDepth 100000 in
set_option maxHeartbeats 4000000 in
theorem rnear_any (n D d : Int) (w : World) (hn : IsI n) (hD : IsI D) (hd : IsI d) :
    Calls Try.prog 70 #[frv n D, .int .i64 d] w fun e w' => ∃ x, NrA n D d x ∧ RetA w x e w' := by
  have har := fun W => around_any n D d W hn hD hd
  have HAR := Lib.hid har
  have sz0 : ∀ x y : Obj, ((w.alloc x).alloc y).heap.size = w.heap.size + 2 := by intro x y; simp
  have SZ0 := Lib.hid sz0
  unfold frv at *
  clear har hn hD hd sz0
  go_enter Try.func70, Try.ntmps70
  go_upto_region 2 with (go_at_call 69; refine (HAR.out _).mono ?_; unfold RetAr frv; rintro x w2 ⟨a, b, c, e, er, rfl, hok, hx2⟩; have HOK := Lib.hid hok; have S2 := NR.start a b c e hx2; have hz2 := hx2.size)
  rw [SZ0.out] at hz2
  generalize (w2.alloc (.cells #[.int .i64 a, .int .i64 b] 23)).alloc (.cells #[.int .i64 c, .int .i64 e] 23) = w3 at *
  generalize w2.heap.size = g at *
  have HG := Lib.hid hz2
  clear hx2 hz2
  have HS := Lib.hid S2
  obtain ⟨n1, n2, n3⟩ := S2.2.1.facts
  obtain ⟨r1, r2, r3⟩ := S2.2.2.1.facts
  obtain ⟨l1, l2, l3⟩ := S2.2.2.2.1.facts
  obtain ⟨h1, h2, h3⟩ := S2.2.2.2.2.facts
  clear S2 HAR SZ0
  rcases hok with ⟨hno, rfl, rfl, rfl, rfl, rfl⟩ | ⟨hyes, haro, rfl⟩
  · have HNO := Lib.hid hno
    clear hno HOK
    go_wp2
    refine bodyPost_ret (v := .tuple #[.agg #[.int .i64 0, .int .i64 0], .int .i64 2]) (by simp [results, Try.results70, go_sem, r1]) rfl ?_
    exact ⟨_, .inl ⟨HNO.out, rfl⟩, rfl, below2 HS.out.1 (by omega) _ _⟩
  · obtain ⟨p1, p2, p3, p4, p5, p6, p7, p8, p9, p10, p11, p12⟩ := haro.bounds hyes.1 hyes.2.1 hyes.2.2
    obtain ⟨O1, O2, O3, L1, L2, OR⟩ := near_contracts (n := n) (D := D) hyes.1.1 hyes.1.2.1 hyes.1.2.2.1 hyes.1.2.2.2.1 p3 p4 p7 p8 p1 p2 p5 p6 p9 p10 p11 p12
    unfold frv at O1 O2 O3
    have HNR := Lib.hid (fun hlt => show NrA n D d (c, e, 0) from .inr ⟨hyes, a, b, c, e, haro, by unfold nrA; rw [if_pos hlt]⟩)
    have HNR2 := Lib.hid (fun hlt => show NrA n D d (a, b, 0) from .inr ⟨hyes, a, b, c, e, haro, by unfold nrA; rw [if_neg hlt]⟩)
    have hcs : (((c * D - n * e) * b - (n * b - a * D) * e).sign = -1 ∧ (c * D - n * e) * b < (n * b - a * D) * e) ∨ ((((c * D - n * e) * b - (n * b - a * D) * e).sign = 0 ∨ ((c * D - n * e) * b - (n * b - a * D) * e).sign = 1) ∧ ¬ (c * D - n * e) * b < (n * b - a * D) * e) := by
      rcases sgn3 ((c * D - n * e) * b - (n * b - a * D) * e) with h | h | h
      · exact .inl ⟨h.2, by omega⟩
      · exact .inr ⟨.inl h.2, by omega⟩
      · exact .inr ⟨.inr h.2, by omega⟩
    generalize rat (c * D - n * e) (e * D) = q1 at *
    generalize rat (n * b - a * D) (D * b) = q2 at *
    generalize ((c * D - n * e) * b - (n * b - a * D) * e).sign = sg at *
    have HO1 := Lib.hid O1
    have HO2 := Lib.hid O2
    have HO3 := Lib.hid O3
    have HL1 := Lib.hid L1
    have HL2 := Lib.hid L2
    have HOR := Lib.hid OR
    have hcs2 : (sg = -1 ∧ NrA n D d (c, e, 0)) ∨ ((sg = 0 ∨ sg = 1) ∧ NrA n D d (a, b, 0)) := by
      rcases hcs with ⟨h, h'⟩ | ⟨h, h'⟩
      · exact .inl ⟨h, HNR.out h'⟩
      · exact .inr ⟨h, HNR2.out h'⟩
    have HCS := Lib.hid hcs2
    clear O1 O2 O3 L1 L2 OR hcs HNR HNR2 haro hyes p1 p2 p3 p4 p5 p6 p7 p8 p9 p10 p11 p12 hcs2 HOK
    have HSC := Lib.hid (fun wx (h : NR w g (g + 1) n D a b c e wx) => h.cells)
    go_upto_region 4 with (fail)
    go_cut [31] (fun z31 wx => z31 = .bool (decide (sg < 0)) ∧ NR w g (g + 1) n D a b c e wx)
    case first =>
      clear HCS n1 n2 n3 r1 r2 r3 l1 l2 l3 h1 h2 h3 HG
      go_region_held3 (fun wx => NR w g (g + 1) n D a b c e wx ∧ (wx.cell? ⟨w.heap.size, 0, none⟩ = some (.int .i64 n) ∧ wx.cell? ⟨w.heap.size, 1, none⟩ = some (.int .i64 D)) ∧
          (wx.cell? ⟨g, 0, none⟩ = some (.int .i64 a) ∧ wx.cell? ⟨g, 1, none⟩ = some (.int .i64 b)) ∧ (wx.cell? ⟨g + 1, 0, none⟩ = some (.int .i64 c) ∧ wx.cell? ⟨g + 1, 1, none⟩ = some (.int .i64 e)))
        (first | exact HSC.out _ (NR.call (And.left (by assumption)) (by assumption)) | exact HSC.out _ (NR.call HS.out (ext_drew _)))
        (first
          | (go_at_call_of 34 (Value.int .i64 c); refine (HO3.out _).mono ?_; rintro x w4 ⟨v4, rfl, hq4, hx4⟩; obtain ⟨u4, rfl, hu4⟩ := q_formV hq4; clear hq4)
          | (go_at_call_of 34 (Value.int .i64 n); have _hu6 := u6; refine (HO1.out _).mono ?_; rintro x w7 ⟨v7, rfl, hq7, hx7⟩; obtain ⟨u7, rfl, hu7⟩ := q_formV hq7; clear hq7; have U7 := hu6.ext hx7)
          | (go_at_call_of 34 (Value.int .i64 n); refine (HO1.out _).mono ?_; rintro x w5 ⟨v5, rfl, hq5, hx5⟩; obtain ⟨u5, rfl, hu5⟩ := q_formV hq5; clear hq5; have U5 := hu4.ext hx5)
          | (go_at_call_of 34 (Value.int .i64 a); refine (HO2.out _).mono ?_; rintro x w8 ⟨v8, rfl, hq8, hx8⟩; obtain ⟨u8, rfl, hu8⟩ := q_formV hq8; clear hq8; have U8 := U7.ext hx8; have V8 := hu7.ext hx8)
          | (go_at_call_of 33 u4; refine (HL1.out _ _ _ U5 hu5).mono ?_; rintro x w6 ⟨v6, rfl, hq6, hx6⟩; obtain ⟨u6, rfl, hu6⟩ := q_formV hq6; clear hq6)
          | (go_at_call_of 33 u8; refine (HL2.out _ _ _ V8 hu8).mono ?_; rintro x w9 ⟨v9, rfl, hq9, hx9⟩; obtain ⟨u9, rfl, hu9⟩ := q_formV hq9; clear hq9; have U9 := U8.ext hx9)
          | (go_at_call 39; refine (HOR.out _ _ _ U9 hu9).mono ?_; rintro x w10 ⟨rfl, hx10⟩; have S10 := NR.call (And.left (by assumption)) hx10))
      all_goals
        go_wp2
        go_meet
        exact ⟨rfl, S10⟩
    case rest =>
      obtain ⟨rfl, hnr⟩ := hcut
      have HN := Lib.hid hnr
      clear n1 n2 n3 r1 r2 r3 l1 l2 l3 h1 h2 h3 HS
      obtain ⟨r1, r2, r3⟩ := hnr.2.2.1.facts
      obtain ⟨l1, l2, l3⟩ := hnr.2.2.2.1.facts
      obtain ⟨h1, h2, h3⟩ := hnr.2.2.2.2.facts
      clear hnr
      have hcs := HCS.out
      clear HCS
      rcases hcs with ⟨rfl, hh⟩ | ⟨hsg, hh⟩
      · have HH := Lib.hid hh
        clear hh
        go_wp2
        refine bodyPost_ret (v := .tuple #[.agg #[.int .i64 c, .int .i64 e], .int .i64 0]) (by simp [results, Try.results70, go_sem, r1]) rfl ?_
        exact ⟨_, HH.out, rfl, below2 HN.out.1 (by omega) _ _⟩
      · have HH := Lib.hid hh
        clear hh
        rcases hsg with rfl | rfl
        all_goals
          go_wp2
          refine bodyPost_ret (v := .tuple #[.agg #[.int .i64 a, .int .i64 b], .int .i64 0]) (by simp [results, Try.results70, go_sem, r1]) rfl ?_
          exact ⟨_, HH.out, rfl, below2 HN.out.1 (by omega) _ _⟩
end Go.Proofs.Ythkoblnfeebafaa
