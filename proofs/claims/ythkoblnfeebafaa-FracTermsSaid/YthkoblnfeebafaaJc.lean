/- The reference's Terms walked. Conditions: the parts are within their kinds. -/
import Derived.Test.YthkoblnfeebafaaJb
import Derived.Test.YthkoblnfeebafaaGm
import Derived.Deep.DeepCutAuto
namespace Go.Proofs.Ythkoblnfeebafaa
open Go.RowKit

/-- a slice reads as before where each block of its type is as it was -/
theorem Sl.keep {T : TypeId} {w w' : World} {A : Option Addr} {xs : List Value} (h : Sl T w A xs) (hk : ∀ (k : Nat) (cs : Array Value), w.heap[k]? = some (Obj.cells cs T (0, 0)) → w'.heap[k]? = w.heap[k]?) : Sl T w' A xs := by
  rcases h with h | ⟨b, off, hA, ⟨cur, hcur⟩, hc⟩
  · exact .inl h
  · have e := hk b cur hcur
    exact .inr ⟨b, off, hA, ⟨cur, e.trans hcur⟩, fun j u hu => (World.cell?_of_block (a := ⟨b, off + j, none⟩) e).trans (hc j u hu)⟩
theorem NatAt.keep {w w' : World} {v : Value} {n : Nat} (h : NatAt w v n) (hk : ∀ (k : Nat) (cs : Array Value), w.heap[k]? = some (Obj.cells cs 84 (0, 0)) → w'.heap[k]? = w.heap[k]?) : NatAt w' v n := by
  obtain ⟨A, cap, hv, h1, h2, h3⟩ := h
  exact ⟨A, cap, hv, h1, h2, h3.keep hk⟩
theorem QAt.keep {w w' : World} {v : Value} {q : Rat} (h : QAt w v q) (hk : ∀ (k : Nat) (cs : Array Value), w.heap[k]? = some (Obj.cells cs 84 (0, 0)) → w'.heap[k]? = w.heap[k]?) : QAt w' v q := by
  obtain ⟨s, vn, vd, h1, h2, h3, h4⟩ := h
  exact ⟨s, vn, vd, h1, h2, h3.keep hk, h4.keep hk⟩
/-- behind an append to a row of ints -/
theorem QB.push {w w' : World} {base n g : Nat} {v : Value} {xs : List Value} {p : QV} {q : Rat} (h : QB w g p q) (hown : w.ownsRow base 3 1 v n xs) (hk : ∀ k, k < w.heap.size → some k ≠ v.ownBlock → w'.heap[k]? = w.heap[k]?) : QB w' g p q := by
  obtain ⟨h1, h2⟩ := h
  refine ⟨(hk g h1.lt (own_ne hown h1 (by decide))).trans h1, h2.keep fun k cs hc => hk k (lt_of_block hc) (own_ne hown hc (by decide))⟩

/-- the reference's step -/
theorem terms_step {q : Rat} (hl : q.num.natAbs ≤ 1000000000 ∧ q.den ≤ 1000000000) :
    -1000000000 ≤ q.num / (q.den : Int) ∧ q.num / (q.den : Int) ≤ 1000000000 ∧
    (∀ v W, QAt W v q → Calls Try.prog 97 #[v] W (RetQ W ((q.num / (q.den : Int) : Int) : Rat))) ∧
    (∀ v W, QAt W v ((q.num / (q.den : Int) : Int) : Rat) → Calls Try.prog 37 #[v] W fun e w' => e = .returned (.tuple #[.int .i64 (q.num / (q.den : Int)), .bool true]) ∧ Below W.heap.size W w') ∧
    (∀ vx vy W, QAt W vx q → QAt W vy ((q.num / (q.den : Int) : Int) : Rat) → Calls Try.prog 33 #[vx, vy] W (RetQ W (rat (q.num % (q.den : Int)) q.den))) ∧
    (∀ v W, QAt W v (rat (q.num % (q.den : Int)) q.den) → Calls Try.prog 35 #[v] W fun e w' => e = .returned (.int .i64 (q.num % (q.den : Int)).sign) ∧ Below W.heap.size W w') ∧
    (q.num % (q.den : Int) ≠ 0 → ∃ q' : Rat, q'.num = q.den ∧ (q'.den : Int) = q.num % (q.den : Int) ∧
      ∀ vx vy W, QAt W vx ((1 : Int) : Rat) → QAt W vy (rat (q.num % (q.den : Int)) q.den) → Calls Try.prog 38 #[vx, vy] W (RetQ W q')) := by
  have hd := den_one q
  obtain ⟨m1, m2⟩ := div_bd (n := q.num) (d := q.den) (B := 1000000000) hd (by omega) (by omega) (by omega)
  have z : QOk q := qok_small (by omega) (by omega)
  have r1 := Int.emod_nonneg q.num (show (q.den : Int) ≠ 0 by omega)
  have r2 := Int.emod_lt_of_pos q.num (show 0 < (q.den : Int) by omega)
  have e1 := Int.mul_ediv_add_emod q.num q.den
  have hrest := rest_eq q
  rw [floor_eq] at hrest
  refine ⟨m1, m2, fun v W x => ?_, fun v W x => ?_, fun vx vy W x y => ?_, fun v W x => ?_, fun h0 => ?_⟩
  · have h := down_q v q W x z
    rwa [floor_eq] at h
  · have h := whole_yes v _ W x (by rw [Rat.den_intCast]) (by rw [Rat.num_intCast]; omega)
    rwa [Rat.num_intCast] at h
  · have h := less_q vx vy _ _ W x y z (qok_int (n := q.num / (q.den : Int)) (by omega) (by omega))
    rwa [hrest] at h
  · have h := sign_any v _ W x
    rwa [sign_rat hd] at h
  · have hg : Int.gcd (q.den : Int) (q.num % (q.den : Int)) = 1 := by
      have h1 : Int.gcd q.num q.den = 1 := q.reduced
      have e : q.num = q.num % (q.den : Int) + (q.den : Int) * (q.num / (q.den : Int)) := by omega
      rw [e, Int.gcd_comm, Int.gcd_add_mul_left_right] at h1
      exact h1
    obtain ⟨n1, n2⟩ := rat_one (n := (q.den : Int)) (d := q.num % (q.den : Int)) (by omega) hg
    refine ⟨rat q.den (q.num % (q.den : Int)), n1, n2, fun vx vy W x y => ?_⟩
    have hne : rat (q.num % (q.den : Int)) q.den ≠ 0 := rat_ne h0 hd
    have h := over_any vx vy _ _ W x y (qok_int (n := 1) (by decide) (by decide)) (qok_rat (by omega) hd (by omega)) hne
    have e4 : ((1 : Int) : Rat) / rat (q.num % (q.den : Int)) q.den = rat q.den (q.num % (q.den : Int)) := by
      have c1 := cast_ne (show 1 ≤ q.num % (q.den : Int) by omega)
      have c2 := cast_ne hd
      unfold rat
      have e3 : ((1 : Int) : Rat) = 1 := rfl
      rw [e3]
      grind
    rwa [e4] at h

/-- what the loop knows behind its last call but three -/
def TL (w : World) (ga g9 : Nat) (_p u : QV) (_q r : Rat) (v : Value) (pre : List Int) (wx : World) : Prop :=
  Below w.heap.size w wx ∧ Res3 44 wx ga ∧ QB wx g9 u r ∧ wx.ownsRow w.heap.size 3 1 v pre.length (ints pre)
theorem TL.call {w : World} {ga g9 : Nat} {p u : QV} {q r : Rat} {v : Value} {pre : List Int} {wx wy : World} (h : TL w ga g9 p u q r v pre wx) (hb : Below wx.heap.size wx wy) : TL w ga g9 p u q r v pre wy := by
  obtain ⟨h1, h2, h3, h4⟩ := h
  exact ⟨bext h1 hb h1.size, h2.ext hb, h3.ext hb, own_ext h4 hb⟩
theorem own_far3 {w : World} {base n : Nat} {e T' : TypeId} {v : Value} {xs : List Value} (h : w.ownsRow base e 1 v n xs) {k : Nat} {x y z : Value} (hk : C3 T' w k x y z) (hT : e ≠ T') (a b c : Value) : (((w.setCell ⟨k, 0, none⟩ a).setCell ⟨k, 1, none⟩ b).setCell ⟨k, 2, none⟩ c).ownsRow base e 1 v n xs :=
  own_far (own_far (own_far h a hk hT) b (heap_setCell_same w k 0 _ T' a hk) hT) c (heap_setCell_same _ k 1 _ T' b (heap_setCell_same w k 0 _ T' a hk)) hT
theorem TL.store {w : World} {ga g9 : Nat} {p u : QV} {q r : Rat} {v : Value} {pre : List Int} {wx : World} (h : TL w ga g9 p u q r v pre wx) (h0 : w.heap.size ≤ ga) (hg : g9 ≠ ga) (a b c : Value) :
    TL w ga g9 p u q r v pre (((wx.setCell ⟨ga, 0, none⟩ a).setCell ⟨ga, 1, none⟩ b).setCell ⟨ga, 2, none⟩ c) := by
  obtain ⟨h1, h2, h3, h4⟩ := h
  obtain ⟨x, y, z, h2'⟩ := h2
  exact ⟨below3 h1 h0 _ _ _, ⟨a, b, c, C3.set3 h2' _ _ _⟩, h3.set_ne hg ⟨_, h2'⟩ _ _ _, own_far3 h4 h2' (by decide) _ _ _⟩
theorem TL.cells {w : World} {ga g9 : Nat} {p u : QV} {q r : Rat} {v : Value} {pre : List Int} {wx : World} (h : TL w ga g9 p u q r v pre wx) : TL w ga g9 p u q r v pre wx ∧
    (wx.cell? ⟨g9, 0, none⟩ = some (.bool u.s) ∧ wx.cell? ⟨g9, 1, none⟩ = some (.slice u.A u.n u.c) ∧ wx.cell? ⟨g9, 2, none⟩ = some (.slice u.B u.m u.d)) := ⟨h, h.2.2.1.1.cells⟩

set_option maxRecDepth 100000 in
set_option maxHeartbeats 4000000 in
theorem rterms_any (n D : Int) (w : World) (hn : IsI n) (hD : IsI D) : Calls Try.prog 66 #[frv n D] w (RetL w n D) := by
  have hv' := fun W => rvalid_any n D W hn hD
  have hx0 : ∀ x, Below w.heap.size w (w.alloc x) := fun x => (Below.refl _ _).alloc (Nat.le_refl _) _
  have HX0 := Lib.hid hx0
  cases hv : vldB n D
  · rw [hv] at hv'
    have HV := Lib.hid hv'
    have hbad : ¬ Vld n D := fun h => by
      have := vldB_yes h
      rw [hv] at this; exact absurd this (by decide)
    have HB := Lib.hid hbad
    unfold frv at *
    clear hv hv' hn hD hbad hx0
    go_enter Try.func66, Try.ntmps66
    go_wp2_with (go_at_call 21; refine (HV.out _).mono ?_; rintro e w1 ⟨rfl, hx1⟩)
    go_ret2
    exact ⟨none, 0, [], 2, rfl, by simp, by simp [maxLen], .inl rfl, .inl ⟨HB.out, rfl, rfl⟩, ext_trans (HX0.out _) hx1⟩
  · rw [hv] at hv'
    have HV := Lib.hid hv'
    have hvl : Vld n D := of_decide_eq_true hv
    have HVL := Lib.hid hvl
    obtain ⟨a1, a2, a3, a4, a5⟩ := hvl
    obtain ⟨i1, i2⟩ := rat_one a1 a5
    have hof : ∀ W, Calls Try.prog 34 #[frv n D] W (RetQ W (rat n D)) := fun W => of_any n D W (by omega) (by omega) (by omega) (by omega) (by omega)
    have HOF := Lib.hid hof
    have HQ0 := Lib.hid (show ((rat n D).num.natAbs ≤ 1000000000 ∧ (rat n D).den ≤ 1000000000) ∧ (rat n D).num = n ∧ ((rat n D).den : Int) = D from ⟨⟨by omega, by omega⟩, i1, i2⟩)
    generalize rat n D = q0 at *
    have HI1 := Lib.hid (fun W => int_any 1 W (by decide) (by decide))
    unfold frv at *
    clear hv hv' hn hD hof hx0 a5 i1 i2
    go_enter Try.func66, Try.ntmps66
    go_wp2_with (first
      | (go_at_call 21; refine (HV.out _).mono ?_; rintro e w1 ⟨rfl, hx1⟩; have B1 := ext_trans (HX0.out _) hx1; obtain ⟨k1, k2, k3⟩ := new_cell hx1)
      | (go_at_call 34; refine (HOF.out _).mono ?_; rintro e w2 ⟨v2, rfl, hq2, hx2⟩; obtain ⟨p2, rfl, hp2⟩ := q_formV hq2; clear hq2; have B2 := bext B1 hx2 (by omega)))
    have C3 := QB.new hp2
    have B3 := B2.alloc B2.size (.cells #[.bool p2.s, .slice p2.A p2.n p2.c, .slice p2.B p2.m p2.d] 44)
    have hz := B2.size
    generalize w2.alloc (.cells #[.bool p2.s, .slice p2.A p2.n p2.c, .slice p2.B p2.m p2.d] 44) = w3 at *
    generalize w2.heap.size = ga at *
    have HC3 := Lib.hid C3
    have HB3 := Lib.hid B3
    clear k1 k2 k3 hx1 hx2 B1 B2 C3 B3 HV HOF hp2
    go_loopg [4] D.toNat (fun g z4 wr => ∃ (q : Rat) (p : QV) (pre : List Int), g = q.den ∧ (q.num.natAbs ≤ 1000000000 ∧ q.den ≤ 1000000000) ∧ pre.length + q.den ≤ 1000000000 ∧
      QB wr ga p q ∧ wr.ownsRow w.heap.size 3 1 z4 pre.length (ints pre) ∧ Below w.heap.size w wr ∧ (∀ t, Cf.fr q.num q.den t → Cf.fr n D (pre ++ t)))
    case atStart => exact ⟨q0, p2, [], by have := HQ0.out.2.2; omega, HQ0.out.1, by have := HQ0.out.1.2; simpa using this, HC3.out, World.ownsRow_nil _ _ _ _, HB3.out, fun t h => by rw [HQ0.out.2.1, HQ0.out.2.2] at h; exact h⟩
    case round =>
      obtain ⟨q, p, pre, hgk, hlim, hpl, hqb, hown, hbl, hfr⟩ := hrel
      have HGK := Lib.hid hgk
      have HFR := Lib.hid hfr
      have HQD := Lib.hid q.den_pos
      obtain ⟨q1, q2, cD, cW, cL, cS, cO⟩ := terms_step hlim
      have r1 := Int.emod_nonneg q.num (show (q.den : Int) ≠ 0 by have := HQD.out; omega)
      have r2 := Int.emod_lt_of_pos q.num (show 0 < (q.den : Int) by have := HQD.out; omega)
      have hf0 : q.num % (q.den : Int) = 0 → Cf.fr n D (pre ++ [q.num / (q.den : Int)]) := fun h0 => HFR.out [q.num / (q.den : Int)] (by unfold Cf.fr; exact ⟨rfl, .inl ⟨h0, rfl⟩⟩)
      have hf1 : q.num % (q.den : Int) ≠ 0 → ∀ t, Cf.fr q.den (q.num % (q.den : Int)) t → Cf.fr n D ((pre ++ [q.num / (q.den : Int)]) ++ t) := fun h0 t ht => by
        rw [List.append_assoc]
        refine HFR.out _ ?_
        show Cf.fr q.num q.den (q.num / (q.den : Int) :: t)
        unfold Cf.fr
        exact ⟨rfl, .inr ⟨h0, ht⟩⟩
      generalize q.num / (q.den : Int) = A at *
      generalize hrd : q.num % (q.den : Int) = r at *
      have HF0 := Lib.hid hf0
      have HF1 := Lib.hid hf1
      have HD := Lib.hid cD
      have HW := Lib.hid cW
      have HL := Lib.hid cL
      have HS := Lib.hid cS
      have HO := Lib.hid cO
      have HQB := Lib.hid hqb
      obtain ⟨e1, e2, e3⟩ := hqb.1.facts
      have HLIM := Lib.hid (And.intro hlim hpl)
      clear hgk hfr hf0 hf1 cD cW cL cS cO hlim hrd hqb
      have hpl2 : pre.length ≤ 1000000000 := by omega
      have hsg : r.sign = 0 ∧ r = 0 ∨ r.sign = 1 ∧ r ≠ 0 := by
        rcases Int.lt_trichotomy r 0 with h | h | h
        · omega
        · exact .inl ⟨by rw [h]; rfl, h⟩
        · exact .inr ⟨Int.sign_eq_one_of_pos h, by omega⟩
      generalize r.sign = sg at *
      rcases hsg with ⟨rfl, hr0⟩ | ⟨rfl, hr0⟩
      · go_wp2_with (first
          | (go_at_call 97; refine (HD.out _ _ HQB.out.2).mono ?_; rintro e w4 ⟨v4, rfl, hq4, hx4⟩; obtain ⟨p4, rfl, hp4⟩ := q_formV hq4; clear hq4; have Q4 := HQB.out.ext hx4; have own4 := own_ext hown hx4; have b4 := bext hbl hx4 hbl.size)
          | (go_at_call 37; refine (HW.out _ _ (hp4.ext ((Below.refl _ _).alloc (Nat.le_refl _) _))).mono ?_; rintro e w5 ⟨rfl, hx5⟩; have Q5 := (Q4.ext ((Below.refl _ _).alloc (Nat.le_refl _) _)).ext hx5; have L5 := (QB.new hp4).ext hx5; have own5 := own_ext (own4.alloc _) hx5; have b5 := bext (b4.alloc b4.size _) hx5 (by have := b4.size; simp; omega); have z5 := b5.size)
          | (at_builtin; refine wpList_push2 w5 rfl _ _ 36 rfl w.heap.size 3 (.int .i64 0) 8 Try.underlying36 info_int rfl own5 (by rfl) (by rfl) (by rfl) (by unfold maxLen; omega) (by omega) z5 ?_; intro v6 w6 own6 b56 k6 _; have Q6 := Q5.push own5 k6; have L6 := L5.push own5 k6; have b6 := b5.trans b56; obtain ⟨e1, e2, e3⟩ := Q6.1.facts; obtain ⟨l1, l2, l3⟩ := L6.1.facts)
          | (go_at_call 33; refine (HL.out _ _ _ Q6.2 L6.2).mono ?_; rintro e w7 ⟨v7, rfl, hq7, hx7⟩; obtain ⟨p7, rfl, hp7⟩ := q_formV hq7; clear hq7; have Q7 := Q6.ext hx7; have own7 := own_ext own6 hx7; have b7 := bext b6 hx7 b6.size)
          | (go_at_call 35; refine (HS.out _ _ (hp7.ext ((Below.refl _ _).alloc (Nat.le_refl _) _))).mono ?_; rintro e w8 ⟨rfl, hx8⟩; have Q8 := (Q7.ext ((Below.refl _ _).alloc (Nat.le_refl _) _)).ext hx8; have R8 := (QB.new hp7).ext hx8; have own8 := own_ext (own7.alloc _) hx8; have b8 := bext (b7.alloc b7.size _) hx8 (by have := b7.size; simp; omega); have z7 := Q7.1.lt))
        rw [show ints pre ++ [Value.int .i64 A] = ints (pre ++ [A]) by rw [ints_append]; rfl, show pre.length + 1 = (pre ++ [A]).length by simp] at own8
        obtain ⟨B, cap, rfl, l1, l2, l3⟩ := own_isl own8
        go_ret2
        exact ⟨B, cap, pre ++ [A], 0, rfl, l1, l2, l3, .inr ⟨HVL.out, HF0.out hr0, rfl⟩, b8⟩
      · go_upto_region 11 with (first
          | (go_at_call 97; refine (HD.out _ _ HQB.out.2).mono ?_; rintro e w4 ⟨v4, rfl, hq4, hx4⟩; obtain ⟨p4, rfl, hp4⟩ := q_formV hq4; clear hq4; have Q4 := HQB.out.ext hx4; have own4 := own_ext hown hx4; have b4 := bext hbl hx4 hbl.size)
          | (go_at_call 37; refine (HW.out _ _ (hp4.ext ((Below.refl _ _).alloc (Nat.le_refl _) _))).mono ?_; rintro e w5 ⟨rfl, hx5⟩; have Q5 := (Q4.ext ((Below.refl _ _).alloc (Nat.le_refl _) _)).ext hx5; have L5 := (QB.new hp4).ext hx5; have own5 := own_ext (own4.alloc _) hx5; have b5 := bext (b4.alloc b4.size _) hx5 (by have := b4.size; simp; omega); have z5 := b5.size)
          | (at_builtin; refine wpList_push2 w5 rfl _ _ 36 rfl w.heap.size 3 (.int .i64 0) 8 Try.underlying36 info_int rfl own5 (by rfl) (by rfl) (by rfl) (by unfold maxLen; omega) (by omega) z5 ?_; intro v6 w6 own6 b56 k6 _; have Q6 := Q5.push own5 k6; have L6 := L5.push own5 k6; have b6 := b5.trans b56; obtain ⟨e1, e2, e3⟩ := Q6.1.facts; obtain ⟨l1, l2, l3⟩ := L6.1.facts)
          | (go_at_call 33; refine (HL.out _ _ _ Q6.2 L6.2).mono ?_; rintro e w7 ⟨v7, rfl, hq7, hx7⟩; obtain ⟨p7, rfl, hp7⟩ := q_formV hq7; clear hq7; have Q7 := Q6.ext hx7; have own7 := own_ext own6 hx7; have b7 := bext b6 hx7 b6.size)
          | (go_at_call 35; refine (HS.out _ _ (hp7.ext ((Below.refl _ _).alloc (Nat.le_refl _) _))).mono ?_; rintro e w8 ⟨rfl, hx8⟩; have Q8 := (Q7.ext ((Below.refl _ _).alloc (Nat.le_refl _) _)).ext hx8; have R8 := (QB.new hp7).ext hx8; have own8 := own_ext (own7.alloc _) hx8; have b8 := bext (b7.alloc b7.size _) hx8 (by have := b7.size; simp; omega); have z7 := Q7.1.lt))
        rw [show ints pre ++ [Value.int .i64 A] = ints (pre ++ [A]) by rw [ints_append]; rfl, show pre.length + 1 = (pre ++ [A]).length by simp] at own8
        obtain ⟨q', hq1, hq2, hov⟩ := HO.out hr0
        have HOV := Lib.hid hov
        have HQ' := Lib.hid (And.intro hq1 hq2)
        generalize hrq : rat r q.den = rr at *
        have hne : w7.heap.size ≠ ga := by omega
        have HNE := Lib.hid (And.intro hz hne)
        have hTL : TL w ga w7.heap.size p p7 q rr v6 (pre ++ [A]) w8 := ⟨b8, Q8.1.res, R8, own8⟩
        generalize w7.heap.size = g9 at *
        have HR := Lib.hid hTL
        have HSC := Lib.hid (fun wx (h : TL w ga g9 p p7 q rr v6 (pre ++ [A]) wx) => h.cells)
        clear HB3 HC3 HQ0 HFR HF0 HD HW HQB hne hTL hx4 hp4 Q4 own4 b4 hx5 Q5 L5 own5 b5 z5 own6 b56 k6 Q6 L6 b6 e1 e2 e3 l1 l2 l3 hx7 Q7 own7 b7 hp7 hx8 Q8 R8 own8 b8 z7 hown hbl HL HS HO hov
        go_region_held3 (fun wx => TL w ga g9 p p7 q rr v6 (pre ++ [A]) wx ∧ (wx.cell? ⟨g9, 0, none⟩ = some (.bool p7.s) ∧ wx.cell? ⟨g9, 1, none⟩ = some (.slice p7.A p7.n p7.c) ∧ wx.cell? ⟨g9, 2, none⟩ = some (.slice p7.B p7.m p7.d)))
          (first | exact HSC.out _ (TL.call (And.left (by assumption)) (by assumption)) | exact HSC.out _ (TL.call HR.out (ext_drew _)) | exact HSC.out _ (TL.store (And.left (by assumption)) HNE.out.1 HNE.out.2 _ _ _))
          (first
            | (go_at_call 80; refine (HI1.out _).mono ?_; rintro e w9 ⟨v9, rfl, hq9, hx9⟩; obtain ⟨p9, rfl, hp9⟩ := q_formV hq9; clear hq9)
            | (go_at_call 38; refine (HOV.out _ _ _ hp9 ?_).mono ?_; exact (And.left (by assumption) : TL w ga g9 p p7 q rr v6 (pre ++ [A]) _).2.2.1.2; rintro e w10 ⟨v10, rfl, hq10, hx10⟩; obtain ⟨p10, rfl, hp10⟩ := q_formV hq10; clear hq10; have S10 := TL.call (And.left (by assumption)) hx10; obtain ⟨y0, y1, y2, hc, hf, hzz⟩ := S10.2.1.facts))
        all_goals
          go_wp2
          have S11 := TL.store S10 HNE.out.1 HNE.out.2 (.bool p10.s) (.slice p10.A p10.n p10.c) (.slice p10.B p10.m p10.d)
          have Q11 := S10.2.1.setQ hp10
          go_roundg r.toNat
          case measure => have := HGK.out; omega
          case rel => exact ⟨q', p10, pre ++ [A], by have := HQ'.out.2; omega, ⟨by have := HQ'.out.1; have := HLIM.out.1.2; omega, by have := HQ'.out.2; have := HLIM.out.1.2; omega⟩, by have := HQ'.out.2; have := HLIM.out.2; simp; omega, Q11, S11.2.2.2, S11.1, fun t ht => HF1.out hr0 t (by rw [← HQ'.out.1, ← HQ'.out.2]; exact ht)⟩
end Go.Proofs.Ythkoblnfeebafaa
