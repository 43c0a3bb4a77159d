/- frac.Terms walked. Conditions: the parts are within their kinds. -/
import Derived.Test.YthkoblnfeebafaaJa
namespace Go.Proofs.Ythkoblnfeebafaa
open Go.RowKit

def ints (l : List Int) : List Value := l.map fun d : Int => Value.int .i64 d
theorem ints_len (l : List Int) : (ints l).length = l.length := by simp [ints]
theorem ints_append (a b : List Int) : ints (a ++ b) = ints a ++ ints b := by simp [ints]
theorem info_int : (Try.prog.info? 3).map (fun i => (i.zero, i.size, i.bytes)) = some (some (.int .i64 0), 1, 8) := by kernel_rfl

theorem own_far {w : World} {base n : Nat} {e T' : TypeId} {v : Value} {xs : List Value} (h : w.ownsRow base e 1 v n xs) {k j : Nat} {cs : Array Value} (u : Value) (hk : w.heap[k]? = some (.cells cs T' (0, 0))) (hT : e ≠ T') : (w.setCell ⟨k, j, none⟩ u).ownsRow base e 1 v n xs := by
  obtain ⟨hl, h⟩ := h
  refine ⟨hl, ?_⟩
  rcases h with h | ⟨g, cap, cur, hv, hg, hh, hr⟩
  · exact .inl h
  · have hne : g ≠ k := by
      intro e
      subst e
      rw [hk] at hh
      injection hh with hh
      injection hh with _ e
      exact hT e.symm
    exact .inr ⟨g, cap, cur, hv, hg, (Below.heap_setCell _ _ _ _ hne).trans hh, hr⟩
theorem own_far2 {w : World} {base n : Nat} {e T' : TypeId} {v : Value} {xs : List Value} (h : w.ownsRow base e 1 v n xs) {k : Nat} {x y : Value} (hk : Ce T' w k x y) (hT : e ≠ T') (a b : Value) : ((w.setCell ⟨k, 0, none⟩ a).setCell ⟨k, 1, none⟩ b).ownsRow base e 1 v n xs :=
  own_far (own_far h a hk hT) b (heap_setCell_same w k 0 _ T' a hk) hT
theorem own_isl {w : World} {base : Nat} {v : Value} {l : List Int} (h : w.ownsRow base 3 1 v l.length (ints l)) : ∃ A cap, v = .slice A l.length cap ∧ l.length ≤ cap ∧ cap ≤ maxLen ∧ ISl w A l := by
  obtain ⟨A, cap, hv, h1, h2, h3⟩ := Row.of_own h
  rw [ints_len] at hv h1
  refine ⟨A, cap, hv, h1, h2, ?_⟩
  rcases h3 with h3 | ⟨b, off, hA, ⟨cur, hcur⟩, hc⟩
  · refine .inl ?_
    have := congrArg List.length h3
    rw [ints_len] at this
    exact List.eq_nil_of_length_eq_zero (by simpa using this)
  · refine .inr ⟨b, off, hA, lt_of_block hcur, fun j hj => hc j _ ?_⟩
    simp [ints, hj]

theorem own_ne {w : World} {base n : Nat} {e T' : TypeId} {v : Value} {xs : List Value} (h : w.ownsRow base e 1 v n xs) {k : Nat} {cs : Array Value} (hk : w.heap[k]? = some (.cells cs T' (0, 0))) (hT : e ≠ T') : some k ≠ v.ownBlock := by
  obtain ⟨_, h⟩ := h
  rcases h with ⟨rfl, _⟩ | ⟨g, cap, cur, rfl, hg, hh, hr⟩
  · intro h; cases h
  · intro h
    injection h with h
    simp only at h
    subst h
    rw [hk] at hh
    injection hh with hh
    injection hh with _ e
    exact hT e.symm
/-- 'append(out, x)' of one element, out nil or the call's own; every block that is not out's is as it was -/
theorem wpList_push2 {P : Program} (w : World) {ops : Array Oper} {rest : List Oper} {o : Oper} {a : Act} {Q : Exit → Act → World → Prop} (hgd : o.guard = none) (s x : Operand) (t : TypeId)
    (ho : o.op = .call { callee := .builtin .append, args := #[s, x], argTypes := #[t, t] })
    (base : Nat) (e : TypeId) (z : Value) (bytes : Nat) (ht : P.underlying t = some (.slice e)) (hinfo : (P.info? e).map (fun i => (i.zero, i.size, i.bytes)) = some (some z, 1, bytes)) (hzs : z.cells.size = 1)
    {v : Value} {n : Nat} {xs : List Value} (hown : w.ownsRow base e 1 v n xs) (hs : a.eval s = v)
    {u : Value} (hx : a.eval x = .slice (some ⟨w.heap.size, 0, none⟩) 1 1) (h1 : u.oneCell' = true)
    (h63 : n + 1 ≤ maxLen) (hbytes : (n + 1) * bytes ≤ 140737488355328) (hbase : base ≤ w.heap.size)
    (h : ∀ v' w', w'.ownsRow base e 1 v' (n + 1) (xs ++ [u]) → Below base w w' → (∀ k, k < w.heap.size → some k ≠ v.ownBlock → w'.heap[k]? = w.heap[k]?) → v' ≠ .slice none 0 0 → wpList P ops Q rest (a.put o.dst v') w') :
    wpList P ops Q (o :: rest) a (w.alloc (.cells #[u] e)) := by
  obtain ⟨i, hi, hz, hsz, hby⟩ := info_parts hinfo
  have hlt := hown.lt
  refine wpList_append_own _ hgd s x t ho base e i z 1 bytes ht hi hz hsz hby hzs (by decide) v n xs hs (hown.alloc _) ⟨w.heap.size, 0, none⟩ 1 1 [u] hx rfl ?_ ?_ h63 hbytes (by simp; omega) ?_
  · intro j u' hj
    match j, hj with
    | 0, hj => simp at hj; subst hj; simp [Addr.add]
  · intro u' hu; simp at hu; subst hu; exact h1
  · intro v' w' h2 h3 h4
    refine h v' w' h2 (((Below.refl base w).alloc hbase _).grown h3 (by simp; omega) (fun k hk => (hlt k hk).1)) (fun k hk hne => ?_) (fun hv => ?_)
    · exact (h3.block k (by simp; omega) hne).trans (((Below.refl w.heap.size w).alloc (Nat.le_refl _) _).block k hk)
    · have := (h4.1 hv).2
      omega

/-- what Terms hands back -/
def RetL (w : World) (n D : Int) (e : Ending) (w' : World) : Prop :=
  ∃ (A : Option Addr) (cap : Nat) (l : List Int) (er : Int), e = .returned (.tuple #[.slice A l.length cap, .int .i64 er]) ∧ l.length ≤ cap ∧ cap ≤ maxLen ∧ ISl w' A l ∧ ((¬ Vld n D ∧ l = [] ∧ er = 2) ∨ (Vld n D ∧ Cf.fr n D l ∧ er = 0)) ∧ Below w.heap.size w w'

set_option maxRecDepth 100000 in
set_option maxHeartbeats 2000000 in
theorem terms_any (n D : Int) (w : World) (hn : IsI n) (hD : IsI D) : Calls Try.prog 65 #[frv n D] w (RetL w n D) := by
  have hv' := fun W => valid_any n D W hn hD
  have hx0 : ∀ x, Below w.heap.size w (w.alloc x) := fun x => (Below.refl _ _).alloc (Nat.le_refl _) _
  have HX0 := Lib.hid hx0
  cases hv : vldB n D
  · rw [hv] at hv'
    have HV := Lib.hid hv'
    have hbad : ¬ Vld n D := fun h => by
      have := vldB_yes h
      rw [hv] at this; exact absurd this (by decide)
    have HB := Lib.hid hbad
    unfold frv at *
    clear hv hv' hn hD hbad hx0
    go_enter Try.func65, Try.ntmps65
    go_wp2_with (go_at_call 20; refine (HV.out _).mono ?_; rintro e w1 ⟨rfl, hx1⟩)
    go_ret2
    exact ⟨none, 0, [], 2, rfl, by simp, by simp [maxLen], .inl rfl, .inl ⟨HB.out, rfl, rfl⟩, ext_trans (HX0.out _) hx1⟩
  · rw [hv] at hv'
    have HV := Lib.hid hv'
    have hvl : Vld n D := of_decide_eq_true hv
    have HVL := Lib.hid hvl
    obtain ⟨a1, a2, a3, a4, a5⟩ := hvl
    have hof := fun W => of_ratio n D W
    have HOF := Lib.hid hof
    have HFL := Lib.hid (fun a b W h1 h2 h3 h4 => floor_any a b W h1 h2 h3 h4)
    unfold frv at *
    clear hv hv' hn hD hof hx0 a5
    go_enter Try.func65, Try.ntmps65
    go_wp2_with (first
      | (go_at_call 20; refine (HV.out _).mono ?_; rintro e w1 ⟨rfl, hx1⟩; have B1 := ext_trans (HX0.out _) hx1; obtain ⟨k1, k2, k3⟩ := new_cell hx1)
      | (go_at_call 91; refine (HOF.out _).mono ?_; rintro e w2 ⟨rfl, hx2⟩; have B2 := bext B1 hx2 (by omega)))
    have C3 := Ce.new (T := 76) w2 (.int .i64 n) (.int .i64 D)
    have B3 := B2.alloc B2.size (.cells #[.int .i64 n, .int .i64 D] 76)
    have hz := B2.size
    generalize w2.alloc (.cells #[.int .i64 n, .int .i64 D] 76) = w3 at *
    generalize w2.heap.size = g3 at *
    have HC3 := Lib.hid C3
    have HB3 := Lib.hid B3
    clear k1 k2 k3 hx1 hx2 B1 B2 C3 B3 HV HOF
    go_loopg [4, 5] D.toNat (fun g z4 z5 wr => ∃ (a b : Int) (gr : Nat) (pre : List Int), g = b.toNat ∧ 1 ≤ b ∧ b ≤ 1000000000 ∧ -1000000000 ≤ a ∧ a ≤ 1000000000 ∧ (pre.length : Int) + b ≤ 1000000000 ∧ z5 = .pointer (some ⟨gr, 0, none⟩) ∧ w.heap.size ≤ gr ∧
      Ce 76 wr gr (.int .i64 a) (.int .i64 b) ∧ wr.ownsRow w.heap.size 3 1 z4 pre.length (ints pre) ∧ Below w.heap.size w wr ∧ (∀ t, Cf.fr a b t → Cf.fr n D (pre ++ t)))
    case atStart => exact ⟨n, D, g3, [], rfl, a1, a2, a3, a4, by simpa using a2, rfl, hz, HC3.out, World.ownsRow_nil _ _ _ _, HB3.out, fun t h => h⟩
    case round =>
      obtain ⟨a, b, gr, pre, hgk, b1, b2, c1, c2, hpl, rfl, hgr, hce, hown, hbl, hfr⟩ := hrel
      have HGK := Lib.hid hgk
      have HFR := Lib.hid hfr
      have r1 := Int.emod_nonneg a (show b ≠ 0 by omega)
      have r2 := Int.emod_lt_of_pos a (show 0 < b by omega)
      obtain ⟨q1, q2⟩ := div_bd (n := a) (d := b) (B := 1000000000) b1 c1 c2 (by omega)
      have hfl := fun W => HFL.out a b W (by omega) (by omega) b1 (by omega)
      have hf0 : a % b = 0 → Cf.fr n D (pre ++ [a / b]) := fun h0 => HFR.out [a / b] (by unfold Cf.fr; exact ⟨rfl, .inl ⟨h0, rfl⟩⟩)
      have hf1 : a % b ≠ 0 → ∀ t, Cf.fr b (a % b) t → Cf.fr n D ((pre ++ [a / b]) ++ t) := fun h0 t ht => by
        rw [List.append_assoc]
        refine HFR.out _ ?_
        show Cf.fr a b (a / b :: t)
        unfold Cf.fr
        exact ⟨rfl, .inr ⟨h0, ht⟩⟩
      generalize a / b = q at *
      generalize a % b = r at *
      have HF0 := Lib.hid hf0
      have HF1 := Lib.hid hf1
      have HFL2 := Lib.hid hfl
      obtain ⟨e1, e2, e3⟩ := hce.facts
      clear hgk hfr hf0 hf1 hfl
      by_cases hr : r = 0
      · subst hr
        go_wp2_with (first
          | (go_at_call 96; refine (HFL2.out _).mono ?_; rintro e w4 ⟨rfl, hx4⟩; have hb4 := bext hbl hx4 (by omega); have hown4 := own_ext hown hx4; have hz4 := hb4.size)
          | (at_builtin; refine wpList_push2 w4 rfl _ _ 36 rfl w.heap.size 3 (.int .i64 0) 8 Try.underlying36 info_int rfl hown4 (by rfl) (by rfl) (by rfl) (by unfold maxLen; omega) (by omega) hz4 ?_; intro v5 w5 hown5 hb5 hk5 _; have hce5 := (hk5 gr (by have := hx4.size; omega) (own_ne hown4 (hce.ext hx4) (by decide))).trans (hce.ext hx4); obtain ⟨e1, e2, e3⟩ := Ce.facts hce5))
        rw [show ints pre ++ [Value.int .i64 q] = ints (pre ++ [q]) by rw [ints_append]; rfl, show pre.length + 1 = (pre ++ [q]).length by simp] at hown5
        obtain ⟨A, cap, rfl, l1, l2, l3⟩ := own_isl hown5
        go_ret2
        exact ⟨A, cap, pre ++ [q], 0, rfl, l1, l2, l3, .inr ⟨HVL.out, HF0.out (by trivial), rfl⟩, hb4.trans hb5⟩
      · go_wp2_with (first
          | (go_at_call 96; refine (HFL2.out _).mono ?_; rintro e w4 ⟨rfl, hx4⟩; have hb4 := bext hbl hx4 (by omega); have hown4 := own_ext hown hx4; have hz4 := hb4.size)
          | (at_builtin; refine wpList_push2 w4 rfl _ _ 36 rfl w.heap.size 3 (.int .i64 0) 8 Try.underlying36 info_int rfl hown4 (by rfl) (by rfl) (by rfl) (by unfold maxLen; omega) (by omega) hz4 ?_; intro v5 w5 hown5 hb5 hk5 _; have hce5 := (hk5 gr (by have := hx4.size; omega) (own_ne hown4 (hce.ext hx4) (by decide))).trans (hce.ext hx4); obtain ⟨e1, e2, e3⟩ := Ce.facts hce5))
        rw [show ints pre ++ [Value.int .i64 q] = ints (pre ++ [q]) by rw [ints_append]; rfl, show pre.length + 1 = (pre ++ [q]).length by simp] at hown5
        have hb6 : Below w.heap.size w (((w5.setCell ⟨gr, 0, none⟩ (.int .i64 b)).setCell ⟨gr, 1, none⟩ (.int .i64 r)).alloc (.cells #[.int .i64 b, .int .i64 r] 76)) :=
          (below2 (hb4.trans hb5) hgr _ _).alloc (by have := (hb4.trans hb5).size; simpa using this) _
        have own6 : (((w5.setCell ⟨gr, 0, none⟩ (.int .i64 b)).setCell ⟨gr, 1, none⟩ (.int .i64 r)).alloc (.cells #[.int .i64 b, .int .i64 r] 76)).ownsRow w.heap.size 3 1 v5 (pre ++ [q]).length (ints (pre ++ [q])) :=
          (own_far2 hown5 hce5 (by decide) _ _).alloc _
        have hce6 := Ce.new (T := 76) ((w5.setCell ⟨gr, 0, none⟩ (.int .i64 b)).setCell ⟨gr, 1, none⟩ (.int .i64 r)) (.int .i64 b) (.int .i64 r)
        have hz5 : w.heap.size ≤ w5.heap.size := (hb4.trans hb5).size
        go_roundg r.toNat
        case measure => have := HGK.out; omega
        case rel => exact ⟨b, r, w5.heap.size, pre ++ [q], rfl, by omega, by omega, by omega, b2, by simp; omega, rfl, hz5, by simpa using hce6, own6, hb6, HF1.out hr⟩
end Go.Proofs.Ythkoblnfeebafaa
