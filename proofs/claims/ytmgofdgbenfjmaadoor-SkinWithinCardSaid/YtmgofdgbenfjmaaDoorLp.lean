/- The program's Largest walked. Conditions: each string's length is an int. -/
import Derived.Test.YtmgofdgbenfjmaaDoorLg
import Derived.Test.YtmgofdgbenfjmaaDoorMq
namespace Go.Proofs.YtmgofdgbenfjmaaDoor
open Go.RowKit

/-- usable, and a square where asked -/
def UsR (us : Int × Int → Bool) (sq : Bool) (r : Rn) : Prop := 1 ≤ r.a ∧ 1 ≤ r.b ∧ Fu us r.x r.y r.a r.b ∧ (sq = true → r.a = r.b)
def BestR (us : Int × Int → Bool) (sq : Bool) (m : Rn) : Prop := UsR us sq m ∧ ∀ s, UsR us sq s → ¬ btr s m
theorem BestR.uniq {us : Int × Int → Bool} {sq : Bool} {m m' : Rn} (h : BestR us sq m) (h' : BestR us sq m') : m = m' := btr_tot (h'.2 m h.1) (h.2 m' h'.1) h.1.1 |> fun e => e
/-- the best of the greatest is the best of all -/
theorem best_all {us : Int × Int → Bool} {n k : Nat} (hi : Inn us n k) {l : List Rn} (hl : ∀ r, r ∈ l ↔ Mx us r) {m : Rn} (hm : m ∈ l) (hmb : ∀ s ∈ l, ¬ btr s m) : BestR us false m := by
  have mm := (hl m).1 hm
  refine ⟨⟨mm.1, mm.2.1, mm.2.2.1, fun h => by cases h⟩, fun s hs hbt => ?_⟩
  obtain ⟨t, t1, t2, t3, t4, t5, t6, t7⟩ := within' hi s hs.1 hs.2.1 hs.2.2.1
  have ht := hmb t ((hl t).2 t1)
  by_cases he : s.a = t.a ∧ s.b = t.b
  · have e : t = s := Rn.ext' (by omega) (by omega) he.1.symm he.2.symm
    rw [e] at ht; exact ht hbt
  · have := area_lt t6 t7 hs.1 hs.2.1 he
    refine ht (.inl ?_)
    unfold btr at hbt
    omega
/-- what Largest and Square answer -/
def RetLg (w : World) (l : List ByteArray) (g : Int) (sq : Bool) (e : Ending) (w' : World) : Prop :=
  Below w.heap.size w w' ∧ ((¬ PsOk l g ∧ e = .returned (.tuple #[.agg #[.int .i64 0, .int .i64 0, .int .i64 0, .int .i64 0], .int .i64 2])) ∨
    (PsOk l g ∧ (∀ s, ¬ UsR (usb l g) sq s) ∧ e = .returned (.tuple #[.agg #[.int .i64 0, .int .i64 0, .int .i64 0, .int .i64 0], .int .i64 7])) ∨
    (PsOk l g ∧ ∃ m : Rn, BestR (usb l g) sq m ∧ e = .returned (.tuple #[.agg #[.int .i64 (m.x : Int), .int .i64 (m.y : Int), .int .i64 (m.a : Int), .int .i64 (m.b : Int)], .int .i64 0])))
set_option maxRecDepth 100000 in
set_option maxHeartbeats 4000000 in
theorem largest_any (A : Option Addr) (cap : Nat) (l : List ByteArray) (g : Int) (w : World) (hc : l.length ≤ cap) (hcm : cap ≤ 9223372036854775807) (h : TSl w A l) (hz : TSz l) :
    Calls Tryd.prog 18 #[.slice A l.length cap, .int .i64 g] w (RetLg w l g false) := by
  have hx0 := ext_alloc w (.cells #[.int .i64 0, .int .i64 0, .int .i64 0, .int .i64 0] 31)
  have HX0 := Lib.hid hx0
  have HZ := Lib.hid (Bk.new 31 w #[.int .i64 0, .int .i64 0, .int .i64 0, .int .i64 0])
  have HNT := Lib.hid (newtable_any A cap l g _ hc hcm (h.ext hx0) hz)
  clear h hz hx0
  by_cases hps : PsOk l g
  · have HPS := Lib.hid hps
    have HNT := Lib.hid (HNT.out.mono (R' := fun e w' => Below (w.alloc (.cells #[.int .i64 0, .int .i64 0, .int .i64 0, .int .i64 0] 31)).heap.size (w.alloc (.cells #[.int .i64 0, .int .i64 0, .int .i64 0, .int .i64 0] 31)) w' ∧ ∃ base q, e = .returned (.tuple #[.pointer (some ⟨q, 0, none⟩), .int .i64 0]) ∧ TbS (wid l) l.length l g base q l.length w') (fun e w' hr => ⟨hr.1, hr.2.elim (fun h => absurd hps h.1) (fun h => by obtain ⟨_, q, h1, h2⟩ := h; exact ⟨_, q, h1, h2⟩)⟩))
    have HMX := Lib.hid (fun base q W k => tmaximal_any l g base q W k hps.2.1 hps.1)
    have HINN := Lib.hid (usb_inn (l := l) hps.2.1)
    have hn48 := hps.1.2.2.2.1
    have hh48 := hps.1.2.1
    clear hps
    go_enter Tryd.func18, Tryd.ntmps18
    go_upto_region 5 with (first
      | (go_at_call 53; refine (HNT.out).mono ?_; rintro e w1 ⟨hx1, base, q, rfl, ht⟩; have HX1 := Lib.hid hx1; clear hx1)
      | (go_at_call 54; refine (HMX.out _ _ _ ht).mono ?_; rintro e w2 ⟨hx2, A2, cap2, ms, rfl, k1, k2, k3, k4, k5, k6⟩; have HX2 := Lib.hid hx2; clear hx2))
    have HB2 := Lib.hid (bext (bext HX0.out HX1.out HX0.out.size) HX2.out (bext HX0.out HX1.out HX0.out.size).size)
    have HZ2 := Lib.hid ((HZ.out.ext HX1.out).ext HX2.out)
    obtain ⟨z1, z2, z3⟩ := HZ2.out.facts
    by_cases hm0 : ms = []
    · have HNO := Lib.hid (show ∀ s, ¬ UsR (usb l g) false s from fun s hs => by
        obtain ⟨t, t1, _⟩ := within' HINN.out s hs.1 hs.2.1 hs.2.2.1
        have := (k6 t).2 t1
        rw [hm0] at this; simp at this)
      subst hm0
      clear k6 k5 k4
      go_wp2
      have p1 := (four_set HZ2.out (.int .i64 0) (.int .i64 0) (.int .i64 0) (.int .i64 0)).facts.1
      refine bodyPost_ret (v := .tuple #[.agg #[.int .i64 0, .int .i64 0, .int .i64 0, .int .i64 0], .int .i64 7]) (by simp [results, Tryd.results18, go_sem, p1]) rfl ?_
      exact ⟨four_b HB2.out (Nat.le_refl _) _ _ _ _, .inr (.inl ⟨HPS.out, HNO.out, rfl⟩)⟩
    · have hml : ¬ (ms.length : Int) = 0 := by
        have : ms.length ≠ 0 := fun e => hm0 (List.eq_nil_of_length_eq_zero e)
        omega
      have hml2 : 1 ≤ ms.length := by omega
      have HMF := Lib.hid (minfunc_any A2 cap2 ms w2 k3 hm0 (fun r hr => by
        have h1 := (k6 r).1 hr
        have h2 := Fu.inn HINN.out h1.1 h1.2.1 h1.2.2.1
        unfold SmR; omega) k4)
      have HBA := Lib.hid (fun m (hm : m ∈ ms) hmb => best_all HINN.out k6 hm hmb)
      clear k6 k5 k4 hm0
      go_wp2_with (go_at_call 57; refine (HMF.out).mono ?_; rintro e w3 ⟨hx3, m, rfl, hm1, hm2⟩; have HX3 := Lib.hid hx3; have HZ3 := Lib.hid (HZ2.out.ext hx3); clear hx3 z1 z2 z3; obtain ⟨z1, z2, z3⟩ := HZ3.out.facts)
      have p1 := (four_set HZ3.out (.int .i64 (m.x : Int)) (.int .i64 (m.y : Int)) (.int .i64 (m.a : Int)) (.int .i64 (m.b : Int))).facts.1
      refine bodyPost_ret (v := .tuple #[.agg #[.int .i64 (m.x : Int), .int .i64 (m.y : Int), .int .i64 (m.a : Int), .int .i64 (m.b : Int)], .int .i64 0]) (by simp [results, Tryd.results18, go_sem, p1]) rfl ?_
      exact ⟨four_b (bext HB2.out HX3.out HB2.out.size) (Nat.le_refl _) _ _ _ _, .inr (.inr ⟨HPS.out, m, HBA.out m hm1 hm2, rfl⟩)⟩
  · have HPS := Lib.hid hps
    have HNT := Lib.hid (HNT.out.mono (R' := fun e w' => Below (w.alloc (.cells #[.int .i64 0, .int .i64 0, .int .i64 0, .int .i64 0] 31)).heap.size (w.alloc (.cells #[.int .i64 0, .int .i64 0, .int .i64 0, .int .i64 0] 31)) w' ∧ e = .returned (.tuple #[.pointer none, .int .i64 2])) (fun e w' hr => ⟨hr.1, hr.2.elim (fun h => h.2) (fun h => absurd h.1 hps)⟩))
    clear hps
    go_enter Tryd.func18, Tryd.ntmps18
    go_wp2_with (go_at_call 53; refine (HNT.out).mono ?_; rintro e w1 ⟨hx1, rfl⟩; have HB1 := Lib.hid (bext HX0.out hx1 HX0.out.size); have HZ1 := Lib.hid (HZ.out.ext hx1); clear hx1; obtain ⟨z1, z2, z3⟩ := HZ1.out.facts)
    have p1 := (four_set HZ1.out (.int .i64 0) (.int .i64 0) (.int .i64 0) (.int .i64 0)).facts.1
    refine bodyPost_ret (v := .tuple #[.agg #[.int .i64 0, .int .i64 0, .int .i64 0, .int .i64 0], .int .i64 2]) (by simp [results, Tryd.results18, go_sem, p1]) rfl ?_
    exact ⟨four_b HB1.out (Nat.le_refl _) _ _ _ _, .inl ⟨HPS.out, rfl⟩⟩
end Go.Proofs.YtmgofdgbenfjmaaDoor
