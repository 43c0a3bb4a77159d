/- runs walked, the program's. Conditions: a valid graph. -/
import Derived.Test.YtbhjhajnhpohlaaRnb
import Derived.Laws.EntriesVeiled
namespace Go.Proofs.Ytbhjhajnhpohlaa
open Go.RowKit Go.Shelf
attribute [local go_sem] Oper.semAt_some

/-- what a round over the classes holds: the thread, the closure, the classes, the odd joints -/
def JbS (l : List Sm) (n : Nat) (t : Nat) (p4 p6 bc b7 : Nat) (v7 : Value) (w : World) : Prop :=
  Bk 3 w p4 #[.int .i64 (t : Int)] ∧ Bk 110 w (p4 + 1) #[.func (.func 83) #[] #[.pointer (some ⟨p4, 0, none⟩)]] ∧ Bk 35 w p6 #[.slice (some ⟨bc, 0, none⟩) n n] ∧ Ow 3 bc n (kls l t) w ∧ Vi b7 w v7 (oddN (chT t) l 16)
theorem JbS.ext {l : List Sm} {n t p4 p6 bc b7 : Nat} {v7 : Value} {w w' : World} (h : JbS l n t p4 p6 bc b7 v7 w) (hb : Below w.heap.size w w') : JbS l n t p4 p6 bc b7 v7 w' :=
  ⟨h.1.ext hb, h.2.1.ext hb, h.2.2.1.ext hb, h.2.2.2.1.ext hb, own_ext h.2.2.2.2 hb⟩
theorem JbS.keep {l : List Sm} {n t p4 p6 bc b7 : Nat} {v7 : Value} {w w' : World} {base m : Nat} {v : Value} {xs : List Value} (h : JbS l n t p4 p6 bc b7 v7 w) (hr : w.ownsRow base 57 1 v m xs) (hk : ∀ k, k < w.heap.size → some k ≠ v.ownBlock → w'.heap[k]? = w.heap[k]?) : JbS l n t p4 p6 bc b7 v7 w' :=
  ⟨(hk _ h.1.lt (own_ne hr h.1 (by decide))).trans h.1, (hk _ h.2.1.lt (own_ne hr h.2.1 (by decide))).trans h.2.1, (hk _ h.2.2.1.lt (own_ne hr h.2.2.1 (by decide))).trans h.2.2.1, (hk _ h.2.2.2.1.lt (own_ne hr h.2.2.2.1 (by decide))).trans h.2.2.2.1, own_keep h.2.2.2.2 fun k e => hk k (own_lt h.2.2.2.2 k e).2 (own_ne2 hr h.2.2.2.2 (by decide) k e)⟩
/-- the class and the lines of a round -/
def LnS (wj : World) (j : Nat) (v : Value) (L : List Ln) (wr : World) : Prop :=
  Below wj.heap.size wj wr ∧ Bk 3 wr wj.heap.size #[.int .i64 (j : Int)] ∧ Bk 115 wr (wj.heap.size + 1) #[v] ∧ Vl (wj.heap.size + 2) wr v L
theorem LnS.ext {wj : World} {j : Nat} {v : Value} {L : List Ln} {wr w' : World} (h : LnS wj j v L wr) (hb : Below wr.heap.size wr w') : LnS wj j v L w' := ⟨bext h.1 hb h.1.size, h.2.1.ext hb, h.2.2.1.ext hb, own_ext h.2.2.2 hb⟩
theorem LnS.push {wj : World} {j : Nat} {v v' : Value} {L L' : List Ln} {wr w5 : World} (h : LnS wj j v L wr) (hv : Vl (wj.heap.size + 2) w5 v' L') (hb : Below (wj.heap.size + 2) wr w5) : LnS wj j v' L' (w5.setCell ⟨wj.heap.size + 1, 0, none⟩ v') := by
  have h2 := h.2.2.1.below hb (by omega)
  exact ⟨(h.1.trans (hb.mono (by omega))).setCell (p := ⟨wj.heap.size + 1, 0, none⟩) (by show wj.heap.size ≤ wj.heap.size + 1; omega) _, (h.2.1.below hb (by omega)).set_ne (by omega) _, h2.set 0 v', own_set hv (own_ne hv h2 (by decide))⟩
theorem LnS.start (wj : World) (j : Nat) : LnS wj j (.slice none 0 0) [] ((wj.alloc (.cells #[.int .i64 (j : Int)] 3)).alloc (.cells #[.slice none 0 0] 115)) := by
  have h2 := Bk.new 115 (wj.alloc (.cells #[.int .i64 (j : Int)] 3)) #[.slice none 0 0]
  rw [World.size_alloc] at h2
  exact ⟨((Below.refl _ _).alloc (Nat.le_refl _) _).alloc (by simp) _, (Bk.new _ wj _).alloc _, h2, own_nil _ _ _ _⟩
theorem Bk.facts1 {T : TypeId} {w : World} {b : Nat} {v : Value} (h : Bk T w b #[v]) : w.cell? ⟨b, 0, none⟩ = some v ∧ w.frozen? ⟨b, 0, none⟩ = false ∧ b < w.heap.size := ⟨h.cell 0, h.frozen 0, h.lt⟩
theorem Bk.four {T : TypeId} {w : World} {b : Nat} {v1 v2 v3 v4 : Value} (h : Bk T w b #[v1, v2, v3, v4]) : w.cell? ⟨b, 0, none⟩ = some v1 ∧ w.cell? ⟨b, 1, none⟩ = some v2 ∧ b < w.heap.size ∧ True := ⟨h.cell 0, h.cell 1, h.lt, trivial⟩
/-- the frame of runs: the slots from 3 on as they are -/
def frR (n : Nat) (A : Option Addr) (l : List Sm) (cap : Nat) (w : World) (u : Nat → Value) (ds : List Deferred) : Act := { tmps := #[(.agg #[.int .i64 (n : Int), .slice A l.length cap]), (.pointer (some ⟨w.heap.size, 0, none⟩)), (.slice none 0 0), (u 3), (u 4), (u 5), (u 6), (u 7), (u 8), (u 9), (u 10), (u 11), (u 12), (u 13), (u 14), (u 15), (u 16), (u 17), (u 18), (u 19), (u 20), (u 21), (u 22), (u 23), (u 24), (u 25), (u 26), (u 27), (u 28), (u 29), (u 30), (u 31), (u 32), (u 33), (u 34), (u 35), (u 36), (u 37), (u 38), (u 39), (u 40), (u 41), (u 42), (u 43), (u 44), (u 45), (u 46), (u 47), (u 48), (u 49), (u 50), (u 51), (u 52), (u 53), (u 54), (u 55), (u 56), (u 57), (u 58), (u 59), (u 60), (u 61), (u 62), (u 63), (u 64), (u 65), (u 66), (u 67), (u 68), (u 69), (u 70), (u 71), (u 72), (u 73), (u 74), (u 75), (u 76), (u 77), (u 78), (u 79), (u 80), (u 81), (u 82), (u 83), (u 84), (u 85), (u 86), (u 87), (u 88), (u 89), (u 90)], defers := ds }
/-- left without a panic -/
def NoP (Q : Exit → Act → World → Prop) : Exit → Act → World → Prop
  | .normal, a, w => Q .normal a w
  | .ret, a, w => Q .ret a w
  | _, _, _ => False
theorem NoP.to {P : Program} {c : Code} {Q : Exit → Act → World → Prop} {a : Act} {w : World} (h : c.wp P (NoP Q) a w) : c.wp P Q a w :=
  Go.wp_mono h fun e a w h => by
    cases e <;> first
      | exact h
      | exact h.elim
theorem fr_self {n : Nat} {A : Option Addr} {l : List Sm} {cap : Nat} {w : World} (a' : Act) (h : a' = frR n A l cap w (fun i => a'.tmps.getD i undef) a'.defers) : a' = frR n A l cap w (fun i => a'.tmps.getD i undef) a'.defers := h
theorem hand_fr {rel : (Nat → Value) → List Deferred → World → Prop} {FR : (Nat → Value) → List Deferred → Act} {a' : Act} {w' : World} (h : a' = FR (fun i => a'.tmps.getD i undef) a'.defers) (hr : rel (fun i => a'.tmps.getD i undef) a'.defers w') : ∃ u ds, rel u ds w' ∧ a' = FR u ds := ⟨_, _, hr, h⟩
set_option maxRecDepth 100000 in
set_option maxHeartbeats 8000000 in
theorem runs7_any (n : Nat) (A : Option Addr) (cap : Nat) (l : List Sm) (w : World) (hok : GOk n l) (hc : l.length ≤ cap) (hcm : cap ≤ 9223372036854775807) (h : SSl w A l) :
    Calls Try.prog 71 #[.agg #[.int .i64 (n : Int), .slice A l.length cap]] w fun e w' => ∃ v R, e = .returned v ∧ Vr 57 72 w.heap.size w' v R ∧ RunsI l (fun _ => True) (fun t => if 0 ≤ t ∧ t < 8 then fwT l t n else 0) R ∧ Below w.heap.size w w' := by
  have H := Lib.hid h
  have HOK := Lib.hid hok
  have HST := Lib.hid (show RuS w n A l.length cap l (fun s => s.t < ((0 : Nat) : Int)) (cT l n 0) (.slice none 0 0) [] (w.alloc (.cells #[.int .i64 (n : Int), .slice A l.length cap] 30)) from
    ⟨[], (Below.refl _ _).alloc (Nat.le_refl _) _, Bk.new _ w _, Vr.nil _ _ _ _, (RunsI.nil l).congr (fun s hs => by have := hok.2.2.2 s hs; unfold SmOk at this; exact ⟨fun h => h.elim, fun h => by omega⟩) (fun x => by unfold cT; rw [if_neg (by omega)]), by simp, fun D hD => by cases hD⟩)
  clear h hok
  refine (callsIn_wide (n := 9)).1 ?_
  refine callsIn_of_wp_marks Try.func71 rfl trivial ?_ rfl
  refine wpIn_wide.2 (NoP.to ?_)
  simp only [Try.ntmps71, List.size_toArray, List.length_cons, List.length_nil, Nat.reduceAdd, Nat.reduceSub, Array.replicate_succ, Array.replicate_zero, List.push_toArray, List.append_toArray, List.nil_append, List.cons_append]
  go_wp2_with (fail)
  refine wp_loop_ghost_k (fun (k' : Nat) (a' : Act) (w' : World) => ∃ (u : Nat → Value) (ds : List Deferred), (∃ (t : Nat) (Ds : List Nat), u 14 = .int .i64 (t : Int) ∧ t ≤ 8 ∧ k' = 8 - t ∧ ds = Ds.map mkD ∧ RuS w n A l.length cap l (fun s => s.t < t) (cT l n t) (u 3) Ds w') ∧ a' = frR n A l cap w u ds) 8 ?_ ?_
  · exact hand_fr (FR := frR n A l cap w) (rel := fun u ds w' => ∃ (t : Nat) (Ds : List Nat), u 14 = .int .i64 (t : Int) ∧ t ≤ 8 ∧ 8 = 8 - t ∧ ds = Ds.map mkD ∧ RuS w n A l.length cap l (fun s => s.t < t) (cT l n t) (u 3) Ds w') rfl ⟨0, [], rfl, by omega, by omega, rfl, HST.out⟩
  · intro gk _ wr hinv
    obtain ⟨u, ds, hrel, ha⟩ := hinv
    subst ha
    obtain ⟨t, Ds, ht14, ht8, hgk, rfl, hru⟩ := hrel
    intro _ _ _ _
    unfold frR
    rw [ht14]
    clear ht14
    obtain ⟨u3, hu3⟩ : ∃ u3, u3 = u 3 := ⟨_, rfl⟩
    rw [← hu3] at hru ⊢
    clear hu3
    have HG := Lib.hid hgk
    have HRU := Lib.hid hru
    obtain ⟨R, hbw, hgr, hvr, hri, hds⟩ := hru
    have HRI := Lib.hid hri
    clear hgk hri hds HST
    by_cases hlt : t < 8
    · have hb1 := ext_trans (ext_alloc wr (.cells #[.int .i64 (t : Int)] 3)) (ext_alloc (wr.alloc (.cells #[.int .i64 (t : Int)] 3)) (.cells #[.func (.func 83) #[] #[.pointer (some ⟨wr.heap.size, 0, none⟩)]] 110))
      have HB1 := Lib.hid hb1
      have hk4 : Bk 3 ((wr.alloc (.cells #[.int .i64 (t : Int)] 3)).alloc (.cells #[.func (.func 83) #[] #[.pointer (some ⟨wr.heap.size, 0, none⟩)]] 110)) wr.heap.size #[.int .i64 (t : Int)] := (Bk.new _ wr _).alloc _
      have hk5 : Bk 110 ((wr.alloc (.cells #[.int .i64 (t : Int)] 3)).alloc (.cells #[.func (.func 83) #[] #[.pointer (some ⟨wr.heap.size, 0, none⟩)]] 110)) (wr.heap.size + 1) #[.func (.func 83) #[] #[.pointer (some ⟨wr.heap.size, 0, none⟩)]] := by
        have := Bk.new 110 (wr.alloc (.cells #[.int .i64 (t : Int)] 3)) #[.func (.func 83) #[] #[.pointer (some ⟨wr.heap.size, 0, none⟩)]]
        rw [World.size_alloc] at this
        exact this
      have HK4 := Lib.hid hk4
      have HK5 := Lib.hid hk5
      have HCL := Lib.hid (fun W (h : SSl W A l) (h2 : W.cell? ⟨wr.heap.size + 1, 0, none⟩ = some (.func (.func 83) #[] #[.pointer (some ⟨wr.heap.size, 0, none⟩)])) (h3 : W.cell? ⟨wr.heap.size, 0, none⟩ = some (.int .i64 (t : Int))) => classes_any n A cap l _ _ _ W HOK.out hc hcm h (chk_runs2 l W wr.heap.size (wr.heap.size + 1) t (by omega) h2 h3))
      have HOD := Lib.hid (fun W (h : SSl W A l) (h3 : W.cell? ⟨wr.heap.size, 0, none⟩ = some (.int .i64 (t : Int))) => odd_any n A cap l _ _ _ W HOK.out hc hcm h (chs_runs1 l W wr.heap.size t h3))
      have HG1 := Lib.hid (hgr.ext hb1)
      obtain ⟨g1, g2, g3⟩ := HG1.out.facts
      obtain ⟨q1, q2, q3⟩ := hk5.facts
      clear hgr hvr hbw hb1 hk4 hk5
      go_wp2_with (first
        | (go_at_call 74; refine (HCL.out _ (H.out.ext (bext HRU.out.below HB1.out HRU.out.below.size)) (HK5.out.cell 0) (HK4.out.cell 0)).mono ?_; rintro e w1 ⟨bc, rfl, hO, hbc, hx1⟩; have HX1 := Lib.hid hx1; have HO1 := Lib.hid hO; have HBC := Lib.hid hbc; clear hx1 hO hbc; obtain ⟨f1, f2, f3⟩ := (HG1.out.ext HX1.out).facts; obtain ⟨r1, r2, r3⟩ := (HK5.out.ext HX1.out).facts; have HX2 := Lib.hid (ext_alloc w1 (.cells #[.slice (some ⟨bc, 0, none⟩) n n] 35)); have HK6 := Lib.hid (Bk.new 35 w1 #[.slice (some ⟨bc, 0, none⟩) n n]))
        | (go_at_call 58; refine (HOD.out _ (H.out.ext (bext (bext (bext HRU.out.below HB1.out HRU.out.below.size) HX1.out (bext HRU.out.below HB1.out HRU.out.below.size).size) HX2.out (Nat.le_trans (bext HRU.out.below HB1.out HRU.out.below.size).size HX1.out.size))) (((HK4.out.ext HX1.out).ext HX2.out).cell 0)).mono ?_; rintro e w2 ⟨v7, rfl, hv7, hx3⟩; have HX3 := Lib.hid hx3; have HV7 := Lib.hid hv7; clear hv7 hx3; obtain ⟨e1, e2, e3⟩ := (((HG1.out.ext HX1.out).ext HX2.out).ext HX3.out).facts))
      have HW2 := Lib.hid (bext (bext HB1.out HX1.out HB1.out.size) (ext_trans HX2.out HX3.out) (Nat.le_trans HB1.out.size HX1.out.size))
      have HJB := Lib.hid (show JbS l n t wr.heap.size w1.heap.size bc (w1.heap.size + 1) v7 w2 from ⟨((HK4.out.ext HX1.out).ext HX2.out).ext HX3.out, ((HK5.out.ext HX1.out).ext HX2.out).ext HX3.out, HK6.out.ext HX3.out, (HO1.out.ext HX2.out).ext HX3.out, by have := HV7.out; simpa using this⟩)
      have HRU2 := Lib.hid (show RuS w n A l.length cap l (fun s => s.t < t ∨ (s.t = t ∧ kls l t s.a.toNat < ((0 : Nat) : Int))) (cJ l n t 0) u3 Ds w2 from by
        obtain ⟨R, h1, h2, h3, h4, h5⟩ := HRU.out.ext HW2.out
        refine ⟨R, h1, h2, h3, h4.congr (fun s hs => ?_) (fun x => by unfold cJ; simp [fwT]), h5⟩
        have hso := HOK.out.2.2.2 s hs
        unfold SmOk at hso
        have := (kls_inv (n := n) (t : Int) HOK.out.2.2.2).rng s.a.toNat (by omega)
        unfold kls at this ⊢
        omega)
      obtain ⟨wt, hwt⟩ : ∃ wt : World, wt = wr := ⟨_, rfl⟩
      subst hwt
      obtain ⟨p4, hp4⟩ : ∃ p4, p4 = wt.heap.size := ⟨_, rfl⟩
      obtain ⟨p6, hp6⟩ : ∃ p6, p6 = w1.heap.size := ⟨_, rfl⟩
      rw [← hp4, ← hp6] at HJB ⊢
      clear HW2 HK4 HK5 HK6 HX1 HX2 HX3 HO1 HV7 HCL HOD HG1 HB1 HBC hp4 hp6
      refine wp_loop_ghost_k (fun (k' : Nat) (a' : Act) (w' : World) => ∃ (u : Nat → Value) (ds : List Deferred), (∃ (j : Nat) (Ds : List Nat), u 4 = .pointer (some ⟨p4, 0, none⟩) ∧ u 5 = .pointer (some ⟨p4 + 1, 0, none⟩) ∧ u 6 = .pointer (some ⟨p6, 0, none⟩) ∧ u 7 = v7 ∧ u 14 = .int .i64 (t : Int) ∧ u 25 = .int .i64 (n : Int) ∧ u 26 = .int .i64 (j : Int) ∧ j ≤ n ∧ k' = n - j ∧ ds = Ds.map mkD ∧ RuS w n A l.length cap l (fun s => s.t < t ∨ (s.t = t ∧ kls l t s.a.toNat < (j : Int))) (cJ l n t j) (u 3) Ds w' ∧ JbS l n t p4 p6 bc (p6 + 1) v7 w') ∧ a' = frR n A l cap w u ds) n ?_ ?_
      · exact hand_fr (FR := frR n A l cap w) (rel := fun u ds w' => ∃ (j : Nat) (Ds : List Nat), u 4 = .pointer (some ⟨p4, 0, none⟩) ∧ u 5 = .pointer (some ⟨p4 + 1, 0, none⟩) ∧ u 6 = .pointer (some ⟨p6, 0, none⟩) ∧ u 7 = v7 ∧ u 14 = .int .i64 (t : Int) ∧ u 25 = .int .i64 (n : Int) ∧ u 26 = .int .i64 (j : Int) ∧ j ≤ n ∧ n = n - j ∧ ds = Ds.map mkD ∧ RuS w n A l.length cap l (fun s => s.t < t ∨ (s.t = t ∧ kls l t s.a.toNat < (j : Int))) (cJ l n t j) (u 3) Ds w' ∧ JbS l n t p4 p6 bc (p6 + 1) v7 w') rfl ⟨0, Ds, rfl, rfl, rfl, rfl, rfl, rfl, rfl, by omega, by omega, rfl, HRU2.out, HJB.out⟩
      · intro gj _ wj hinv
        obtain ⟨u, ds, hrel, ha⟩ := hinv
        subst ha
        obtain ⟨j, Ds, h4, h5, h6, h7, h14, h25, h26, hjn, hgj, rfl, hrj, hjb⟩ := hrel
        intro _ _ _ _
        unfold frR
        rw [h4, h5, h6, h7, h14, h25, h26]
        clear h4 h5 h6 h7 h14 h25 h26
        obtain ⟨u3, hu3⟩ : ∃ u3, u3 = u 3 := ⟨_, rfl⟩
        rw [← hu3] at hrj ⊢
        clear hu3
        have HGJ := Lib.hid hgj
        have HRJ := Lib.hid hrj
        have HJB2 := Lib.hid hjb
        have hbj := hrj.below
        have HBJ := Lib.hid hbj
        clear hgj hrj HRU2 HJB
        by_cases hjlt : j < n
        · have HLS := Lib.hid (LnS.start wj j)
          have l64 := HOK.out.2.2.1
          have n1 := HOK.out.1
          have n2 := HOK.out.2.1
          have hen : ∀ args W, (callFunc 83 args).run Try.prog W = .ok (.enter 83 args) W := enters83
          obtain ⟨f1, f2, f3⟩ : (wj.cell? ⟨w.heap.size, 0, none⟩ = some (.int .i64 (n : Int)) ∧ wj.cell? ⟨w.heap.size, 1, none⟩ = some (.slice A l.length cap) ∧ w.heap.size < wj.heap.size) := by
            obtain ⟨R, h1, h2, _⟩ := HRJ.out
            exact ⟨h2.cell 0, h2.cell 1, h2.lt⟩
          clear hjb
          go_wp2_with (fail)
          go_loopg [32] l.length (fun g z wr => ∃ (k : Nat) (v : Value), z = .int .i64 (k : Int) ∧ k ≤ l.length ∧ g = l.length - k ∧ LnS wj j v (lnsC (chJ l t j) l k) wr)
          case atStart => exact ⟨0, _, rfl, by omega, by omega, HLS.out⟩
          case round =>
            obtain ⟨k, v, rfl, hk, hg, hls⟩ := hrel
            have HG3 := Lib.hid hg
            have HL3 := Lib.hid hls
            obtain ⟨A9, c9, hv9, -, -, -⟩ := hls.2.2.2.lsl
            subst hv9
            have hbls := hls.1
            clear hg hls HLS
            by_cases hkl : k < l.length
            · rcases H.out.ext (bext HBJ.out hbls HBJ.out.size) with hf | ⟨b, off, rfl, hblt, hcl⟩
              · rw [hf] at hkl; simp at hkl
              obtain ⟨c1, c2, c3, c4⟩ := hcl k hkl
              have hmem : l[k] ∈ l := List.getElem_mem hkl
              have hso := HOK.out.2.2.2 _ hmem
              obtain ⟨s, hs⟩ : ∃ s, s = l[k] := ⟨_, rfl⟩
              rw [← hs] at c1 c2 c3 c4 hmem hso
              have HSK := Lib.hid hs
              have HYES := Lib.hid (fun h => lnsC_yes (ch := chJ l t j) hkl hs h)
              have HNO := Lib.hid (fun h => lnsC_no (ch := chJ l t j) hkl hs h)
              obtain ⟨a, b', m, th⟩ := s
              dsimp only at c1 c2 c3 c4
              obtain ⟨o1, o2, o3, o4, -, -, -, -⟩ := hso
              dsimp only at o1 o2 o3 o4
              obtain ⟨ja, rfl⟩ := Int.eq_ofNat_of_zero_le o1
              obtain ⟨jb, rfl⟩ := Int.eq_ofNat_of_zero_le o3
              clear hs hcl hmem
              go_upto_region 15 with fail
              obtain ⟨W15, hW15⟩ : ∃ W15, wr.alloc (.cells #[.int .i64 (ja : Int), .int .i64 (jb : Int), .int .i64 m, .int .i64 th] 106) = W15 := ⟨_, rfl⟩
              have HX15 := Lib.hid (show Below wr.heap.size wr W15 from by rw [← hW15]; exact ext_alloc _ _)
              have HK11 := Lib.hid (show Bk 106 W15 wr.heap.size #[.int .i64 (ja : Int), .int .i64 (jb : Int), .int .i64 m, .int .i64 th] from by rw [← hW15]; exact Bk.new _ _ _)
              have HL15 := Lib.hid (HL3.out.ext HX15.out)
              have HJ15 := Lib.hid ((HJB2.out.ext hbls).ext HX15.out)
              have hsz15 : W15.heap.size = wr.heap.size + 1 := by rw [← hW15]; simp
              rw [hW15]
              have HW15 := Lib.hid hW15
              clear hW15
              have HF15 := Lib.hid (show ∀ wx, Below W15.heap.size W15 wx → wx.cell? ⟨p4 + 1, 0, none⟩ = some (.func (.func 83) #[] #[.pointer (some ⟨p4, 0, none⟩)]) ∧ wx.cell? ⟨wr.heap.size, 0, none⟩ = some (.int .i64 (ja : Int)) ∧ wx.cell? ⟨wr.heap.size, 1, none⟩ = some (.int .i64 (jb : Int)) ∧ wx.cell? ⟨wr.heap.size, 2, none⟩ = some (.int .i64 m) ∧ wx.cell? ⟨wr.heap.size, 3, none⟩ = some (.int .i64 th) ∧ wx.cell? ⟨p6, 0, none⟩ = some (.slice (some ⟨bc, 0, none⟩) n n) ∧ wx.cell? ⟨bc, ja, none⟩ = some (.int .i64 (kls l t ja)) ∧ wx.cell? ⟨wj.heap.size, 0, none⟩ = some (.int .i64 (j : Int)) from fun wx hb => by
                have h1 := HJ15.out.ext hb
                have h2 := HK11.out.ext hb
                exact ⟨h1.2.1.cell 0, h2.cell 0, h2.cell 1, h2.cell 2, h2.cell 3, h1.2.2.1.cell 0, h1.2.2.2.1.cell (by omega), (HL15.out.ext hb).2.1.cell 0⟩)
              have HC15 := Lib.hid (fun W (hb : Below W15.heap.size W15 W) => runs1_any ⟨ja, jb, m, th⟩ p4 t W ((HJ15.out.ext hb).1.cell 0))
              obtain ⟨kj, hkj⟩ : ∃ kj, kj = kls l t ja := ⟨_, rfl⟩
              rw [← hkj] at HF15
              have HCH := Lib.hid (show chJ l t j ⟨ja, jb, m, th⟩ = (chT t ⟨ja, jb, m, th⟩ && decide (kj = (j : Int))) from by
                unfold chJ chT
                rw [hkj, Int.toNat_natCast])
              have hkr := (kls_inv (n := n) (t : Int) HOK.out.2.2.2).rng ja (by omega)
              have hjn16 : ja < n := by omega
              clear hkj
              go_cut [48] from 37 to 48 (fun z wx => z = .bool (chJ l t j ⟨ja, jb, m, th⟩) ∧ Below W15.heap.size W15 wx)
              case first =>
                cases hct : chT t ⟨ja, jb, m, th⟩
                · rw [hct] at HC15 HCH
                  have HCF := Lib.hid HCH.out
                  clear hct
                  refine wp_region_T (S := fun wx => Below W15.heap.size W15 wx) 11 (by kernel_rfl) (ext_drew _) (fun hHeld => ?_)
                  refine wpAnyT_take (i := 0) (v := ?v11) [3, 2] rfl (by kernel_rfl) (fun _ _ _ h => h) (Or.inl ⟨by rfl, ?hy11⟩) hHeld ?rst11
                  case hy11 => (intro wx hSw; obtain ⟨q1, q2, q3, q4, q5, q6, q7, q8⟩ := HF15.out wx hSw; go_simp; try (with_reducible rfl))
                  try simp only [List.getElem_toArray, List.getElem_cons_zero, Act.put, List.setIfInBounds_toArray, List.set_cons_zero, List.set_cons_succ]
                  refine wpAnyT_take (i := 1) (v := ?v12) [3, 2] rfl (by kernel_rfl) (fun _ _ _ h => h) (Or.inl ⟨by rfl, ?hy12⟩) hHeld ?rst12
                  case hy12 => (intro wx hSw; obtain ⟨q1, q2, q3, q4, q5, q6, q7, q8⟩ := HF15.out wx hSw; go_simp; try (with_reducible rfl))
                  try simp only [List.getElem_toArray, List.getElem_cons_zero, List.getElem_cons_succ, Act.put, List.setIfInBounds_toArray, List.set_cons_zero, List.set_cons_succ]
                  refine wpAnyT_one (i := 2) (by kernel_rfl) rfl (fun K hK => ?_)
                  go_simp
                  refine (HC15.out _ hHeld).mono ?_
                  rintro e w15 ⟨rfl, hx15⟩
                  have B15 := bext hHeld hx15 hHeld.size
                  refine hK.out _ _ (B15) (fun hHeld => ?_)
                  clear hK K
                  try simp only [List.getElem_toArray, List.getElem_cons_zero, List.getElem_cons_succ, Act.put, List.setIfInBounds_toArray, List.set_cons_zero, List.set_cons_succ]
                  refine wpAnyT_take (i := 3) (v := ?v13) [] rfl (by kernel_rfl) (fun _ _ _ h => h) (Or.inl ⟨by rfl, ?hy13⟩) hHeld ?rst13
                  case hy13 => (intro wx hSw; obtain ⟨q1, q2, q3, q4, q5, q6, q7, q8⟩ := HF15.out wx hSw; go_simp; try (with_reducible rfl))
                  try simp only [List.getElem_toArray, List.getElem_cons_zero, List.getElem_cons_succ, Act.put, List.setIfInBounds_toArray, List.set_cons_zero, List.set_cons_succ]
                  refine wpAnyT_take (i := 4) (v := undef) [10, 8, 7] rfl (by kernel_rfl) (fun _ _ _ h => h) (Or.inr ⟨by rfl, rfl⟩) hHeld ?_
                  try simp only [List.getElem_toArray, List.getElem_cons_zero, List.getElem_cons_succ, Act.put, List.setIfInBounds_toArray, List.set_cons_zero, List.set_cons_succ]
                  refine wpAnyT_take (i := 5) (v := undef) [10, 8, 7, 6] rfl (by kernel_rfl) (fun _ _ _ h => h) (Or.inr ⟨by rfl, rfl⟩) hHeld ?_
                  try simp only [List.getElem_toArray, List.getElem_cons_zero, List.getElem_cons_succ, Act.put, List.setIfInBounds_toArray, List.set_cons_zero, List.set_cons_succ]
                  refine wpAnyT_take (i := 6) (v := undef) [10, 8, 7] rfl (by kernel_rfl) (fun _ _ _ h => h) (Or.inr ⟨by rfl, rfl⟩) hHeld ?_
                  try simp only [List.getElem_toArray, List.getElem_cons_zero, List.getElem_cons_succ, Act.put, List.setIfInBounds_toArray, List.set_cons_zero, List.set_cons_succ]
                  refine wpAnyT_take (i := 7) (v := undef) [10, 8] rfl (by kernel_rfl) (fun _ _ _ h => h) (Or.inr ⟨by rfl, rfl⟩) hHeld ?_
                  try simp only [List.getElem_toArray, List.getElem_cons_zero, List.getElem_cons_succ, Act.put, List.setIfInBounds_toArray, List.set_cons_zero, List.set_cons_succ]
                  refine wpAnyT_take (i := 8) (v := undef) [10] rfl (by kernel_rfl) (fun _ _ _ h => h) (Or.inr ⟨by rfl, rfl⟩) hHeld ?_
                  try simp only [List.getElem_toArray, List.getElem_cons_zero, List.getElem_cons_succ, Act.put, List.setIfInBounds_toArray, List.set_cons_zero, List.set_cons_succ]
                  refine wpAnyT_take (i := 9) (v := undef) [10] rfl (by kernel_rfl) (fun _ _ _ h => h) (Or.inr ⟨by rfl, rfl⟩) hHeld ?_
                  try simp only [List.getElem_toArray, List.getElem_cons_zero, List.getElem_cons_succ, Act.put, List.setIfInBounds_toArray, List.set_cons_zero, List.set_cons_succ]
                  refine wpAnyT_take (i := 10) (v := undef) [] rfl (by kernel_rfl) (fun _ _ _ h => h) (Or.inr ⟨by rfl, rfl⟩) hHeld ?_
                  try simp only [List.getElem_toArray, List.getElem_cons_zero, List.getElem_cons_succ, Act.put, List.setIfInBounds_toArray, List.set_cons_zero, List.set_cons_succ]
                  refine wpAnyT_last (by kernel_rfl) (by kernel_rfl) rfl (fun K hK => ?_)
                  go_simp
                  refine hK.out _ _ ?_
                  clear hK K
                  go_wp2
                  go_meet
                  case rel => exact ⟨by rw [HCH.out]; rfl, hHeld⟩
                · rw [hct] at HC15 HCH
                  clear hct
                  refine wp_region_T (S := fun wx => Below W15.heap.size W15 wx) 11 (by kernel_rfl) (ext_drew _) (fun hHeld => ?_)
                  refine wpAnyT_take (i := 0) (v := ?v1) [3, 2] rfl (by kernel_rfl) (fun _ _ _ h => h) (Or.inl ⟨by rfl, ?hy1⟩) hHeld ?rst1
                  case hy1 => (intro wx hSw; obtain ⟨q1, q2, q3, q4, q5, q6, q7, q8⟩ := HF15.out wx hSw; go_simp; try (with_reducible rfl))
                  try simp only [List.getElem_toArray, List.getElem_cons_zero, Act.put, List.setIfInBounds_toArray, List.set_cons_zero, List.set_cons_succ]
                  refine wpAnyT_take (i := 1) (v := ?v2) [3, 2] rfl (by kernel_rfl) (fun _ _ _ h => h) (Or.inl ⟨by rfl, ?hy2⟩) hHeld ?rst2
                  case hy2 => (intro wx hSw; obtain ⟨q1, q2, q3, q4, q5, q6, q7, q8⟩ := HF15.out wx hSw; go_simp; try (with_reducible rfl))
                  try simp only [List.getElem_toArray, List.getElem_cons_zero, List.getElem_cons_succ, Act.put, List.setIfInBounds_toArray, List.set_cons_zero, List.set_cons_succ]
                  refine wpAnyT_one (i := 2) (by kernel_rfl) rfl (fun K hK => ?_)
                  go_simp
                  refine (HC15.out _ hHeld).mono ?_
                  rintro e w15 ⟨rfl, hx15⟩
                  have B15 := bext hHeld hx15 hHeld.size
                  refine hK.out _ _ (B15) (fun hHeld => ?_)
                  clear hK K
                  try simp only [List.getElem_toArray, List.getElem_cons_zero, List.getElem_cons_succ, Act.put, List.setIfInBounds_toArray, List.set_cons_zero, List.set_cons_succ]
                  refine wpAnyT_take (i := 3) (v := ?v3) [] rfl (by kernel_rfl) (fun _ _ _ h => h) (Or.inl ⟨by rfl, ?hy3⟩) hHeld ?rst3
                  case hy3 => (intro wx hSw; obtain ⟨q1, q2, q3, q4, q5, q6, q7, q8⟩ := HF15.out wx hSw; go_simp; try (with_reducible rfl))
                  try simp only [List.getElem_toArray, List.getElem_cons_zero, List.getElem_cons_succ, Act.put, List.setIfInBounds_toArray, List.set_cons_zero, List.set_cons_succ]
                  refine wpAnyT_take (i := 4) (v := ?v4) [10, 8, 7] rfl (by kernel_rfl) (fun _ _ _ h => h) (Or.inl ⟨by rfl, ?hy4⟩) hHeld ?rst4
                  case hy4 => (intro wx hSw; obtain ⟨q1, q2, q3, q4, q5, q6, q7, q8⟩ := HF15.out wx hSw; go_simp; try (with_reducible rfl))
                  try simp only [List.getElem_toArray, List.getElem_cons_zero, List.getElem_cons_succ, Act.put, List.setIfInBounds_toArray, List.set_cons_zero, List.set_cons_succ]
                  refine wpAnyT_take (i := 5) (v := ?v5) [10, 8, 7, 6] rfl (by kernel_rfl) (fun _ _ _ h => h) (Or.inl ⟨by rfl, ?hy5⟩) hHeld ?rst5
                  case hy5 => (intro wx hSw; obtain ⟨q1, q2, q3, q4, q5, q6, q7, q8⟩ := HF15.out wx hSw; go_simp; try (with_reducible rfl))
                  try simp only [List.getElem_toArray, List.getElem_cons_zero, List.getElem_cons_succ, Act.put, List.setIfInBounds_toArray, List.set_cons_zero, List.set_cons_succ]
                  refine wpAnyT_take (i := 6) (v := ?v6) [10, 8, 7] rfl (by kernel_rfl) (fun _ _ _ h => h) (Or.inl ⟨by rfl, ?hy6⟩) hHeld ?rst6
                  case hy6 => (intro wx hSw; obtain ⟨q1, q2, q3, q4, q5, q6, q7, q8⟩ := HF15.out wx hSw; go_simp; try (with_reducible rfl))
                  try simp only [List.getElem_toArray, List.getElem_cons_zero, List.getElem_cons_succ, Act.put, List.setIfInBounds_toArray, List.set_cons_zero, List.set_cons_succ]
                  refine wpAnyT_take (i := 7) (v := ?v7) [10, 8] rfl (by kernel_rfl) (fun _ _ _ h => h) (Or.inl ⟨by rfl, ?hy7⟩) hHeld ?rst7
                  case hy7 => (intro wx hSw; obtain ⟨q1, q2, q3, q4, q5, q6, q7, q8⟩ := HF15.out wx hSw; go_simp; try (with_reducible rfl))
                  try simp only [List.getElem_toArray, List.getElem_cons_zero, List.getElem_cons_succ, Act.put, List.setIfInBounds_toArray, List.set_cons_zero, List.set_cons_succ]
                  refine wpAnyT_take (i := 8) (v := ?v8) [10] rfl (by kernel_rfl) (fun _ _ _ h => h) (Or.inl ⟨by rfl, ?hy8⟩) hHeld ?rst8
                  case hy8 => (intro wx hSw; obtain ⟨q1, q2, q3, q4, q5, q6, q7, q8⟩ := HF15.out wx hSw; go_simp; try (with_reducible rfl))
                  try simp only [List.getElem_toArray, List.getElem_cons_zero, List.getElem_cons_succ, Act.put, List.setIfInBounds_toArray, List.set_cons_zero, List.set_cons_succ]
                  refine wpAnyT_take (i := 9) (v := ?v9) [10] rfl (by kernel_rfl) (fun _ _ _ h => h) (Or.inl ⟨by rfl, ?hy9⟩) hHeld ?rst9
                  case hy9 => (intro wx hSw; obtain ⟨q1, q2, q3, q4, q5, q6, q7, q8⟩ := HF15.out wx hSw; go_simp; try (with_reducible rfl))
                  try simp only [List.getElem_toArray, List.getElem_cons_zero, List.getElem_cons_succ, Act.put, List.setIfInBounds_toArray, List.set_cons_zero, List.set_cons_succ]
                  refine wpAnyT_take (i := 10) (v := ?v10) [] rfl (by kernel_rfl) (fun _ _ _ h => h) (Or.inl ⟨by rfl, ?hy10⟩) hHeld ?rst10
                  case hy10 => (intro wx hSw; obtain ⟨q1, q2, q3, q4, q5, q6, q7, q8⟩ := HF15.out wx hSw; go_simp; try (with_reducible rfl))
                  try simp only [List.getElem_toArray, List.getElem_cons_zero, List.getElem_cons_succ, Act.put, List.setIfInBounds_toArray, List.set_cons_zero, List.set_cons_succ]
                  refine wpAnyT_last (by kernel_rfl) (by kernel_rfl) rfl (fun K hK => ?_)
                  go_simp
                  refine hK.out _ _ ?_
                  clear hK K
                  go_wp2
                  go_meet
                  case rel => exact ⟨by rw [HCH.out]; rfl, hHeld⟩
              case rest =>
                obtain ⟨rfl, hbc⟩ := hcut
                rename_i hKc
                refine hKc _ _ ?_
                have HLC := Lib.hid (HL15.out.ext hbc)
                obtain ⟨p1, p2, p3, -⟩ := ((HK11.out.ext hbc).four)
                have hbc2 := hbc.size
                obtain ⟨q1, q2, q3⟩ := HLC.out.2.2.1.facts1
                clear hbc HL15 HJ15 HF15 HC15 HK11 HW15
                cases hch : chJ l t j ⟨ja, jb, m, th⟩
                · have HN := Lib.hid (HNO.out hch)
                  clear hch
                  go_wp2_with (fail)
                  go_roundg (l.length - (k + 1))
                  case measure => have := HG3.out; omega
                  case rel => exact ⟨k + 1, _, by go_num, by omega, rfl, by rw [HN.out]; exact HLC.out⟩
                · have HY := Lib.hid (HYES.out hch)
                  have hll := lnsC_len (chJ l t j) l k
                  clear hch
                  go_wp2_with (at_builtin; refine wpList_pushL _ rfl _ _ rfl (wj.heap.size + 2) HLC.out.2.2.2 (by rfl) (by rfl) (by simp) (by omega) (by have := HLC.out.2.2.1.lt; omega) ?_; intro v5 w5 hv5 hb5 hk5; have HV5 := Lib.hid hv5; have HB5 := Lib.hid hb5; obtain ⟨A5, c5, rfl, -, -, -⟩ := hv5.lsl; obtain ⟨s1, s2, s3⟩ := (HLC.out.2.2.1.below hb5 (by omega)).facts1; clear hv5 hb5 hk5)
                  go_roundg (l.length - (k + 1))
                  case measure => have := HG3.out; omega
                  case rel => exact ⟨k + 1, _, by go_num, by omega, rfl, by rw [HY.out]; have h := HLC.out.push HV5.out HB5.out; rw [List.length_append] at h; exact h⟩
            · obtain rfl : k = l.length := by omega
              have HLB := Lib.hid hbls
              have HJL := Lib.hid (HJB2.out.ext hbls)
              have HRL := Lib.hid (HRJ.out.ext hbls)
              obtain ⟨q1, q2, q3⟩ := HL3.out.2.2.1.facts1
              obtain ⟨wl, hwl⟩ : ∃ wl : World, wl = wr := ⟨_, rfl⟩
              subst hwl
              have hll := lnsC_len (chJ l t j) l l.length
              by_cases hne : lnsC (chJ l t j) l l.length = []
              · have h0 : (lnsC (chJ l t j) l l.length).length = 0 := by rw [hne]; rfl
                have HNE := Lib.hid hne
                clear hne hbls
                go_wp2_with (fail)
                refine Handed.intro (n - (j + 1)) ?mj1 ?_
                case mj1 => have := HGJ.out; omega
                go_step
                refine ⟨fun i => Array.getD (Act.tmps ?ax1) i undef, Act.defers ?ax1, ?rl1, ?fr1⟩
                case fr1 =>
                  refine fr_self _ ?fh1
                  rfl
                case rl1 =>
                refine ⟨j + 1, Ds, rfl, rfl, rfl, rfl, rfl, rfl, rfl, by omega, rfl, rfl, ?_, HJL.out⟩
                refine HRL.out.congr (fun s hs => ?_) (fun x => ?_)
                · rw [← pJ_succ, lnsC_nil HNE.out s hs]; simp
                · rw [cJ_succ]; unfold fwJ; rw [if_pos HNE.out]; split <;> rfl
              · have h0 : ¬ ((lnsC (chJ l t j) l l.length).length : Int) = 0 := by
                  have := List.length_pos_iff.2 hne
                  omega
                have h0' : ((lnsC (chJ l t j) l l.length).length == 0) = false := by
                  have := List.length_pos_iff.2 hne
                  simpa using hne
                have HNE := Lib.hid hne
                have HCN := Lib.hid (cloneI_any (p6 + 1) v7 (oddN (chT t) l 16) wl (by have := oddN_len (chT t) l 16; omega) HJL.out.2.2.2.2)
                have HDL := Lib.hid (fun (vc : Value) (W : World) (hb : Below wl.heap.size wl W) (hv : Vi wl.heap.size W vc (oddN (chT t) l 16)) => deleteI_any wl.heap.size vc (oddN (chT t) l 16) 87 #[.pointer (some ⟨p6, 0, none⟩), .pointer (some ⟨wj.heap.size, 0, none⟩)] _ W hb.size (by have := oddN_len (chT t) l 16; omega) hv
                  (chi_runs3 wl.heap.size p6 wj.heap.size bc n (kls l t) j W _ (oddT_rng HOK.out.2.2.2 16) ((HJL.out.ext hb).2.2.1.cell 0) ((HL3.out.ext hb).2.1.cell 0) (HJL.out.ext hb).2.2.2.1 HJL.out.2.2.1.lt HL3.out.2.1.lt HJL.out.2.2.2.1.lt))
                have hef : (oddN (chT t) l 16).filter (fun x => !(fun x : Int => !decide (kls l t x.toNat = (j : Int))) x) = oddN (chJ l t j) l 16 := by
                  rw [← ends_filter (n := n) (j := j) HOK.out.2.2.2 (by omega) 16]
                  exact List.filter_congr fun x _ => by simp
                rw [hef] at HDL
                have hel := oddN_len (chJ l t j) l 16
                have hev := oddN_even (n := n) (chJ l t j) HOK.out.2.2.2 (by omega)
                have HEV := Lib.hid hev
                obtain ⟨e, he⟩ : ∃ e, e = oddN (chJ l t j) l 16 := ⟨_, rfl⟩
                rw [← he] at HDL hel HEV
                have HE := Lib.hid he
                clear hne hbls hef hev he
                go_upto_block 6 with (first
                  | (go_at_call 86; refine HCN.out.mono ?_; rintro e1 w1 ⟨vc, rfl, hvc, hx1⟩; have HX1 := Lib.hid hx1; have HVC := Lib.hid hvc; clear hx1 hvc)
                  | (go_at_call 85; refine (HDL.out _ _ HX1.out HVC.out).mono ?_; rintro e1 w2 ⟨A10, c10, rfl, hk1, hk2, hi2, hx2, ha2⟩; have HX2 := Lib.hid (HX1.out.trans hx2); have HI2 := Lib.hid hi2; have HA2 := Lib.hid ha2; clear hx2 hi2 ha2)
                  | (go_at_call 88; refine (chunk_any _ _ _ _).mono ?_; rintro e1 w3 ⟨rfl, rfl⟩))
                obtain ⟨b, off, hA10, hcl, hbz⟩ : ∃ b off, (e = [] ∨ A10 = some ⟨b, off, none⟩) ∧ (∀ i (h : i < e.length), w2.cell? ⟨b, off + i, none⟩ = some (.int .i64 e[i])) ∧ (e = [] ∨ (wl.heap.size ≤ b ∧ b < w2.heap.size)) := by
                  rcases HI2.out with h | ⟨b, off, hA, hlt, hc⟩
                  · exact ⟨0, 0, .inl h, fun i hi => (by rw [h] at hi; simp at hi), .inl h⟩
                  · exact ⟨b, off, .inr hA, hc, .inr ⟨HA2.out _ hA, hlt⟩⟩
                obtain ⟨W0, hW0⟩ : ∃ W0, (w2.alloc (.cells #[.slice A10 e.length c10] 35)).alloc (.cells #[.int .i64 2] 3) = W0 := ⟨_, rfl⟩
                have hx20 : Below w2.heap.size w2 W0 := by rw [← hW0]; exact ext_trans (ext_alloc _ _) (ext_alloc _ _)
                have hsz0 : W0.heap.size = w2.heap.size + 2 := by rw [← hW0]; simp
                have HX20 := Lib.hid hx20
                have hkp : Bk 35 W0 w2.heap.size #[.slice A10 e.length c10] := by rw [← hW0]; exact (Bk.new _ w2 _).alloc _
                have hkq : Bk 3 W0 (w2.heap.size + 1) #[.int .i64 2] := by
                  have := Bk.new 3 (w2.alloc (.cells #[.slice A10 e.length c10] 35)) #[.int .i64 2]
                  rw [World.size_alloc, hW0] at this
                  exact this
                have hlw : wl.heap.size ≤ w2.heap.size := HX2.out.size
                have hwjl : wj.heap.size + 1 < wl.heap.size := HL3.out.2.2.1.lt
                rw [hW0]
                have HL0 := Lib.hid ((HL3.out.ext HX2.out).ext hx20)
                have hstp := chunk1_stops 8 w2.heap.size (w2.heap.size + 1) b off c10 A10 e W0 hkp.lt hkq.lt hk1 (by unfold maxLen at hk2; omega) hel HEV.out hA10 (hkp.cell 0) (hkq.cell 0)
                refine wp_block ?_
                refine (wpIn_wide (n := 9)).1 ?_
                refine wpIn_rangeFunc_ownG rfl (by omega) (gf := 95) (lb := #[.pointer (some ⟨w2.heap.size, 0, none⟩), .pointer (some ⟨w2.heap.size + 1, 0, none⟩)]) rfl trivial (fun args W => enters95 args W) hstp KpB.t (KpB.b hkp.lt hkq.lt) (Below.refl _ _) (fun _ => rfl)
                  (RxI wl.heap.size (wj.heap.size + 1) W0 (lnsC (chJ l t j) l l.length) e) (fun _ _ _ => False) (rxI_own (by omega)) (fun _ _ _ _ _ hs _ _ => hs) ?start ?a1 ?assign ?body ?done ?stop
                case assign =>
                  intro l1 x W K hK
                  gi_wp2
                  exact hK
                case start =>
                  refine ⟨_, HL0.out.2.2.1, ?_, ?_, fun k _ _ => rfl, Below.refl _ _⟩
                  · rw [List.map_nil, List.append_nil]; exact HL0.out.2.2.2
                  · intro k hk
                    exact .inl (own_lt HL3.out.2.2.2 k hk).2
                case stop =>
                  rintro D c pre W _ _ h _
                  exact h.elim
                case body =>
                  rintro l1 pre x W ⟨v, i1, i2, i3, i4, i5⟩ hpre
                  have hb2 := hbz.resolve_left (fun h => by
                    have h2 := x.2
                    have h3 : e.length = 0 := by rw [h]; rfl
                    omega)
                  obtain ⟨LL, hLL⟩ : ∃ LL, LL = lnsC (chJ l t j) l l.length ++ pre.map (jmpL e) := ⟨_, rfl⟩
                  have hplen : LL.length ≤ 80 := by rw [hLL, List.length_append, List.length_map]; omega
                  have hsn : LL ++ [jmpL e x] = lnsC (chJ l t j) l l.length ++ (pre ++ [x]).map (jmpL e) := by rw [hLL]; simp
                  rw [← hLL] at i2
                  clear hLL
                  obtain ⟨A9', c9', hv9, -, -, -⟩ := i2.lsl
                  subst hv9
                  have hx1 := x.2
                  have HR22 := Lib.hid (show ∀ wx, RxS wl.heap.size (wj.heap.size + 1) W0 W wx → wx.cell? ⟨wj.heap.size + 1, 0, none⟩ = some (.slice A9' LL.length c9') ∧ wx.cell? ⟨b, off + 2 * x.1, none⟩ = some (.int .i64 (e[2 * x.1]'(by omega))) ∧ wx.cell? ⟨b, off + 2 * x.1 + 1, none⟩ = some (.int .i64 (e[2 * x.1 + 1]'hx1)) from fun wx hs => by
                    have hbk : wx.heap[b]? = W0.heap[b]? := hs.2.1 b hb2.1 (by omega)
                    refine ⟨(i1.below hs.1 (by omega)).cell 0, (cell_of_heap hbk).trans ((HX20.out.cell (p := ⟨b, _, none⟩) hb2.2).trans (hcl _ _)), (cell_of_heap hbk).trans ((HX20.out.cell (p := ⟨b, _, none⟩) hb2.2).trans ?_)⟩
                    rw [Nat.add_assoc]
                    exact hcl _ _)
                  have hjm : jmpL e x = ⟨-1, e[2 * x.1]'(by omega), e[2 * x.1 + 1]'hx1⟩ := rfl
                  obtain ⟨y1, hy1⟩ : ∃ y1, y1 = e[2 * x.1]'(by omega) := ⟨_, rfl⟩
                  obtain ⟨y2, hy2⟩ : ∃ y2, y2 = e[2 * x.1 + 1]'hx1 := ⟨_, rfl⟩
                  rw [← hy1, ← hy2] at HR22 hjm
                  rw [hjm] at hsn
                  have HSN := Lib.hid hsn
                  obtain ⟨i0, hi0, hz0, hz1, hz2⟩ := info_parts info_line
                  have HV22 := Lib.hid (own_ext (own_ext i2 (ext_drew W)) (ext_alloc W.drew (.cells #[.int .i64 (-1), .int .i64 y1, .int .i64 y2] 119)))
                  have HK22 := Lib.hid i3
                  have hs0 := i5.size
                  have hszd : W.drew.heap.size = W.heap.size := rfl
                  clear hy1 hy2 hjm hsn hpre
                  refine wpIn_block ?_
                  refine wp_region_TR (S := RxS wl.heap.size (wj.heap.size + 1) W0 W) 10 (by kernel_rfl) (by kernel_rfl) (fun ⟨_, _, h⟩ => h) (RxS.start i4 i5.size) (fun hHeld => ?_)
                  refine wpAnyT_take (i := 0) (v := ?v14) [] rfl (by kernel_rfl) (fun _ _ _ h => h) (Or.inl ⟨by rfl, ?hy14⟩) hHeld ?rst14
                  case hy14 => (intro wx hSw; obtain ⟨q1, q2, q3⟩ := HR22.out wx hSw; go_simp; try (with_reducible rfl))
                  try simp only [List.getElem_toArray, List.getElem_cons_zero, Act.put, List.setIfInBounds_toArray, List.set_cons_zero, List.set_cons_succ]
                  refine wpAnyT_take (i := 1) (v := ?v15) [] rfl (by kernel_rfl) (fun _ _ _ h => h) (Or.inl ⟨by rfl, ?hy15⟩) hHeld ?rst15
                  case hy15 => (intro wx hSw; obtain ⟨q1, q2, q3⟩ := HR22.out wx hSw; go_simp; try (with_reducible rfl))
                  try simp only [List.getElem_toArray, List.getElem_cons_zero, List.getElem_cons_succ, Act.put, List.setIfInBounds_toArray, List.set_cons_zero, List.set_cons_succ]
                  refine wpAnyT_take (i := 2) (v := ?v16) [] rfl (by kernel_rfl) (fun _ _ _ h => h) (Or.inl ⟨by rfl, ?hy16⟩) hHeld ?rst16
                  case hy16 => (intro wx hSw; obtain ⟨q1, q2, q3⟩ := HR22.out wx hSw; go_simp; try (with_reducible rfl))
                  try simp only [List.getElem_toArray, List.getElem_cons_zero, List.getElem_cons_succ, Act.put, List.setIfInBounds_toArray, List.set_cons_zero, List.set_cons_succ]
                  refine wpAnyT_take (i := 3) (v := ?v17) [] rfl (by kernel_rfl) (fun _ _ _ h => h) (Or.inl ⟨by rfl, ?hy17⟩) hHeld ?rst17
                  case hy17 => (intro wx hSw; obtain ⟨q1, q2, q3⟩ := HR22.out wx hSw; go_simp; try (with_reducible rfl))
                  try simp only [List.getElem_toArray, List.getElem_cons_zero, List.getElem_cons_succ, Act.put, List.setIfInBounds_toArray, List.set_cons_zero, List.set_cons_succ]
                  refine wpAnyT_take (i := 4) (v := ?v18) [] rfl (by kernel_rfl) (fun _ _ _ h => h) (Or.inl ⟨by rfl, ?hy18⟩) hHeld ?rst18
                  case hy18 => (intro wx hSw; obtain ⟨q1, q2, q3⟩ := HR22.out wx hSw; go_simp; try (with_reducible rfl))
                  try simp only [List.getElem_toArray, List.getElem_cons_zero, List.getElem_cons_succ, Act.put, List.setIfInBounds_toArray, List.set_cons_zero, List.set_cons_succ]
                  refine wpAnyT_take (i := 5) (v := ?v19) [] rfl (by kernel_rfl) (fun _ _ _ h => h) (Or.inl ⟨by rfl, ?hy19⟩) hHeld ?rst19
                  case hy19 => (intro wx hSw; obtain ⟨q1, q2, q3⟩ := HR22.out wx hSw; go_simp; try (with_reducible rfl))
                  try simp only [List.getElem_toArray, List.getElem_cons_zero, List.getElem_cons_succ, Act.put, List.setIfInBounds_toArray, List.set_cons_zero, List.set_cons_succ]
                  refine wpAnyT_take (i := 6) (v := ?v20) [] rfl (by kernel_rfl) (fun _ _ _ h => h) (Or.inl ⟨by rfl, ?hy20⟩) hHeld ?rst20
                  case hy20 => (intro wx hSw; obtain ⟨q1, q2, q3⟩ := HR22.out wx hSw; go_simp; try (with_reducible rfl))
                  try simp only [List.getElem_toArray, List.getElem_cons_zero, List.getElem_cons_succ, Act.put, List.setIfInBounds_toArray, List.set_cons_zero, List.set_cons_succ]
                  refine wpAnyT_take (i := 7) (v := ?v21) [] rfl (by kernel_rfl) (fun _ _ _ h => h) (Or.inl ⟨by rfl, ?hy21⟩) hHeld ?rst21
                  case hy21 => (intro wx hSw; obtain ⟨q1, q2, q3⟩ := HR22.out wx hSw; go_simp; try (with_reducible rfl))
                  try simp only [List.getElem_toArray, List.getElem_cons_zero, List.getElem_cons_succ, Act.put, List.setIfInBounds_toArray, List.set_cons_zero, List.set_cons_succ]
                  refine wpAnyT_one (i := 8) (by kernel_rfl) rfl (fun K hK => ?_)
                  go_simp
                  refine hK.out _ _ (hHeld.alloc (by omega) _) (fun hHeld => ?_)
                  clear hK K
                  try simp only [List.getElem_toArray, List.getElem_cons_zero, List.getElem_cons_succ, Act.put, List.setIfInBounds_toArray, List.set_cons_zero, List.set_cons_succ]
                  refine wpAnyT_one (i := 9) (by kernel_rfl) rfl (fun K hK => ?_)
                  refine step_append_lies _ (by rfl) _ _ _ (by rfl) (wj.heap.size + 1 + 1) 119 i0 _ 3 24 Try.underlying115 hi0 hz0 hz1 hz2 rfl (by omega) _ _ _ (by rfl) HV22.out ⟨W.heap.size, 0, none⟩ 1 1 [.int .i64 (-1), .int .i64 y1, .int .i64 y2] (by rfl) (by rfl) (World.news_of_block (cs := #[.int .i64 (-1), .int .i64 y1, .int .i64 y2]) (t := 119) (fr := (0, 0)) (heap_alloc_new _ _)) (by simp [Value.oneCell']) (by omega) (by unfold maxLen; omega) (by omega) (by simp; omega) _ rfl ?_
                  intro gg22 cap22 w22 hown22 hgrow22 hat22 hlt22
                  have HGR22 := Lib.hid hgrow22
                  have HOW22 := Lib.hid hown22
                  have HAT22 := Lib.hid hat22
                  clear hgrow22 hown22 hat22
                  refine hK.out _ _ (hHeld.grown (by omega) HGR22.out HV22.out HK22.out) (fun hHeld => ?_)
                  clear hK K
                  try simp only [List.getElem_toArray, List.getElem_cons_zero, List.getElem_cons_succ, Act.put, List.setIfInBounds_toArray, List.set_cons_zero, List.set_cons_succ]
                  refine wpAnyT_last (by kernel_rfl) (by kernel_rfl) rfl (fun K hK => ?_)
                  obtain ⟨z1, z2, z3⟩ := (i1.below hHeld.1 (by omega)).facts1
                  go_simp
                  refine hK.out _ _ ?_
                  clear hK K
                  exact RxS.done i1 i4 i5 hHeld (by rw [← HSN.out]; exact vl_snoc HOW22.out) (fun k hk => by
                    have hk2 : gg22 = k := by simpa [Value.ownBlock] using hk
                    subst hk2
                    rcases HAT22.out with h | h
                    · exact HK22.out _ h
                    · right; rw [h]; simp; omega) ⟨hlw, by omega⟩ ⟨by omega, by omega⟩ (by omega)
                case done =>
                  rintro D xs W hD ⟨hxl, rfl⟩ ⟨v, i1, i2, i3, i4, i5⟩ hK
                  have hY : lnsC (chJ l t j) l l.length ++ (firstN e (e.length / 2) hxl).map (jmpL e) = lnsY l t j := by
                    unfold lnsY
                    rw [← HE.out]
                    congr 1
                    exact jps_first e HEV.out hxl
                  rw [hY] at i2
                  have hYC : 0 < (lnsY l t j).length := by
                    have := List.length_pos_iff.2 HNE.out
                    unfold lnsY
                    rw [List.length_append]; omega
                  have hY72 := lnsY_len (t := (t : Int)) (j := (j : Int)) l64
                  obtain ⟨⟨y1, y2, y3⟩, -⟩ := lnsY_rng (n := n) HOK.out.2.2.2 (Int.natCast_nonneg t) (List.getElem_mem hYC)
                  obtain ⟨fa, hfa⟩ := Int.eq_ofNat_of_zero_le y1
                  rw [hfa, Int.toNat_natCast] at y3
                  rw [hfa] at y2
                  have hfn : fa < n := by omega
                  have HCUT := Lib.hid (fun hs (T : Tour (lnsY l t j) fa hs) (P : Sm → Prop) (c : Int → Nat) (R : List (List Mv)) (h : RunsI l P c R) (hP : ∀ s, P s → chJ l t j s = false) => h.cut hP HNE.out T)
                  have HCL := Lib.hid (fun hs (T : Tour (lnsY l t j) fa hs) => (cut_ok HNE.out T).2.2)
                  have HTR := Lib.hid (fun A c W (h1 : (lnsY l t j).length ≤ c) (h2 : c ≤ 9223372036854775807) (h : LSl W A (lnsY l t j)) => trail_any A c (lnsY l t j) fa W (fun s hs => by
                    obtain ⟨⟨a1, a2, _⟩, b1, b2, _⟩ := lnsY_rng (n := n) HOK.out.2.2.2 (Int.natCast_nonneg t) hs
                    exact ⟨a1, by omega, b1, by omega⟩) (by omega) h1 h2 h ⟨by omega, by omega⟩ (lnsY_even HOK.out.2.2.2 (by omega)) (lnsY_hangs HOK.out.2.2.2 (by omega) hfn y3))
                  obtain ⟨AY, cY, hvY, hcY1, hcY2, hlsl⟩ := i2.lsl
                  obtain ⟨gy, hgy, hgc⟩ : ∃ gy, AY = some ⟨gy, 0, none⟩ ∧ W.cell? ⟨gy, 1, none⟩ = some (.int .i64 (fa : Int)) ∧ gy < W.heap.size ∧ v.ownBlock = some gy := by
                    rcases i2.2 with ⟨_, h0⟩ | ⟨g, cap', cur, hv, hg, hh, _⟩
                    · omega
                    · rw [hvY] at hv
                      injection hv with h1
                      rcases hlsl with h | ⟨b5, off5, hA5, hl5, hc5⟩
                      · rw [h] at hYC; simp at hYC
                      · rw [h1] at hA5
                        injection hA5 with hA5
                        injection hA5 with hA5 hA6
                        subst hA5 hA6
                        refine ⟨g, h1, ?_, hl5, by rw [hvY, h1]; rfl⟩
                        have := (hc5 0 hYC).2.1
                        rw [hfa] at this
                        simpa using this
                  subst hvY hgy
                  obtain ⟨Y, hYY⟩ : ∃ Y, Y = lnsY l t j := ⟨_, rfl⟩
                  rw [← hYY] at i1 i2 hlsl hcY1 hYC hY72 HCUT HCL HTR
                  have HI2 := Lib.hid i2
                  have HLSL := Lib.hid hlsl
                  clear hY hYY y1 y2 y3 hfa hxl hlsl
                  try dsimp only
                  have HBJD := Lib.hid (show Below wj.heap.size wj W from (bext (bext HLB.out HX2.out HLB.out.size) HX20.out (by have := HLB.out.size; omega)).trans (i5.mono (by omega)))
                  obtain ⟨R, r1, r2, ⟨vsR, r31, r32, r33⟩, r4, r5⟩ := HRJ.out
                  have hRl := r4.len
                  have HR2 := Lib.hid r32
                  have hu3 : ∃ A3 c3, u3 = .slice A3 R.length c3 := by
                    obtain ⟨A3, c3, h, _⟩ := own_cells r32
                    exact ⟨A3, c3, h⟩
                  obtain ⟨i9, hi9, hj0, hj1, hj2⟩ := info_parts info_moves
                  obtain ⟨S23, hS23⟩ : ∃ S23 : World → Prop, S23 = fun wx => Below (w.heap.size + 1) W wx ∧ wx.cell? ⟨wj.heap.size + 1, 0, none⟩ = some (.slice (some ⟨gy, 0, none⟩) Y.length cY) ∧ wx.cell? ⟨gy, 1, none⟩ = some (.int .i64 (fa : Int)) := ⟨_, rfl⟩
                  have hwsz : w.heap.size < wj.heap.size := by
                    obtain ⟨R', h1, h2, _⟩ := HRJ.out
                    exact h2.lt
                  have hjW := HBJD.out.size
                  have HS23 := Lib.hid (show ∀ wx, Below W.heap.size W wx → S23 wx from fun wx hb => by
                    rw [hS23]
                    exact ⟨hb.mono (by omega), (i1.ext hb).cell 0, (hb.cell (p := ⟨gy, 1, none⟩) hgc.2.1).trans hgc.1⟩)
                  have HW5 := Lib.hid (show ∀ w4 w5 n5, Below wj.heap.size wj w4 → Below W.heap.size W w4 → w4.grownBy w5 u3.ownBlock → (∀ k, k < w4.heap.size → some k ≠ u3.ownBlock → w5.heap[k]? = w4.heap[k]?) → n5 = 0 → S23 w5 from fun w4 w5 n5 hb1 hb2 hg hk _ => by
                    have hro := own_ext r32 hb1
                    rw [hS23]
                    have h9 := i1.ext hb2
                    refine ⟨(hb2.mono (by omega)).grown hg (by have := hb2.size; omega) (fun k hk2 => (own_lt hro k hk2).1), ?_, ?_⟩
                    · exact (cell_of_heap (hk _ h9.lt (own_ne hro h9 (by decide)))).trans (h9.cell 0)
                    · refine (cell_of_heap (hk _ (Nat.lt_of_lt_of_le hgc.2.1 hb2.size) (own_ne2 hro (own_ext HI2.out hb2) (by decide) _ hgc.2.2))).trans ?_
                      exact (hb2.cell (p := ⟨gy, 1, none⟩) hgc.2.1).trans hgc.1)
                  have hSd : ∀ wx, S23 wx → Below (w.heap.size + 1) W wx ∧ wx.cell? ⟨wj.heap.size + 1, 0, none⟩ = some (.slice (some ⟨gy, 0, none⟩) Y.length cY) ∧ wx.cell? ⟨gy, 1, none⟩ = some (.int .i64 (fa : Int)) := fun wx h => by rw [hS23] at h; exact h
                  have HSD := Lib.hid hSd
                  have HR1 := Lib.hid r1
                  have HR3 := Lib.hid r33
                  have HR4 := Lib.hid r4
                  have HR5 := Lib.hid r5
                  have HR31 := Lib.hid r31
                  have HGB := Lib.hid r2
                  have HI1 := Lib.hid i1
                  have HI4 := Lib.hid i4
                  have HI5 := Lib.hid i5
                  have HKD := Lib.hid hK
                  obtain ⟨A3, c3, rfl⟩ := hu3
                  clear hSd hS23 r1 r2 r33 r4 r5 r31 r32 i1 i2 i4 i5 hK i3
                  go_upto_region 23 with fail
                  refine wp_region_T (S := S23) 9 (by kernel_rfl) (HS23.out _ (ext_drew W)) (fun hHeld => ?_)
                  refine wpAnyT_take (i := 0) (v := ?v22) [] rfl (by kernel_rfl) (fun _ _ _ h => h) (Or.inl ⟨by rfl, ?hy22⟩) hHeld ?rst22
                  case hy22 => (intro wx hSw; obtain ⟨_, q1, q2⟩ := HSD.out _ hSw; go_simp; try (with_reducible rfl))
                  try simp only [List.getElem_toArray, List.getElem_cons_zero, Act.put, List.setIfInBounds_toArray, List.set_cons_zero, List.set_cons_succ]
                  refine wpAnyT_take (i := 1) (v := ?v23) [] rfl (by kernel_rfl) (fun _ _ _ h => h) (Or.inl ⟨by rfl, ?hy23⟩) hHeld ?rst23
                  case hy23 => (intro wx hSw; obtain ⟨_, q1, q2⟩ := HSD.out _ hSw; go_simp; try (with_reducible rfl))
                  try simp only [List.getElem_toArray, List.getElem_cons_zero, List.getElem_cons_succ, Act.put, List.setIfInBounds_toArray, List.set_cons_zero, List.set_cons_succ]
                  refine wpAnyT_take (i := 2) (v := ?v24) [] rfl (by kernel_rfl) (fun _ _ _ h => h) (Or.inl ⟨by rfl, ?hy24⟩) hHeld ?rst24
                  case hy24 => (intro wx hSw; obtain ⟨_, q1, q2⟩ := HSD.out _ hSw; go_simp; try (with_reducible rfl))
                  try simp only [List.getElem_toArray, List.getElem_cons_zero, List.getElem_cons_succ, Act.put, List.setIfInBounds_toArray, List.set_cons_zero, List.set_cons_succ]
                  refine wpAnyT_take (i := 3) (v := ?v25) [] rfl (by kernel_rfl) (fun _ _ _ h => h) (Or.inl ⟨by rfl, ?hy25⟩) hHeld ?rst25
                  case hy25 => (intro wx hSw; obtain ⟨_, q1, q2⟩ := HSD.out _ hSw; go_simp; try (with_reducible rfl))
                  try simp only [List.getElem_toArray, List.getElem_cons_zero, List.getElem_cons_succ, Act.put, List.setIfInBounds_toArray, List.set_cons_zero, List.set_cons_succ]
                  refine wpAnyT_take (i := 4) (v := ?v26) [] rfl (by kernel_rfl) (fun _ _ _ h => h) (Or.inl ⟨by rfl, ?hy26⟩) hHeld ?rst26
                  case hy26 => (intro wx hSw; obtain ⟨_, q1, q2⟩ := HSD.out _ hSw; go_simp; try (with_reducible rfl))
                  try simp only [List.getElem_toArray, List.getElem_cons_zero, List.getElem_cons_succ, Act.put, List.setIfInBounds_toArray, List.set_cons_zero, List.set_cons_succ]
                  refine wpAnyT_take (i := 5) (v := ?v27) [] rfl (by kernel_rfl) (fun _ _ _ h => h) (Or.inl ⟨by rfl, ?hy27⟩) hHeld ?rst27
                  case hy27 => (intro wx hSw; obtain ⟨_, q1, q2⟩ := HSD.out _ hSw; go_simp; try (with_reducible rfl))
                  try simp only [List.getElem_toArray, List.getElem_cons_zero, List.getElem_cons_succ, Act.put, List.setIfInBounds_toArray, List.set_cons_zero, List.set_cons_succ]
                  refine wpAnyT_one (i := 6) (by kernel_rfl) rfl (fun K hK => ?_)
                  go_simp
                  go_at_call 65
                  refine (HTR.out _ _ _ hcY1 (by unfold maxLen at hcY2; exact hcY2) (HLSL.out.ext (ext_drew W))).mono ?_
                  rintro e2 w3 ⟨hs, A2, c2, hT, rfl, k2, k3, hms, hx3⟩
                  have B3 := ext_trans (ext_drew W) hx3
                  have HT := Lib.hid hT
                  have HMS := Lib.hid hms
                  have hhl : hs.length ≤ 72 := by rw [tour_len2 hT]; exact hY72
                  clear hT hms
                  refine hK.out _ _ (HS23.out _ B3) (fun hHeld => ?_)
                  clear hK K
                  try simp only [List.getElem_toArray, List.getElem_cons_zero, List.getElem_cons_succ, Act.put, List.setIfInBounds_toArray, List.set_cons_zero, List.set_cons_succ]
                  refine wpAnyT_one (i := 7) (by kernel_rfl) rfl (fun K hK => ?_)
                  go_simp
                  go_at_call 89
                  refine (parted_len A2 c2 hs.length (hs.map (Hop.mv Y)) w3 (by simp) (by omega) k2 (by unfold maxLen at k3; exact k3) HMS.out).mono ?_
                  rintro e3 w4 ⟨vP, vsP, g5, cap5, rfl, hx4, gP1, gP3, gP4⟩
                  have B4 := ext_trans B3 hx4
                  have hlP := HCL.out hs HT.out
                  obtain ⟨hvP, hcP⟩ := gP4.resolve_left (by omega)
                  have HP3 := Lib.hid gP3
                  have HCP := Lib.hid hcP
                  have HP1 := Lib.hid gP1
                  obtain ⟨S, hS⟩ : ∃ S, S = spl [] (rotJ (hs.map (Hop.mv Y))) := ⟨_, rfl⟩
                  rw [← hS] at HP3 HP1 hvP hlP
                  have HS := Lib.hid hS
                  have hlS : S.length ≤ 80 ∧ 1 ≤ S.length := by have := jps_bd l t j; omega
                  subst hvP
                  have BJ4 := bext HBJD.out B4 HBJD.out.size
                  clear gP3 hcP gP1 gP4 hS hx4 hlP
                  refine hK.out _ _ (HS23.out _ B4) (fun hHeld => ?_)
                  clear hK K
                  try simp only [List.getElem_toArray, List.getElem_cons_zero, List.getElem_cons_succ, Act.put, List.setIfInBounds_toArray, List.set_cons_zero, List.set_cons_succ]
                  refine wpAnyT_one (i := 8) (by kernel_rfl) rfl (fun K hK => ?_)
                  refine step_append_lies _ (by rfl) _ _ _ (by rfl) (w.heap.size + 1) 57 i9 _ 1 24 Try.underlying47 hi9 hj0 hj1 hj2 rfl (by decide) _ R.length vsR (by rfl) (own_ext HR2.out BJ4) ⟨g5, 0, none⟩ S.length cap5 vsP (by rfl) (by rw [HP1.out, Nat.mul_one]) HCP.out (fun u hu => by
                    obtain ⟨i, hi, rfl⟩ := List.getElem_of_mem hu
                    obtain ⟨A', c', h, _⟩ := (HP3.out i hi (by rw [← HP1.out]; exact hi)).msl
                    rw [h]; rfl) (by omega) (by unfold maxLen; omega) (by omega) (by have := BJ4.size; omega) _ rfl ?_
                  intro g9 cap9 w5 hown9 hgr9 hat9 hlt9
                  have HO9 := Lib.hid hown9
                  have HG9 := Lib.hid hgr9
                  have hk9 : ∀ k, k < w4.heap.size → some k ≠ (Value.slice A3 R.length c3).ownBlock → w5.heap[k]? = w4.heap[k]? := hgr9.block
                  have HK9 := Lib.hid hk9
                  clear hown9 hgr9 hat9 hk9
                  refine hK.out _ _ (HW5.out _ _ 0 BJ4 B4 HG9.out HK9.out rfl) (fun hHeld => ?_)
                  clear hK K
                  try simp only [List.getElem_toArray, List.getElem_cons_zero, List.getElem_cons_succ, Act.put, List.setIfInBounds_toArray, List.set_cons_zero, List.set_cons_succ]
                  refine wpAnyT_last (by kernel_rfl) (by kernel_rfl) rfl (fun K hK => ?_)
                  go_simp
                  refine hK.out _ _ ?_
                  clear hK K
                  have hro9 := own_ext HR2.out BJ4
                  have HRUF := Lib.hid (show RuS w n A l.length cap l (fun s => s.t < t ∨ (s.t = t ∧ kls l t s.a.toNat < ((j + 1 : Nat) : Int))) (cJ l n t (j + 1)) (.slice (some ⟨g9, 0, none⟩) (R.length + S.length) cap9) (D :: Ds) w5 from by
                    have hrc := HCUT.out hs HT.out _ _ R HR4.out (fun s hs => pJ_not hs)
                    rw [← HS.out] at hrc
                    refine ⟨R ++ S, ?_, ?_, ?_, hrc.congr (fun s _ => pJ_succ) (fun x => (cJ_succ l n t j x).symm), ?_⟩
                    · exact (bext HR1.out BJ4 HR1.out.size).trans (((Below.refl (w.heap.size + 1) w4).grown HG9.out (by have := BJ4.size; omega) (fun k hk2 => (own_lt hro9 k hk2).1)).mono (by omega))
                    · have h9 := HGB.out.ext BJ4
                      exact (HK9.out _ h9.lt (own_ne hro9 h9 (by decide))).trans h9
                    · exact Vr.cat (by decide) HR31.out hro9 (fun i hi hi' => own_ext (HR3.out i hi hi') BJ4) HP1.out (fun i hi hi' => own_base (HP3.out i hi hi') (by have := B3.size; omega)) HO9.out HK9.out
                    · have hd1 : DsOk (w.heap.size + 1) W (D :: Ds) := (HR5.out.ext HBJD.out).cons (B := wj.heap.size) (fun x hx => (Array.getElem?_eq_some_iff.1 (HR5.out.2 x hx).2).1) (by omega) (by omega) HKD.out
                      exact (hd1.ext B4).keep (grown_keeps hro9 HK9.out))
                  have HJBF := Lib.hid (show JbS l n t p4 p6 bc (p6 + 1) v7 w5 from (HJB2.out.ext BJ4).keep hro9 HK9.out)
                  clear hro9
                  go_wp2_with (fail)
                  refine Handed.intro (n - (j + 1)) ?mj2 ?_
                  case mj2 => have := HGJ.out; omega
                  go_step
                  refine ⟨fun i => Array.getD (Act.tmps ?ax2) i undef, Act.defers ?ax2, ?rl2, ?fr2⟩
                  case fr2 =>
                    refine fr_self _ ?fh2
                    rfl
                  case rl2 =>
                  exact ⟨j + 1, D :: Ds, rfl, rfl, rfl, rfl, rfl, rfl, rfl, by omega, rfl, rfl, HRUF.out, HJBF.out⟩
        · obtain rfl : j = n := by omega
          have HRF := Lib.hid (show RuS w j A l.length cap l (fun s => s.t < ((t + 1 : Nat) : Int)) (cT l j (t + 1)) u3 Ds wj from HRJ.out.congr (fun s hs => pJ_all HOK.out.2.2.2 hs) (fun x => cJ_all l j t x))
          clear hjb
          go_wp2_with (fail)
          refine Handed.intro (8 - (t + 1)) ?mj3 ?_
          case mj3 => have := HG.out; omega
          go_step
          refine ⟨fun i => Array.getD (Act.tmps ?ax3) i undef, Act.defers ?ax3, ?rl3, ?fr3⟩
          case fr3 =>
            refine fr_self _ ?fh3
            rfl
          case rl3 =>
          exact ⟨t + 1, Ds, rfl, by omega, rfl, rfl, HRF.out⟩
    · obtain rfl : t = 8 := by omega
      clear hgr hvr hbw HRI
      go_wp2_with (fail)
      obtain ⟨R, h1, h2, h3, h4, h5⟩ := HRU.out
      have hsz := h2.lt
      refine leaves_ds Ds wr h5 (by omega) fun w' hb hk => ?_
      refine ⟨_, results_tmp rfl _ _ _, ?_⟩
      refine ⟨_, R, rfl, ?_, h4.congr (fun s hs => ?_) (fun x => ?_), h1.trans (hb.mono (by omega))⟩
      · have hkc : ∀ (k : Nat) (o : Obj), wr.heap[k]? = some o → o.isCells = true → w'.heap[k]? = wr.heap[k]? := fun k o ho hc => (hk k o ho hc).trans ho.symm
        have hown : ∀ {e : TypeId} {sz m base : Nat} {v : Value} {xs : List Value}, wr.ownsRow base e sz v m xs → w'.ownsRow base e sz v m xs := fun ho => own_keep ho fun k e => by
          rcases ho.2 with ⟨rfl, _⟩ | ⟨g, cap, cur, rfl, hg, hh, _⟩
          · cases e
          · have : g = k := by simpa [Value.ownBlock] using e
            subst this
            exact hkc g _ hh rfl
        obtain ⟨vs, v1, v2, v3⟩ := h3
        exact Vr.base ⟨vs, v1, hown v2, fun i hi hi' => hown (v3 i hi hi')⟩ (by omega)
      · have hso := HOK.out.2.2.2 s hs
        unfold SmOk at hso
        exact ⟨fun _ => trivial, fun _ => by push_cast; omega⟩
      · rfl
end Go.Proofs.Ytbhjhajnhpohlaa
