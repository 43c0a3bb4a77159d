/- The reference's Run walked. Conditions: the graph and the program read as lists. -/
import Derived.Test.YtbhjhajnhpohlaaRdx
import Derived.Test.YtbhjhajnhpohlaaMxq
import Derived.Test.YtbhjhajnhpohlaaMrn
import Derived.Test.YtbhjhajnhpohlaaOpn
import Derived.Deep.CutBlock
namespace Go.Proofs.Ytbhjhajnhpohlaa
open Go.RowKit

/-- what the walk of Run knows of a world -/
def RqS (g bs bu : Nat) (N : Int) (A : Option Addr) (cap : Nat) (l : List Sm) (w wc : World) (f : Int) (m : Mc) (V : World) : Prop :=
  RmS g bs bu l.length f m V ∧ Bk 24 V w.heap.size #[.int .i64 N, .slice A l.length cap] ∧ Bk 81 V (w.heap.size + 1) #[.int .i64 0, .int .i64 0, .int .i64 0, .int .i64 0, .int .i64 0, .slice none 0 0, .slice none 0 0] ∧ But3 g bs bu wc V
section
variable {g bs bu : Nat} {N : Int} {A : Option Addr} {cap : Nat} {l : List Sm} {w wc V V' : World} {f f' : Int} {m m' : Mc}
theorem RqS.ext (h : RqS g bs bu N A cap l w wc f m V) (hb : Below V.heap.size V V') : RqS g bs bu N A cap l w wc f m V' := ⟨h.1.ext hb, h.2.1.ext hb, h.2.2.1.ext hb, h.2.2.2.trans (But3.of hb)⟩
theorem RqS.next (h : RqS g bs bu N A cap l w wc f m V) (ha : Ap (w.heap.size + 2) g bs bu) (hr : RmS g bs bu l.length f' m' V') (hb : But3 g bs bu V V') : RqS g bs bu N A cap l w wc f' m' V' := by
  obtain ⟨a1, a2, a3, -⟩ := ha
  exact ⟨hr, hb.bk h.2.1 (by omega) (by omega) (by omega), hb.bk h.2.2.1 (by omega) (by omega) (by omega), h.2.2.2.trans hb⟩
theorem RqS.setF (h : RqS g bs bu N A cap l w wc f m V) (ha : Ap (w.heap.size + 2) g bs bu) (x : Int) : RqS g bs bu N A cap l w wc x m (V.setCell ⟨g, 0, none⟩ (.int .i64 x)) := h.next ha (h.1.setF ha x) ((But3.refl g bs bu V).set (.inl rfl) _)
theorem RqS.setS (h : RqS g bs bu N A cap l w wc f m V) (ha : Ap (w.heap.size + 2) g bs bu) (x : Int) : RqS g bs bu N A cap l w wc f { m with s := x } (V.setCell ⟨g, 1, none⟩ (.int .i64 x)) := h.next ha (h.1.setS ha x) ((But3.refl g bs bu V).set (.inl rfl) _)
end

section
variable (T : TypeId) (W : World) (x y : Obj) (cs : Array Value) (n : Nat) (d : Nat → Int)
theorem bk1 : Bk T (((W.alloc (.cells cs T)).alloc x).alloc y) W.heap.size cs := ((Bk.new T W cs).alloc x).alloc y
theorem bk2 : Bk T (((W.alloc x).alloc (.cells cs T)).alloc y) (W.heap.size + 1) cs := by
  have h := (Bk.new T (W.alloc x) cs).alloc y
  rw [World.size_alloc] at h; exact h
theorem bk3 : Bk T (((W.alloc x).alloc y).alloc (.cells cs T)) (W.heap.size + 1 + 1) cs := by
  have h := Bk.new T ((W.alloc x).alloc y) cs
  rw [World.size_alloc, World.size_alloc] at h; exact h
theorem ow1 : Ow 3 W.heap.size n d (((W.alloc (.cells (cellsOf n d) 3)).alloc x).alloc y) := ((Ow.new 3 W n d).ext (ext_alloc _ x)).ext (ext_alloc _ y)
theorem ow2 : Ow 3 (W.heap.size + 1) n d (((W.alloc x).alloc (.cells (cellsOf n d) 3)).alloc y) := by
  have h := (Ow.new 3 (W.alloc x) n d).ext (ext_alloc _ y)
  rw [World.size_alloc] at h; exact h
theorem ow3 : Ow 3 (W.heap.size + 1 + 1) n d (((W.alloc x).alloc y).alloc (.cells (cellsOf n d) 3)) := by
  have h := Ow.new 3 ((W.alloc x).alloc y) n d
  rw [World.size_alloc, World.size_alloc] at h; exact h
end

set_option maxRecDepth 100000 in
set_option maxHeartbeats 4000000 in
theorem rRun_any (N : Int) (A : Option Addr) (cap : Nat) (l : List Sm) (C : Option Addr) (cc : Nat) (ops : List Opr) (fuel : Int) (w : World) (hc : l.length ≤ cap) (hcm : cap ≤ 9223372036854775807) (h : SSl w A l) (hcc : ops.length ≤ cc) (hcc2 : cc ≤ 9223372036854775807) (hr : OSl w C ops) :
    Calls Try.prog 43 #[.agg #[.int .i64 N, .slice A l.length cap], .slice C ops.length cc, .int .i64 fuel] w (RetRn w N l ops fuel) := by
  have HV := Lib.hid (fun W (h : SSl W A l) => rvalid_any N A cap l W hc hcm h)
  have HP := Lib.hid (fun W (h : OSl W C ops) => rprog_any C cc ops W hcc hcc2 h)
  have HX := Lib.hid (ext_trans (ext_alloc w (.cells #[.int .i64 N, .slice A l.length cap] 24)) (ext_alloc _ (.cells #[.int .i64 0, .int .i64 0, .int .i64 0, .int .i64 0, .int .i64 0, .slice none 0 0, .slice none 0 0] 81)))
  have HB := Lib.hid ((Bk.new 24 w #[.int .i64 N, .slice A l.length cap]).alloc (.cells #[.int .i64 0, .int .i64 0, .int .i64 0, .int .i64 0, .int .i64 0, .slice none 0 0, .slice none 0 0] 81))
  have hb2 := Bk.new 81 (w.alloc (.cells #[.int .i64 N, .slice A l.length cap] 24)) #[.int .i64 0, .int .i64 0, .int .i64 0, .int .i64 0, .int .i64 0, .slice none 0 0, .slice none 0 0]
  rw [World.size_alloc] at hb2
  have HB2 := Lib.hid hb2
  have HW := Lib.hid (fun W (hW : Below w.heap.size w W) => And.intro (h.ext hW) (hr.ext hW))
  clear h hr hb2
  by_cases hok : GOk N l
  · have hv := vldG_yes hok
    rw [hv] at HV
    by_cases hf0 : fuel < 0
    · have HN := Lib.hid (show ¬ RnOk N l ops fuel ∧ rnErr N l ops fuel = 2 from ⟨fun h => by have := h.2.1; omega, by unfold rnErr; rw [if_pos (fun h => by have := h.2.1; omega)]⟩)
      clear hok hv
      go_enter Try.func43, Try.ntmps43
      go_wp2_with (go_at_call 22; refine (HV.out _ (HW.out _ HX.out).1).mono ?_; rintro e w1 ⟨rfl, hx1⟩; have B1 := bext HX.out hx1 HX.out.size; obtain ⟨f1, f2, f3⟩ := (HB.out.ext hx1).facts; obtain ⟨g1, g2, g3⟩ := (HB2.out.ext hx1).facts)
      have hs := seven (HB2.out.ext hx1) (.int .i64 0) (.int .i64 0) (.int .i64 0) (.int .i64 0) (.int .i64 0) (.slice none 0 0) (.slice none 0 0)
      have hbs := sevenB B1 (show w.heap.size ≤ w.heap.size + 1 by omega) (.int .i64 0) (.int .i64 0) (.int .i64 0) (.int .i64 0) (.int .i64 0) (.slice none 0 0) (.slice none 0 0)
      have p1 := hs.facts.1
      refine bodyPost_ret (v := .tuple #[rep0, .int .i64 2]) (by simp [results, Try.results43, go_sem, p1, rep0]) rfl ?_
      exact ⟨hbs, .inl ⟨HN.out.1, by rw [HN.out.2]⟩⟩
    · by_cases hf1 : 100000 < fuel
      · have HN := Lib.hid (show ¬ RnOk N l ops fuel ∧ rnErr N l ops fuel = 2 from ⟨fun h => by have := h.2.2.1; omega, by unfold rnErr; rw [if_pos (fun h => by have := h.2.2; omega)]⟩)
        clear hok hv
        go_enter Try.func43, Try.ntmps43
        go_wp2_with (go_at_call 22; refine (HV.out _ (HW.out _ HX.out).1).mono ?_; rintro e w1 ⟨rfl, hx1⟩; have B1 := bext HX.out hx1 HX.out.size; obtain ⟨f1, f2, f3⟩ := (HB.out.ext hx1).facts; obtain ⟨g1, g2, g3⟩ := (HB2.out.ext hx1).facts)
        have hs := seven (HB2.out.ext hx1) (.int .i64 0) (.int .i64 0) (.int .i64 0) (.int .i64 0) (.int .i64 0) (.slice none 0 0) (.slice none 0 0)
        have hbs := sevenB B1 (show w.heap.size ≤ w.heap.size + 1 by omega) (.int .i64 0) (.int .i64 0) (.int .i64 0) (.int .i64 0) (.int .i64 0) (.slice none 0 0) (.slice none 0 0)
        have p1 := hs.facts.1
        refine bodyPost_ret (v := .tuple #[rep0, .int .i64 2]) (by simp [results, Try.results43, go_sem, p1, rep0]) rfl ?_
        exact ⟨hbs, .inl ⟨HN.out.1, by rw [HN.out.2]⟩⟩
      · have hfu : 0 ≤ fuel ∧ fuel ≤ 100000 := by omega
        by_cases h4 : 4096 < ops.length
        · have HN := Lib.hid (show ¬ RnOk N l ops fuel ∧ rnErr N l ops fuel = 3 from ⟨fun h => by have := h.2.2.2.1; omega, by unfold rnErr; rw [if_neg (fun h => h ⟨hok, hfu⟩), if_pos h4]⟩)
          clear hok hv hfu
          go_enter Try.func43, Try.ntmps43
          go_wp2_with (go_at_call 22; refine (HV.out _ (HW.out _ HX.out).1).mono ?_; rintro e w1 ⟨rfl, hx1⟩; have B1 := bext HX.out hx1 HX.out.size; obtain ⟨f1, f2, f3⟩ := (HB.out.ext hx1).facts; obtain ⟨g1, g2, g3⟩ := (HB2.out.ext hx1).facts)
          have hs := seven (HB2.out.ext hx1) (.int .i64 0) (.int .i64 0) (.int .i64 0) (.int .i64 0) (.int .i64 0) (.slice none 0 0) (.slice none 0 0)
          have hbs := sevenB B1 (show w.heap.size ≤ w.heap.size + 1 by omega) (.int .i64 0) (.int .i64 0) (.int .i64 0) (.int .i64 0) (.int .i64 0) (.slice none 0 0) (.slice none 0 0)
          have p1 := hs.facts.1
          refine bodyPost_ret (v := .tuple #[rep0, .int .i64 3]) (by simp [results, Try.results43, go_sem, p1, rep0]) rfl ?_
          exact ⟨hbs, .inl ⟨HN.out.1, by rw [HN.out.2]⟩⟩
        · by_cases hp : PrOk ops
          · have HOK := Lib.hid (show RnOk N l ops fuel from ⟨hok, hfu.1, hfu.2, by omega, hp⟩)
            have hpt : decide (PrOk ops) = true := decide_eq_true hp
            rw [hpt] at HP
            have l64 := hok.2.2.1
            have hmk := run_zeros l.length (by omega)
            have hmk8 : ∀ W, (Instr.makeSlice 35 (.int .i64 8) (.int .i64 8)).run Try.prog W = .ok (.slice (some ⟨W.heap.size, 0, none⟩) 8 8) (W.alloc (.cells (cellsOf 8 fun _ => 0) 3)) := fun W => run_zeros 8 (by omega) W
            clear hok hv hfu hp hpt
            go_enter Try.func43, Try.ntmps43
            go_upto_region 7 with (first | (go_at_call 22; refine (HV.out _ (HW.out _ HX.out).1).mono ?_; rintro e w1 ⟨rfl, hx1⟩; have B1 := bext HX.out hx1 HX.out.size; obtain ⟨f1, f2, f3⟩ := (HB.out.ext hx1).facts; obtain ⟨g1, g2, g3⟩ := (HB2.out.ext hx1).facts) | (go_at_call 45; refine (HP.out _ (HW.out _ B1).2).mono ?_; rintro e w2 ⟨rfl, hx2⟩; have B2 := bext B1 hx2 B1.size; clear f1 f2 f3 g1 g2 g3; obtain ⟨f1, f2, f3⟩ := ((HB.out.ext hx1).ext hx2).facts; obtain ⟨g1, g2, g3⟩ := ((HB2.out.ext hx1).ext hx2).facts))
            go_cut [8] (fun z wx => ∃ g bs bu, z = .pointer (some ⟨g, 0, none⟩) ∧ Ap w2.heap.size g bs bu ∧ RmS g bs bu l.length 0 mc0 wx ∧ Below w2.heap.size w2 wx)
            case first =>
              go_region
              all_goals
                go_wp2
                go_meet
              · exact ⟨w2.heap.size + 1 + 1, w2.heap.size, w2.heap.size + 1, rfl, ⟨by omega, by omega, by omega, by omega, by omega, by omega⟩, RmS.ext ⟨bk3 _ _ _ _ _, ow1 _ _ _ _ _, ow2 _ _ _ _ _⟩ (ext_drew _), alloc3 _ _ _ _⟩
              · exact ⟨w2.heap.size + 1, w2.heap.size, w2.heap.size + 1 + 1, rfl, ⟨by omega, by omega, by omega, by omega, by omega, by omega⟩, RmS.ext ⟨bk2 _ _ _ _ _, ow1 _ _ _ _ _, ow3 _ _ _ _ _⟩ (ext_drew _), alloc3 _ _ _ _⟩
              · exact ⟨w2.heap.size + 1 + 1, w2.heap.size + 1, w2.heap.size, rfl, ⟨by omega, by omega, by omega, by omega, by omega, by omega⟩, RmS.ext ⟨bk3 _ _ _ _ _, ow2 _ _ _ _ _, ow1 _ _ _ _ _⟩ (ext_drew _), alloc3 _ _ _ _⟩
              · exact ⟨w2.heap.size + 1, w2.heap.size + 1 + 1, w2.heap.size, rfl, ⟨by omega, by omega, by omega, by omega, by omega, by omega⟩, RmS.ext ⟨bk2 _ _ _ _ _, ow3 _ _ _ _ _, ow1 _ _ _ _ _⟩ (ext_drew _), alloc3 _ _ _ _⟩
              · exact ⟨w2.heap.size, w2.heap.size + 1, w2.heap.size + 1 + 1, rfl, ⟨by omega, by omega, by omega, by omega, by omega, by omega⟩, RmS.ext ⟨bk1 _ _ _ _ _, ow2 _ _ _ _ _, ow3 _ _ _ _ _⟩ (ext_drew _), alloc3 _ _ _ _⟩
              · exact ⟨w2.heap.size, w2.heap.size + 1 + 1, w2.heap.size + 1, rfl, ⟨by omega, by omega, by omega, by omega, by omega, by omega⟩, RmS.ext ⟨bk1 _ _ _ _ _, ow3 _ _ _ _ _, ow2 _ _ _ _ _⟩ (ext_drew _), alloc3 _ _ _ _⟩
            case rest =>
              obtain ⟨g, bs, bu, rfl, ha, hp, hb⟩ := hcut
              have hsz2 : w.heap.size + 1 < w2.heap.size := g3
              have HA := Lib.hid (show Ap (w.heap.size + 2) g bs bu by have h1 := ha.1; have h2 := ha.2.1; have h3 := ha.2.2.1; exact ⟨by omega, by omega, by omega, ha.2.2.2⟩)
              have HA0 := Lib.hid (show Ap w.heap.size g bs bu by have h1 := ha.1; have h2 := ha.2.1; have h3 := ha.2.2.1; exact ⟨by omega, by omega, by omega, ha.2.2.2⟩)
              have HBW := Lib.hid (bext B2 hb B2.size)
              have HS0 := Lib.hid (show RqS g bs bu N A cap l w wc 0 mc0 wc from ⟨hp, (((HB.out.ext hx1).ext hx2)).ext hb, ((HB2.out.ext hx1).ext hx2).ext hb, But3.refl _ _ _ _⟩)
              have HBL := Lib.hid (fun V (h : But3 g bs bu wc V) => HBW.out.trans (h.below HA0.out HBW.out.size))
              have HO := Lib.hid (HW.out w (Below.refl _ w)).2
              have HDO := Lib.hid (fun (o : Opr) (hok : OpOk o) (h5 : o.c ≠ 5) (m : Mc) (V : World) (h : RmS g bs bu l.length 0 m V) (hm : McOk m) (hw0 : Below w.heap.size w V) => does_any (N := N) o hok h5 h HA0.out hm.2 (HW.out w (Below.refl _ w)).1 hw0 hc hcm)
              obtain ⟨r, hr⟩ : ∃ r, r = exec fuel N l ops mc0 := ⟨_, rfl⟩
              have HR := Lib.hid hr
              have HL0 := Lib.hid (show Left fuel N l ops r 0 1 mc0 by rw [hr]; exact Left.start)
              have hfu2 : fuel ≤ 100000 := HOK.out.2.2.1
              have hfu3 : 0 ≤ fuel := HOK.out.2.1
              have hl4 : ops.length ≤ 4096 := HOK.out.2.2.2.1
              clear hp hb f1 f2 f3 g1 g2 g3 hmk hmk8 hr ha HV HP B1 B2 hx1 hx2 HX HB HB2 hsz2
              go_upto_block 0 with (fail)
              go_cut [9, 10] (fun z1 z2 wx => ∃ f m, r = (f, m) ∧ RqS g bs bu N A cap l w wc f m wx)
              case first =>
                obtain ⟨x1, x2, x3⟩ := HS0.out.2.1.facts
                go_wp2_with (fail)
                go_loopg [10, 9] (ops.length * 102 + 1) (fun gg i z wr => ∃ (k t : Nat) (tz : Int) (m : Mc), i = .int .i64 k ∧ z = .int .i64 tz ∧ tz = (t : Int) ∧ k ≤ ops.length ∧ t ≤ 99 ∧ gg = (ops.length - k) * 102 + t ∧ RqS g bs bu N A cap l w wc 0 m wr ∧ McOk m ∧ m.s ≤ fuel ∧ Left fuel N l ops r k t m)
                case atStart => exact ⟨0, 1, 1, mc0, rfl, rfl, rfl, by omega, by omega, by omega, HS0.out, mc0_ok, hfu3, HL0.out⟩
                case round =>
                  obtain ⟨k, t, tz, m, rfl, rfl, htz, hk, ht, hg, hs, hm, hms, hl⟩ := hrel
                  have HG := Lib.hid hg
                  have HT := Lib.hid htz
                  have HS := Lib.hid hs
                  have HM := Lib.hid hm
                  have HL := Lib.hid hl
                  have HMS := Lib.hid hms
                  have HBV := Lib.hid (HBL.out _ hs.2.2.2)
                  clear hg htz hs hm hl hms x1 x2 x3 HS0 HL0
                  obtain ⟨x1, x2, x3⟩ := HS.out.2.1.facts
                  obtain ⟨f1, f2, f3⟩ := HS.out.1.1.facts
                  by_cases hlt : k < ops.length
                  · rcases HO.out with hf | ⟨b, off, hA, hblt, hcl⟩
                    · rw [hf] at hlt; simp at hlt
                    · subst hA
                      have HCL := Lib.hid (show ∀ W, Below w.heap.size w W → b < W.heap.size ∧ ∀ j (h : j < ops.length), W.cell? ⟨b, off + j * 3, none⟩ = some (.int .i64 ops[j].c) ∧ W.cell? ⟨b, off + j * 3 + 1, none⟩ = some (.int .i64 ops[j].g) ∧ W.cell? ⟨b, off + j * 3 + 2, none⟩ = some (.bool ops[j].b) from fun W hW => ⟨Nat.lt_of_lt_of_le hblt hW.size, fun j hj => by
                        obtain ⟨c1, c2, c3⟩ := hcl j hj
                        exact ⟨(hW.cell (p := ⟨b, _, none⟩) hblt).trans c1, (hW.cell (p := ⟨b, _, none⟩) hblt).trans c2, (hW.cell (p := ⟨b, _, none⟩) hblt).trans c3⟩⟩)
                      clear hblt hcl
                      obtain ⟨hblt, hcl⟩ := HCL.out _ HBV.out
                      obtain ⟨c1, c2, c3⟩ := hcl k hlt
                      have HC1 := Lib.hid (fun (W : World) (hW : Below w.heap.size w W) => (HCL.out W hW).2 k hlt)
                      have HOK2 := Lib.hid (HOK.out.2.2.2.2 _ (List.getElem_mem hlt))
                      obtain ⟨oo, hoo⟩ : ∃ oo, oo = ops[k] := ⟨_, rfl⟩
                      have HOO := Lib.hid hoo
                      rw [← hoo] at c1 c2 c3 HOK2 HC1
                      clear hcl hoo
                      by_cases ht0 : t = 0
                      · have htz : tz = 0 := by rw [HT.out, ht0]; rfl
                        have HL := Lib.hid (show Left fuel N l ops r (k + 1) 1 m from by have h := HL.out; rw [ht0] at h; exact h.zero)
                        have HT0 := Lib.hid ht0
                        subst htz
                        clear ht0
                        go_wp2
                        go_roundg ((ops.length - (k + 1)) * 102 + 1)
                        case measure => have := HG.out; have := HT0.out; omega
                        case rel => exact ⟨k + 1, 1, 1, m, by go_num, rfl, rfl, by omega, by omega, rfl, HS.out, HM.out, HMS.out, HL.out⟩
                      · obtain ⟨u, hu⟩ : ∃ u, t = u + 1 := ⟨t - 1, by omega⟩
                        subst hu
                        have htz0 : ¬ tz = 0 := by have := HT.out; omega
                        have htz1 : 1 ≤ tz ∧ tz ≤ 99 := by have := HT.out; omega
                        obtain ⟨htz1, htz2⟩ := htz1
                        clear ht0
                        by_cases hf : fuel ≤ m.s
                        · have HE := Lib.hid (HL.out.nofuel hlt hf)
                          have hfe : fuel = m.s := by have := HMS.out; omega
                          have HS2 := Lib.hid (HS.out.setF HA.out 10)
                          obtain ⟨ms, hms⟩ : ∃ ms, ms = m.s := ⟨_, rfl⟩
                          rw [← hms] at f1 hfe
                          subst hfe
                          clear hms hf
                          go_wp2
                          go_meet
                          case rel => exact ⟨10, m, HE.out, HS2.out⟩
                        · have hfl : m.s < fuel := by omega
                          have hfe : ¬ m.s = fuel := by omega
                          have hs0 : 0 ≤ m.s := HM.out.1
                          have HFL := Lib.hid hfl
                          clear hf
                          obtain ⟨oc, og, ob⟩ := oo
                          dsimp only at c1 c2 c3
                          by_cases h5 : oc = 5
                          · have h5' : (ops[k]).c = 5 := by rw [← HOO.out]; exact h5
                            by_cases hk1 : k + 1 = ops.length
                            · have HE := Lib.hid (HL.out.last hk1 h5' hfl)
                              have hk2 : IntKind.i64.wrap ((ops.length : Int) - 1) = (k : Int) := by rw [← hk1]; exact (IntWalk.i64_in _ ⟨by omega, by omega⟩).trans (by omega)
                              have HS2 := Lib.hid (HS.out.setF HA.out 8)
                              subst h5
                              clear h5' hk1
                              go_wp2
                              go_meet
                              case rel => exact ⟨8, m, HE.out, HS2.out⟩
                            · have hk1 : k + 1 < ops.length := by omega
                              have hk2 : IntKind.i64.wrap ((ops.length : Int) - 1) = (ops.length : Int) - 1 := IntWalk.i64_in _ ⟨by omega, by omega⟩
                              have hk3 : ¬ (k : Int) = (ops.length : Int) - 1 := by omega
                              have hk5 : IntKind.i64.wrap ((k : Int) + 1) = (k : Int) + 1 := IntWalk.i64_in _ ⟨by omega, by omega⟩
                              obtain ⟨d1, d2, d3⟩ := (HCL.out _ HBV.out).2 (k + 1) hk1
                              have HOK3 := Lib.hid (HOK.out.2.2.2.2 _ (List.getElem_mem hk1))
                              have HT2 := Lib.hid (HL.out.two hk1 h5' hfl)
                              have HRP := Lib.hid (HL.out.rep hk1 h5' hfl)
                              rw [← HOO.out] at HRP
                              have hu0 := Lib.hid (HL.out.five hlt h5').1
                              obtain ⟨o2, ho2⟩ : ∃ o2, o2 = ops[k + 1] := ⟨_, rfl⟩
                              rw [← ho2] at d1 d2 d3 HT2 HRP HOK3
                              obtain ⟨oc2, og2, ob2⟩ := o2
                              dsimp only at d1 d2 d3
                              clear ho2 h5'
                              by_cases h52 : oc2 = 5
                              · have HE := Lib.hid (HT2.out h52)
                                have HS2 := Lib.hid (HS.out.setF HA.out 9)
                                subst h5 h52
                                clear HRP HT2
                                go_wp2
                                go_meet
                                case rel => exact ⟨9, m, HE.out, HS2.out⟩
                              · have HE := Lib.hid (HRP.out h52)
                                have hgs := HOK2.out.2.2
                                subst h5
                                have hg0 : 0 ≤ og := hgs.1
                                have hg9 : og ≤ 99 := hgs.2.1
                                obtain ⟨q, rfl⟩ := Int.eq_ofNat_of_zero_le hg0
                                have HS2 := Lib.hid (HS.out.setS HA.out (m.s + 1))
                                clear HRP HT2 hgs hg0
                                go_wp2
                                go_roundg ((ops.length - (k + 1)) * 102 + q)
                                case measure => have := HG.out; have := hu0.out; omega
                                case rel => exact ⟨k + 1, q, (q : Int), { m with s := m.s + 1 }, by go_num, rfl, rfl, by omega, by omega, rfl, HS2.out, ⟨by show 0 ≤ m.s + 1; omega, HM.out.2⟩, by show m.s + 1 ≤ fuel; omega, by have h := HE.out; rw [show (⟨5, (q : Int), ob⟩ : Opr).g.toNat = q from Int.toNat_natCast q] at h; exact h⟩
                          · have h5' : (ops[k]).c ≠ 5 := by rw [← HOO.out]; exact h5
                            have HN5 := Lib.hid (show (⟨oc, og, ob⟩ : Opr).c ≠ 5 from h5)
                            have HLF := Lib.hid (HL.out.fault hlt h5' hfl)
                            have HLS := Lib.hid (HL.out.step hlt h5' hfl)
                            rw [← HOO.out] at HLF HLS
                            clear h5'
                            go_upto_region 24 with (fail)
                            refine wp_region_held_drew (S := (fun wx => wx.cell? ⟨w.heap.size, 0, none⟩ = some (.int .i64 N) ∧ wx.cell? ⟨w.heap.size, 1, none⟩ = some (.slice A l.length cap) ∧ wx.cell? ⟨b, off + k * 3, none⟩ = some (.int .i64 oc) ∧ wx.cell? ⟨b, off + k * 3 + 1, none⟩ = some (.int .i64 og) ∧ wx.cell? ⟨b, off + k * 3 + 2, none⟩ = some (.bool ob))) (by kernel_rfl) (⟨x1 0, x1 1, c1, c2, c3⟩) (fun hHeld => ?_)
                            refine wpAnyH_take (i := 0) (v := ?v1) rfl (by kernel_rfl) (by kernel_rfl) (by kernel_rfl) (fun _ _ _ h => h) (Or.inl ⟨by rfl, ?hy1⟩) hHeld ?rst1
                            case hy1 => (intro wx hSw; (try dsimp only at hSw); go_simp; try (with_reducible rfl))
                            try simp only [List.getElem_toArray, List.getElem_cons_zero, Act.put, List.setIfInBounds_toArray, List.set_cons_zero, List.set_cons_succ]
                            refine wpAnyH_take (i := 1) (v := ?v2) rfl (by kernel_rfl) (by kernel_rfl) (by kernel_rfl) (fun _ _ _ h => h) (Or.inl ⟨by rfl, ?hy2⟩) hHeld ?rst2
                            case hy2 => (intro wx hSw; (try dsimp only at hSw); go_simp; try (with_reducible rfl))
                            try simp only [List.getElem_toArray, List.getElem_cons_zero, List.getElem_cons_succ, Act.put, List.setIfInBounds_toArray, List.set_cons_zero, List.set_cons_succ]
                            refine wpAnyH_take (i := 2) (v := ?v3) rfl (by kernel_rfl) (by kernel_rfl) (by kernel_rfl) (fun _ _ _ h => h) (Or.inl ⟨by rfl, ?hy3⟩) hHeld ?rst3
                            case hy3 => (intro wx hSw; (try dsimp only at hSw); go_simp; try (with_reducible rfl))
                            try simp only [List.getElem_toArray, List.getElem_cons_zero, List.getElem_cons_succ, Act.put, List.setIfInBounds_toArray, List.set_cons_zero, List.set_cons_succ]
                            refine wpAnyH_take (i := 3) (v := ?v4) rfl (by kernel_rfl) (by kernel_rfl) (by kernel_rfl) (fun _ _ _ h => h) (Or.inl ⟨by rfl, ?hy4⟩) hHeld ?rst4
                            case hy4 => (intro wx hSw; (try dsimp only at hSw); go_simp; try (with_reducible rfl))
                            try simp only [List.getElem_toArray, List.getElem_cons_zero, List.getElem_cons_succ, Act.put, List.setIfInBounds_toArray, List.set_cons_zero, List.set_cons_succ]
                            refine wpAnyH_take (i := 4) (v := ?v5) rfl (by kernel_rfl) (by kernel_rfl) (by kernel_rfl) (fun _ _ _ h => h) (Or.inl ⟨by rfl, ?hy5⟩) hHeld ?rst5
                            case hy5 => (intro wx hSw; (try dsimp only at hSw); go_simp; try (with_reducible rfl))
                            try simp only [List.getElem_toArray, List.getElem_cons_zero, List.getElem_cons_succ, Act.put, List.setIfInBounds_toArray, List.set_cons_zero, List.set_cons_succ]
                            refine wpAnyH_ready (rs := [5]) (by kernel_rfl) (by simp) ?_
                            refine AllReadyH.cons rfl (fun K hK => ?_) AllReadyH.nil
                            go_simp
                            (go_at_call 70; refine (HDO.out ⟨oc, og, ob⟩ HOK2.out HN5.out m _ (HS.out.1.ext (ext_drew _)) HM.out (bext HBV.out (ext_drew _) HBV.out.size)).mono ?_; rintro e w4 ⟨rfl, hr4, hb4⟩; have HS4 := Lib.hid (HS.out.next HA.out hr4 ((But3.of (ext_drew _)).trans hb4)))
                            refine hK.out _ _ (⟨HS4.out.2.1.cell 0, HS4.out.2.1.cell 1, HC1.out _ (HBL.out _ HS4.out.2.2.2)⟩) (fun hHeld => ?_)
                            clear hK K
                            try simp only [List.getElem_toArray, List.getElem_cons_zero, List.getElem_cons_succ, Act.put, List.setIfInBounds_toArray, List.set_cons_zero, List.set_cons_succ]
                            refine wpAnyH_take (i := 6) (v := ?v6) rfl (by kernel_rfl) (by kernel_rfl) (by kernel_rfl) (fun _ _ _ h => h) (Or.inl ⟨by rfl, ?hy6⟩) hHeld ?rst6
                            case hy6 => (intro wx hSw; (try dsimp only at hSw); go_simp; try (with_reducible rfl))
                            try simp only [List.getElem_toArray, List.getElem_cons_zero, List.getElem_cons_succ, Act.put, List.setIfInBounds_toArray, List.set_cons_zero, List.set_cons_succ]
                            have HS5 := Lib.hid (HS4.out.setF HA.out (pst N l ⟨oc, og, ob⟩ m).1)
                            obtain ⟨q, hq⟩ : ∃ q, q = (pst N l ⟨oc, og, ob⟩ m).1 := ⟨_, rfl⟩
                            have HQ := Lib.hid hq
                            rw [← hq] at HS5 ⊢
                            clear hq
                            refine wpAnyH_ready (rs := [7]) (by kernel_rfl) (by simp) ?_
                            refine AllReadyH.cons rfl (fun K hK => ?_) AllReadyH.nil
                            obtain ⟨h1, h2, h3⟩ := HS4.out.1.1.facts
                            go_simp
                            refine hK.out _ _ (⟨HS5.out.2.1.cell 0, HS5.out.2.1.cell 1, HC1.out _ (HBL.out _ HS5.out.2.2.2)⟩) (fun hHeld => ?_)
                            clear hK K
                            try simp only [List.getElem_toArray, List.getElem_cons_zero, List.getElem_cons_succ, Act.put, List.setIfInBounds_toArray, List.set_cons_zero, List.set_cons_succ]
                            refine wpAnyH_done (by kernel_rfl) ?_ _
                            by_cases hq0 : q = 0
                            · have HE := Lib.hid (HLS.out (HQ.out.symm.trans hq0))
                              have HM6 := Lib.hid (pst_ok (N := N) (l := l) HM.out HOK2.out)
                              subst hq0
                              have HS6 := Lib.hid (HS5.out.setS HA.out ((pst N l ⟨oc, og, ob⟩ m).2.s + 1))
                              have HPS := Lib.hid (pst_s (N := N) (l := l) (o := ⟨oc, og, ob⟩) (m := m))
                              rw [HPS.out] at HS6
                              obtain ⟨mm, hmm⟩ : ∃ mm, mm = (pst N l ⟨oc, og, ob⟩ m).2 := ⟨_, rfl⟩
                              rw [← hmm] at HS4 HS5 HS6 HE HM6 HPS
                              clear hmm h1 h2 h3
                              obtain ⟨Z, hZ⟩ : ∃ Z, Z = w4.setCell ⟨g, 0, none⟩ (.int .i64 0) := ⟨_, rfl⟩
                              rw [← hZ] at HS5 HS6 ⊢
                              clear hZ
                              obtain ⟨h1, h2, h3⟩ := HS5.out.1.1.facts
                              rw [HPS.out] at h1
                              go_wp2
                              go_roundg ((ops.length - k) * 102 + u)
                              case measure => have := HG.out; omega
                              case rel => exact ⟨k, u, tz - 1, { mm with s := m.s + 1 }, rfl, by go_num, by have := HT.out; omega, by omega, by omega, rfl, HS6.out, ⟨by show 0 ≤ m.s + 1; omega, HM6.out.2⟩, by show m.s + 1 ≤ fuel; omega, HE.out⟩
                            · have HE := Lib.hid (HLF.out (fun h => hq0 (HQ.out.trans h)))
                              have hpf : (pst N l ⟨oc, og, ob⟩ m).2 = m := pst_fault (fun h => hq0 (HQ.out.trans h))
                              rw [hpf] at HS5
                              rw [← HQ.out] at HE
                              clear hpf
                              obtain ⟨Z, hZ⟩ : ∃ Z, Z = w4.setCell ⟨g, 0, none⟩ (.int .i64 q) := ⟨_, rfl⟩
                              rw [← hZ] at HS5 ⊢
                              clear hZ h1 h2 h3
                              obtain ⟨h1, h2, h3⟩ := HS5.out.1.1.facts
                              go_wp2
                              go_meet
                              case rel => exact ⟨q, m, HE.out, HS5.out⟩
                  · have HE := Lib.hid (HL.out.fin (by omega))
                    obtain rfl : k = ops.length := by omega
                    go_wp2
                    go_meet
                    case rel => exact ⟨0, m, HE.out, HS.out⟩
              case rest =>
                obtain ⟨f, m, hrf, hs⟩ := hcut
                have HF := Lib.hid hrf
                have HS := Lib.hid hs
                have HNE := Lib.hid (show w.heap.size + 1 ≠ g ∧ w.heap.size + 1 ≠ bs ∧ w.heap.size + 1 ≠ bu by have h1 := HA.out.1; have h2 := HA.out.2.1; have h3 := HA.out.2.2.1; omega)
                have HBV := Lib.hid (HBL.out _ hs.2.2.2)
                clear hrf hs
                obtain ⟨f1, f2, f3⟩ := HS.out.1.1.facts
                obtain ⟨g1, g2, g3⟩ := HS.out.2.2.1.facts
                have hs := Lib.hid (seven HS.out.2.2.1 (.int .i64 f) (.int .i64 m.s) (.int .i64 m.a) (.int .i64 m.h) (.int .i64 m.k) (.slice (some ⟨bs, 0, none⟩) l.length l.length) (.slice (some ⟨bu, 0, none⟩) 8 8))
                have hbs := Lib.hid (sevenB HBV.out (show w.heap.size ≤ w.heap.size + 1 by omega) (.int .i64 f) (.int .i64 m.s) (.int .i64 m.a) (.int .i64 m.h) (.int .i64 m.k) (.slice (some ⟨bs, 0, none⟩) l.length l.length) (.slice (some ⟨bu, 0, none⟩) 8 8))
                have ho1 := Lib.hid (sevenO HS.out.1.2.1 (Ne.symm HNE.out.2.1) (.int .i64 f) (.int .i64 m.s) (.int .i64 m.a) (.int .i64 m.h) (.int .i64 m.k) (.slice (some ⟨bs, 0, none⟩) l.length l.length) (.slice (some ⟨bu, 0, none⟩) 8 8))
                have ho2 := Lib.hid (sevenO HS.out.1.2.2 (Ne.symm HNE.out.2.2) (.int .i64 f) (.int .i64 m.s) (.int .i64 m.a) (.int .i64 m.h) (.int .i64 m.k) (.slice (some ⟨bs, 0, none⟩) l.length l.length) (.slice (some ⟨bu, 0, none⟩) 8 8))
                go_wp2
                have p1 := hs.out.facts.1
                refine bodyPost_ret (v := .tuple #[.agg #[.int .i64 f, .int .i64 m.s, .int .i64 m.a, .int .i64 m.h, .int .i64 m.k, .slice (some ⟨bs, 0, none⟩) l.length l.length, .slice (some ⟨bu, 0, none⟩) 8 8], .int .i64 0]) (by simp [results, Try.results43, go_sem, p1]) rfl ?_
                have he : exec fuel N l ops mc0 = (f, m) := HR.out.symm.trans HF.out
                exact ⟨hbs.out, .inr ⟨HOK.out, bs, bu, by rw [he], by rw [he]; exact ho1.out, by rw [he]; exact ho2.out⟩⟩
          · have hpt : decide (PrOk ops) = false := decide_eq_false hp
            rw [hpt] at HP
            have HN := Lib.hid (show ¬ RnOk N l ops fuel ∧ rnErr N l ops fuel = 2 from ⟨fun h => hp h.2.2.2.2, by unfold rnErr; rw [if_neg (fun h => h ⟨hok, hfu⟩), if_neg h4]⟩)
            clear hok hv hfu hp hpt
            go_enter Try.func43, Try.ntmps43
            go_wp2_with (first | (go_at_call 22; refine (HV.out _ (HW.out _ HX.out).1).mono ?_; rintro e w1 ⟨rfl, hx1⟩; have B1 := bext HX.out hx1 HX.out.size; obtain ⟨f1, f2, f3⟩ := (HB.out.ext hx1).facts; obtain ⟨g1, g2, g3⟩ := (HB2.out.ext hx1).facts) | (go_at_call 45; refine (HP.out _ (HW.out _ B1).2).mono ?_; rintro e w2 ⟨rfl, hx2⟩; have B2 := bext B1 hx2 B1.size; clear f1 f2 f3 g1 g2 g3; obtain ⟨f1, f2, f3⟩ := ((HB.out.ext hx1).ext hx2).facts; obtain ⟨g1, g2, g3⟩ := ((HB2.out.ext hx1).ext hx2).facts))
            have hs := seven ((HB2.out.ext hx1).ext hx2) (.int .i64 0) (.int .i64 0) (.int .i64 0) (.int .i64 0) (.int .i64 0) (.slice none 0 0) (.slice none 0 0)
            have hbs := sevenB B2 (show w.heap.size ≤ w.heap.size + 1 by omega) (.int .i64 0) (.int .i64 0) (.int .i64 0) (.int .i64 0) (.int .i64 0) (.slice none 0 0) (.slice none 0 0)
            have p1 := hs.facts.1
            refine bodyPost_ret (v := .tuple #[rep0, .int .i64 2]) (by simp [results, Try.results43, go_sem, p1, rep0]) rfl ?_
            exact ⟨hbs, .inl ⟨HN.out.1, by rw [HN.out.2]⟩⟩
  · have hv := vldG_no hok
    rw [hv] at HV
    have HN := Lib.hid (show ¬ RnOk N l ops fuel ∧ rnErr N l ops fuel = 2 from ⟨fun h => hok h.1, by unfold rnErr; rw [if_pos (fun h => hok h.1)]⟩)
    clear hok hv
    go_enter Try.func43, Try.ntmps43
    go_wp2_with (go_at_call 22; refine (HV.out _ (HW.out _ HX.out).1).mono ?_; rintro e w1 ⟨rfl, hx1⟩; have B1 := bext HX.out hx1 HX.out.size; obtain ⟨f1, f2, f3⟩ := (HB.out.ext hx1).facts; obtain ⟨g1, g2, g3⟩ := (HB2.out.ext hx1).facts)
    have hs := seven (HB2.out.ext hx1) (.int .i64 0) (.int .i64 0) (.int .i64 0) (.int .i64 0) (.int .i64 0) (.slice none 0 0) (.slice none 0 0)
    have hbs := sevenB B1 (show w.heap.size ≤ w.heap.size + 1 by omega) (.int .i64 0) (.int .i64 0) (.int .i64 0) (.int .i64 0) (.int .i64 0) (.slice none 0 0) (.slice none 0 0)
    have p1 := hs.facts.1
    refine bodyPost_ret (v := .tuple #[rep0, .int .i64 2]) (by simp [results, Try.results43, go_sem, p1, rep0]) rfl ?_
    exact ⟨hbs, .inl ⟨HN.out.1, by rw [HN.out.2]⟩⟩
end Go.Proofs.Ytbhjhajnhpohlaa
