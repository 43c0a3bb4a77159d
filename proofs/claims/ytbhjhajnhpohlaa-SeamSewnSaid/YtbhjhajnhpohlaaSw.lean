/- sews walked, the program's. Conditions: a valid graph; the runs read as lists of moves. -/
import Derived.Test.YtbhjhajnhpohlaaSwP
import Derived.Test.YtbhjhajnhpohlaaClQ
namespace Go.Proofs.Ytbhjhajnhpohlaa
open Go.RowKit

theorem D_cnt {D : List Int} {n : Nat} (h : D.length ≤ cnt (fun q => decide ((q : Int) ∈ D)) n) {x : Int} (h0 : 0 ≤ x) (h1 : x < n) (h2 : x ∉ D) : (D ++ [x]).length ≤ cnt (fun q => decide ((q : Int) ∈ D ++ [x])) n := by
  obtain ⟨k, rfl⟩ := Int.eq_ofNat_of_zero_le h0
  have hlt : cnt (fun q : Nat => decide ((q : Int) ∈ D)) n < cnt (fun q : Nat => decide ((q : Int) ∈ D ++ [(k : Int)])) n := by
    refine cnt_lt (fun j _ hp => ?_) ⟨k, by omega, decide_eq_false h2, decide_eq_true (by simp)⟩
    have := of_decide_eq_true hp
    exact decide_eq_true (by simp [this])
  simp only [List.length_append, List.length_cons, List.length_nil]
  omega
/-- sews' own memory -/
def SwS (w : World) (N : Int) (A : Option Addr) (cap n : Nat) (D : List Int) (wr : World) : Prop :=
  Below w.heap.size w wr ∧ Bk 30 wr w.heap.size #[.int .i64 N, .slice A n cap] ∧ OwB (w.heap.size + 1) n (fun q => decide ((q : Int) ∈ D)) wr ∧ D.length ≤ cnt (fun q => decide ((q : Int) ∈ D)) n
section
variable {w : World} {N : Int} {A : Option Addr} {cap n : Nat} {D : List Int} {wr w' : World}
theorem SwS.ext (h : SwS w N A cap n D wr) (hb : Below wr.heap.size wr w') : SwS w N A cap n D w' := ⟨bext h.1 hb h.1.size, h.2.1.ext hb, h.2.2.1.ext hb, h.2.2.2⟩
theorem SwS.set (h : SwS w N A cap n D wr) {k : Nat} (h1 : (k : Int) < n) (h2 : (k : Int) ∉ D) : SwS w N A cap n (D ++ [(k : Int)]) (wr.setCell ⟨w.heap.size + 1, k, none⟩ (.bool true)) := by
  have h3 := h.2.2.1.set k true
  have e : updB (fun q : Nat => decide ((q : Int) ∈ D)) k true = fun q : Nat => decide ((q : Int) ∈ D ++ [(k : Int)]) := by
    funext q
    unfold updB
    by_cases hq : q = k
    · rw [if_pos hq, hq]; simp
    · rw [if_neg hq]
      have : (q : Int) ≠ k := by omega
      simp [this]
  rw [e] at h3
  exact ⟨h.1.setCell (by show w.heap.size ≤ w.heap.size + 1; omega) _, h.2.1.set_ne (by omega) _, h3, D_cnt h.2.2.2 (by omega) h1 h2⟩
theorem SwS.len (h : SwS w N A cap n D wr) : D.length ≤ n := Nat.le_trans h.2.2.2 (cnt_le _ _)
theorem SwS.start (w : World) (N : Int) (A : Option Addr) (cap n : Nat) : SwS w N A cap n [] ((w.alloc (.cells #[.int .i64 N, .slice A n cap] 30)).alloc (.cells (cellsB n fun _ => false) 4)) := by
  have h2 := OwB.new (w.alloc (.cells #[.int .i64 N, .slice A n cap] 30)) n (fun _ => false)
  simp only [World.size_alloc] at h2
  refine ⟨((Below.refl _ _).alloc (Nat.le_refl _) _).alloc (by simp) _, (Bk.new _ w _).alloc _, ?_, Nat.zero_le _⟩
  have e : (fun q : Nat => decide ((q : Int) ∈ ([] : List Int))) = fun _ => false := by funext q; simp
  rw [e]; exact h2
end
theorem pAll_step {l : List Sm} {ls : List (List Mv)} {k : Nat} (hk : k < ls.length) {run : List Mv} (hr : run = ls[k]) (D : List Int) : pAll l (ls.drop k) D = if run = [] then none else match pRun l run run.length 0 D with | none => none | some D' => pAll l (ls.drop (k + 1)) D' := by
  rw [List.drop_eq_getElem_cons hk, ← hr]
  rfl
theorem pRun_step {l : List Sm} {run : List Mv} {i : Nat} (hi : i < run.length) {m : Mv} (hm : m = run[i]) (D : List Int) : pRun l run (run.length - i) i D = if m.inG l ∧ m.k ∉ D ∧ (fol l run i ∧ thd l run i) then pRun l run (run.length - (i + 1)) (i + 1) (D ++ [m.k]) else none := by
  rw [show run.length - i = run.length - (i + 1) + 1 by omega]
  show (if (run.getD i default).inG l ∧ _ then _ else _) = _
  have e : run.getD i default = m := by rw [hm, List.getD_eq_getElem?_getD, List.getElem?_eq_getElem hi]; rfl
  rw [e]
theorem sewB_no {l : List Sm} {ls : List (List Mv)} (h : pAll l ls [] = none) : sewB l ls = false := by unfold sewB; rw [h]

set_option maxRecDepth 100000 in
set_option maxHeartbeats 4000000 in
theorem sews_any (N : Int) (A : Option Addr) (cap : Nat) (l : List Sm) (C : Option Addr) (cc : Nat) (ls : List (List Mv)) (w : World) (hok : GOk N l) (hc : l.length ≤ cap) (hcm : cap ≤ 9223372036854775807) (h : SSl w A l) (hcc : ls.length ≤ cc) (hcc2 : cc ≤ 9223372036854775807) (hr : RSl w C ls) :
    Calls Try.prog 61 #[.agg #[.int .i64 N, .slice A l.length cap], .slice C ls.length cc] w fun e w' => e = .returned (.bool (sewB l ls)) ∧ Below w.heap.size w w' := by
  have H := Lib.hid h
  have HR := Lib.hid hr
  have HS0 := Lib.hid (SwS.start w N A cap l.length)
  have HEN := Lib.hid (fun (m : Mv) W (h : SSl W A l) (hk : 0 ≤ m.k ∧ m.k < (l.length : Int)) => ends_any N A cap l m W hc hcm h hk)
  have l64 := hok.2.2.1
  have hmk := run_falses l.length (by omega)
  clear h hr hok
  go_enter Try.func61, Try.ntmps61
  go_wp2
  go_loopg [21, 6] ls.length (fun g i z wr => ∃ (k : Nat) (D : List Int), i = .int .i64 k ∧ z = .int .i64 (D.length : Nat) ∧ k ≤ ls.length ∧ g = ls.length - k ∧ SwS w N A cap l.length D wr ∧ pAll l ls [] = pAll l (ls.drop k) D)
  case atStart => exact ⟨0, [], rfl, rfl, by omega, by omega, HS0.out, rfl⟩
  case round =>
    obtain ⟨k, D, rfl, rfl, hk, hg, hs, hp⟩ := hrel
    have HG := Lib.hid hg
    have HS := Lib.hid hs
    have HP := Lib.hid hp
    obtain ⟨f1, f2, f3⟩ := hs.2.1.facts
    have hb := hs.1
    clear hg hs hp HS0
    by_cases hlt : k < ls.length
    · have hf := HR.out
      rcases hf with hf | ⟨b, off, rfl, hblt, hcl⟩
      · rw [hf] at hlt; simp at hlt
      · obtain ⟨A', c', c1, k1, k2, hm⟩ := hcl k hlt
        have HST := Lib.hid (fun run hr => pAll_step (l := l) hlt (run := run) hr D)
        obtain ⟨run, hrun⟩ : ∃ run, run = ls[k] := ⟨_, rfl⟩
        rw [← hrun] at c1 k1 hm
        have c1 := (hb.cell (p := ⟨b, off + k, none⟩) hblt).trans c1
        have hblt := Nat.lt_of_lt_of_le hblt hb.size
        have HM := Lib.hid hm
        have HST2 := Lib.hid (HST.out run hrun)
        clear hrun hm hcl HST
        by_cases he : run = []
        · have HN := Lib.hid (sewB_no (l := l) (ls := ls) (by rw [HP.out, HST2.out, if_pos he]))
          subst he
          go_wp2
          go_ret
          exact ⟨ret_bool HN.out.symm, hb⟩
        · have hl0 : (run.length == 0) = false := by simpa using he
          have hl1 : 0 < run.length := by cases run with | nil => exact absurd rfl he | cons => simp
          have hl2 : ¬ (run.length : Int) = 0 := by omega
          have hl3 : ((run.length : Int) == 0) = false := by simp; omega
          have HST3 := Lib.hid (HST2.out.trans (if_neg he))
          clear HST2 he
          obtain ⟨wo, rfl⟩ : ∃ wo : World, wo = wr := ⟨_, rfl⟩
          go_wp2
          go_loopg [30, 6] run.length (fun g j z wr => ∃ (i : Nat) (D' : List Int), j = .int .i64 i ∧ z = .int .i64 (D'.length : Nat) ∧ i ≤ run.length ∧ g = run.length - i ∧ SwS w N A cap l.length D' wr ∧ pRun l run run.length 0 D = pRun l run (run.length - i) i D' ∧ ∀ j, j < i → (run.getD j default).inG l)
          case atStart => exact ⟨0, D, rfl, rfl, by omega, by omega, HS.out, rfl, fun j hj => by omega⟩
          case round =>
            obtain ⟨i, D', rfl, rfl, hi, hg, hs, hp, hall⟩ := hrel
            have HALL := Lib.hid hall
            clear hall
            have HG2 := Lib.hid hg
            have HS2 := Lib.hid hs
            have HP2 := Lib.hid hp
            obtain ⟨f1, f2, f3⟩ := hs.2.1.facts
            have hb := hs.1
            have hdl := hs.len
            clear hg hs hp HS
            by_cases hli : i < run.length
            · skip
              rcases HM.out with hf | ⟨b2, off2, rfl, hbw2, hclw⟩
              · rw [hf] at hli; simp at hli
              · have HCW := Lib.hid (show ∀ W', Below w.heap.size w W' → ∀ j (hj : j < run.length), W'.cell? ⟨b2, off2 + j * 2, none⟩ = some (.int .i64 run[j].k) ∧ W'.cell? ⟨b2, off2 + j * 2 + 1, none⟩ = some (.bool run[j].r) from fun W' hW' j hj => ⟨(hW'.cell (p := ⟨b2, _, none⟩) hbw2).trans (hclw j hj).1, (hW'.cell (p := ⟨b2, _, none⟩) hbw2).trans (hclw j hj).2⟩)
                have hblt2 := Nat.lt_of_lt_of_le hbw2 hb.size
                have hcl2 := HCW.out wr hb
                clear hclw
                obtain ⟨d1, d2⟩ := hcl2 i hli
                have HPS := Lib.hid (fun m hm => pRun_step (l := l) hli (m := m) hm D')
                obtain ⟨m, hm⟩ : ∃ m, m = run[i] := ⟨_, rfl⟩
                rw [← hm] at d1 d2
                have HMI := Lib.hid hm
                have hps := HPS.out m hm
                have HFAIL := Lib.hid (show pRun l run (run.length - i) i D' = none → sewB l ls = false from fun hx => sewB_no (by rw [HP.out, HST3.out, HP2.out, hx]))
                clear hm HPS
                by_cases hin : m.inG l
                · by_cases hmem : m.k ∈ D'
                  · have HN := Lib.hid (HFAIL.out (hps.trans (if_neg (fun h => h.2.1 hmem))))
                    obtain ⟨mk, mr⟩ := m
                    obtain ⟨n1, n2⟩ := hin
                    dsimp only at d1 d2 n1 n2 hmem
                    obtain ⟨q, rfl⟩ := Int.eq_ofNat_of_zero_le n1
                    have q1 := HS2.out.2.2.1.cell (i := q) (by omega)
                    rw [decide_eq_true hmem] at q1
                    have q2 := HS2.out.2.2.1.lt
                    clear hps hcl2 hmem
                    go_wp2
                    go_ret
                    exact ⟨ret_bool HN.out.symm, hb.alloc hb.size _⟩
                  · obtain ⟨mk, mr⟩ := m
                    obtain ⟨n1, n2⟩ := hin
                    dsimp only at d1 d2 n1 n2 hmem hps
                    obtain ⟨q, rfl⟩ := Int.eq_ofNat_of_zero_le n1
                    have q1 := HS2.out.2.2.1.cell (i := q) (by omega)
                    rw [decide_eq_false hmem] at q1
                    have q2 := HS2.out.2.2.1.lt
                    have q3 := HS2.out.2.2.1.frozen q
                    have hset := (HS2.out.set (k := q) n2 hmem).ext (ext_alloc _ (.cells #[.int .i64 (q : Int), .bool mr] 72))
                    have HSET := Lib.hid hset
                    have HINM := Lib.hid (show (⟨(q : Int), mr⟩ : Mv).inG l from ⟨n1, n2⟩)
                    have HPS := Lib.hid hps
                    have HMEM := Lib.hid hmem
                    have HGD := Lib.hid (show run.getD i default = ⟨(q : Int), mr⟩ from by rw [HMI.out, List.getD_eq_getElem?_getD, List.getElem?_eq_getElem hli]; rfl)
                    have hdl2 : D'.length ≤ 64 := by omega
                    clear hps hmem hset
                    by_cases hi0 : i = 0
                    · have HNX := Lib.hid (show pRun l run run.length 0 D = pRun l run (run.length - (i + 1)) (i + 1) (D' ++ [(q : Int)]) from by
                        rw [HP2.out, HPS.out, if_pos ⟨HINM.out, HMEM.out, .inl hi0, by unfold thd; rw [hi0]⟩])
                      have HALL2 := Lib.hid (show ∀ j, j < i + 1 → (run.getD j default).inG l from fun j hj => by
                        rw [show j = i by omega, HGD.out]; exact HINM.out)
                      have hz : ((i : Int) == 0) = true := by simp; omega
                      have HI0 := Lib.hid hi0
                      clear hi0 hcl2
                      go_wp2
                      go_roundg (run.length - (i + 1))
                      case measure => have := HG2.out; omega
                      case rel => exact ⟨i + 1, D' ++ [(q : Int)], by go_num, by simp, by omega, rfl, HSET.out, HNX.out, HALL2.out⟩
                    · have hz : ((i : Int) == 0) = false := by simp; omega
                      have hz2 : ¬ (i : Int) = 0 := by omega
                      obtain ⟨ip, rfl⟩ : ∃ ip, i = ip + 1 := ⟨i - 1, by omega⟩
                      have hlp : ip < run.length := by omega
                      have hl00 : 0 < run.length := by omega
                      have GD : ∀ j (hj : j < run.length), run.getD j default = run[j] := fun j hj => by rw [List.getD_eq_getElem?_getD, List.getElem?_eq_getElem hj]; rfl
                      have hp1 := HALL.out ip (by omega)
                      have hp0 := HALL.out 0 (by omega)
                      rw [GD ip hlp] at hp1
                      rw [GD 0 hl00] at hp0
                      have HPC := Lib.hid (fun W' hW' => HCW.out W' hW' ip hlp)
                      have HRC := Lib.hid (fun W' hW' => HCW.out W' hW' 0 hl00)
                      have hfol : fol l run (ip + 1) ↔ run[ip].to_ l = (⟨(q : Int), mr⟩ : Mv).from l := by
                        unfold fol
                        rw [HGD.out, Nat.add_sub_cancel, GD ip hlp]
                        exact ⟨fun h => h.resolve_left (by omega), .inr⟩
                      have hthd : thd l run (ip + 1) ↔ (⟨(q : Int), mr⟩ : Mv).thr l = run[0].thr l := by
                        unfold thd
                        rw [HGD.out, GD 0 hl00]
                      have hALL2 : ∀ j, j < ip + 1 + 1 → (run.getD j default).inG l := fun j hj => by
                        by_cases hji : j < ip + 1
                        · exact HALL.out j hji
                        · rw [show j = ip + 1 by omega, HGD.out]; exact HINM.out
                      have HALL2 := Lib.hid hALL2
                      have HFOL := Lib.hid hfol
                      have HTHD := Lib.hid hthd
                      clear hfol hthd hALL2 hcl2 GD HCW
                      obtain ⟨pm, hpm⟩ : ∃ pm, pm = run[ip] := ⟨_, rfl⟩
                      obtain ⟨rm, hrm⟩ : ∃ rm, rm = run[0] := ⟨_, rfl⟩
                      rw [← hpm] at hp1 HPC HFOL
                      rw [← hrm] at hp0 HRC HTHD
                      clear hpm hrm
                      obtain ⟨pk, pr⟩ := pm
                      obtain ⟨rk, rr⟩ := rm
                      have HP1 := Lib.hid hp1
                      have HP0 := Lib.hid hp0
                      go_upto_region 15 with (fail)
                      have HB1 := Lib.hid (show Bk 72 ((wr.setCell ⟨w.heap.size + 1, q, none⟩ (.bool true)).alloc (.cells #[.int .i64 (q : Int), .bool mr] 72)) wr.heap.size #[.int .i64 (q : Int), .bool mr] from by
                        have h := Bk.new 72 (wr.setCell ⟨w.heap.size + 1, q, none⟩ (.bool true)) #[.int .i64 (q : Int), .bool mr]
                        simpa using h)
                      obtain ⟨W, hW⟩ : ∃ W, W = (wr.setCell ⟨w.heap.size + 1, q, none⟩ (.bool true)).alloc (.cells #[.int .i64 (q : Int), .bool mr] 72) := ⟨_, rfl⟩
                      rw [← hW] at HSET HB1 ⊢
                      clear hW
                      obtain ⟨g, hg⟩ : ∃ g, g = wr.heap.size := ⟨_, rfl⟩
                      rw [← hg] at HB1 ⊢
                      clear hg HS2 d1 d2 q1 q2 q3 f1 f2 f3 hb hblt2
                      obtain ⟨f1, f2, f3⟩ := HSET.out.2.1.facts
                      obtain ⟨e1, e2, e3⟩ := HB1.out.facts
                      go_upto_region 16 with (go_at_call 73; refine (HEN.out ⟨(q : Int), mr⟩ _ (H.out.ext HSET.out.1) ⟨n1, n2⟩).mono ?_; rintro e w1 ⟨rfl, hx1⟩; have HS5 := Lib.hid (HSET.out.ext hx1); have HB5 := Lib.hid (HB1.out.ext hx1); obtain ⟨f1, f2, f3⟩ := HS5.out.2.1.facts; obtain ⟨e1, e2, e3⟩ := HB5.out.facts)
                      have hpc := HPC.out w1 HS5.out.1
                      have HK := Lib.hid (show ∀ wx wy, Below wx.heap.size wx wy → Below w1.heap.size w1 wx → (Below w1.heap.size w1 wy ∧ wy.cell? ⟨w.heap.size, 0, none⟩ = some (.int .i64 N) ∧ wy.cell? ⟨w.heap.size, 1, none⟩ = some (.slice A l.length cap) ∧ wy.cell? ⟨b2, off2 + ip * 2, none⟩ = some (.int .i64 pk) ∧ wy.cell? ⟨b2, off2 + ip * 2 + 1, none⟩ = some (.bool pr)) from fun wx wy h1 h2 =>
                        have h3 := bext h2 h1 h2.size
                        have h4 := HS5.out.ext h3
                        ⟨h3, h4.2.1.cell 0, h4.2.1.cell 1, (HPC.out wy h4.1).1, (HPC.out wy h4.1).2⟩)
                      have iz6 : IntKind.i64.wrap (ip : Int) = (ip : Int) := IntWalk.i64_in _ ⟨by omega, by omega⟩
                      have iz0 : (0 : Int) ≤ (ip : Int) := by omega
                      have iz1 : (ip : Int) < (run.length : Int) := by omega
                      go_cut [13, 14] (fun z1 z2 wx => z2 = .int .i64 ((⟨pk, pr⟩ : Mv).to_ l) ∧ Below w1.heap.size w1 wx)
                      case first =>
                        go_region_held3 (fun wx => Below w1.heap.size w1 wx ∧ wx.cell? ⟨w.heap.size, 0, none⟩ = some (.int .i64 N) ∧ wx.cell? ⟨w.heap.size, 1, none⟩ = some (.slice A l.length cap) ∧ wx.cell? ⟨b2, off2 + ip * 2, none⟩ = some (.int .i64 pk) ∧ wx.cell? ⟨b2, off2 + ip * 2 + 1, none⟩ = some (.bool pr))
                          (first | exact HK.out _ _ (by assumption) (And.left (by assumption)) | exact HK.out _ _ (ext_drew _) (Below.refl _ _))
                          ((go_at_call 73; refine (HEN.out ⟨pk, pr⟩ _ ?_ HP1.out).mono ?_; exact H.out.ext (bext HS5.out.1 (And.left (by assumption)) HS5.out.1.size); rintro e w4 ⟨rfl, hx4⟩))
                        all_goals
                          go_wp2
                          go_meet
                          exact ⟨rfl, And.left (by assumption)⟩
                      case rest =>
                        obtain ⟨rfl, hx⟩ := hcut
                        go_wp2
                        have hs6 := HS5.out.ext hx
                        have hb6 := HB5.out.ext hx
                        have HS6 := Lib.hid hs6
                        have hr0 := (HRC.out wc HS6.out.1).1
                        have hxw := HS6.out.1
                        have hss := H.out.ext hxw
                        clear f1 f2 f3 e1 e2 e3 hpc HK iz6 hx1 HS5 HB5
                        obtain ⟨f1, f2, f3⟩ := hs6.2.1.facts
                        obtain ⟨e1, e2, e3⟩ := hb6.facts
                        clear hs6 hb6
                        have hbw3 := Nat.lt_of_lt_of_le hbw2 hxw.size
                        rw [Nat.zero_mul, Nat.add_zero] at hr0
                        obtain ⟨X, hX⟩ : ∃ X, X = (⟨pk, pr⟩ : Mv).to_ l := ⟨_, rfl⟩
                        obtain ⟨Y, hY⟩ : ∃ Y, Y = (⟨(q : Int), mr⟩ : Mv).from l := ⟨_, rfl⟩
                        rw [← hX, ← hY] at HFOL
                        rw [← hX, ← hY]
                        clear hX hY
                        by_cases hXY : X = Y
                        · have HF := Lib.hid (HFOL.out.2 hXY)
                          subst hXY
                          rcases hss with hss | ⟨b3, off3, rfl, hblt3, hc3⟩
                          · rw [hss] at n2; simp at n2; omega
                          · obtain ⟨p1, p2⟩ := hp0
                            dsimp only at p1 p2
                            obtain ⟨q0, rfl⟩ := Int.eq_ofNat_of_zero_le p1
                            have hq : q < l.length := by omega
                            have hq0 : q0 < l.length := by omega
                            obtain ⟨-, -, -, s1⟩ := hc3 q hq
                            obtain ⟨-, -, -, s2⟩ := hc3 q0 hq0
                            have t1 : (⟨(q : Int), mr⟩ : Mv).thr l = l[q].t := by unfold Mv.thr; rw [Int.toNat_natCast, List.getElem?_eq_getElem hq]
                            have t2 : (⟨(q0 : Int), rr⟩ : Mv).thr l = l[q0].t := by unfold Mv.thr; rw [Int.toNat_natCast, List.getElem?_eq_getElem hq0]
                            rw [t1, t2] at HTHD
                            obtain ⟨T1, hT1⟩ : ∃ T1, T1 = l[q].t := ⟨_, rfl⟩
                            obtain ⟨T2, hT2⟩ : ∃ T2, T2 = l[q0].t := ⟨_, rfl⟩
                            rw [← hT1] at s1 HTHD
                            rw [← hT2] at s2 HTHD
                            clear hT1 hT2 t1 t2 hc3 p1 HFOL
                            by_cases hTT : T1 = T2
                            · have HT := Lib.hid (HTHD.out.2 hTT)
                              have HNX := Lib.hid (HP2.out.trans (HPS.out.trans (if_pos ⟨HINM.out, HMEM.out, HF.out, HT.out⟩)))
                              subst hTT
                              clear HPS HTHD HP2
                              go_quiet (fail)
                              go_wp2
                              go_roundg (run.length - (ip + 1 + 1))
                              case measure => have := HG2.out; omega
                              case rel => exact ⟨ip + 1 + 1, D' ++ [(q : Int)], by go_num, by simp, by omega, rfl, HS6.out.ext (ext_drewN _ _), HNX.out, HALL2.out⟩
                            · have HN := Lib.hid (HFAIL.out (HPS.out.trans (if_neg (fun h => hTT (HTHD.out.1 h.2.2.2)))))
                              have hne : (T1 != T2) = true := by simpa using hTT
                              clear HPS HTHD HP2
                              go_quiet (fail)
                              go_wp2
                              go_ret
                              exact ⟨ret_bool HN.out.symm, bext hxw (ext_drewN _ _) hxw.size⟩
                        · have HN := Lib.hid (HFAIL.out (HPS.out.trans (if_neg (fun h => hXY (HFOL.out.1 h.2.2.1)))))
                          have hne : (X != Y) = true := by simpa using hXY
                          clear HPS HFOL HP2 hss
                          go_quiet (fail)
                          go_wp2
                          go_ret
                          exact ⟨ret_bool HN.out.symm, bext hxw (ext_drewN _ _) hxw.size⟩
                · have HN := Lib.hid (HFAIL.out (hps.trans (if_neg (fun h => hin h.1))))
                  have hcs : m.k < 0 ∨ (0 ≤ m.k ∧ (l.length : Int) ≤ m.k) := by unfold Mv.inG at hin; omega
                  obtain ⟨mk, mr⟩ := m
                  dsimp only at d1 d2 hcs
                  clear hin hps hcl2
                  rcases hcs with hcs | ⟨hcs, hcs2⟩
                  all_goals
                    go_wp2
                    go_ret
                    exact ⟨ret_bool HN.out.symm, hb.alloc hb.size _⟩
            · obtain rfl : i = run.length := by omega
              have HQ := Lib.hid (show pAll l ls [] = pAll l (ls.drop (k + 1)) D' from by
                rw [HP.out, HST3.out, HP2.out, Nat.sub_self]; rfl)
              have HS4 := HS2.out
              go_wp2
              go_roundg (ls.length - (k + 1))
              case measure => have := HG.out; omega
              case rel => exact ⟨k + 1, D', by go_num, rfl, by omega, rfl, HS4, HQ.out⟩
    · obtain rfl : k = ls.length := by omega
      have HN := Lib.hid (show sewB l ls = decide (D.length = l.length) from by unfold sewB; rw [HP.out, List.drop_length]; rfl)
      have hdl := HS.out.len
      by_cases hd : D.length = l.length
      · have hd2 : (((D.length : Nat) : Int) == (l.length : Int)) = true := by simp; omega
        rw [decide_eq_true hd] at HN
        clear hd
        go_wp2
        go_ret
        exact ⟨ret_bool HN.out.symm, hb⟩
      · have hd2 : (((D.length : Nat) : Int) == (l.length : Int)) = false := by simp; omega
        rw [decide_eq_false hd] at HN
        clear hd
        go_wp2
        go_ret
        exact ⟨ret_bool HN.out.symm, hb⟩
end Go.Proofs.Ytbhjhajnhpohlaa
