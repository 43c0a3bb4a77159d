/- The reference's Ends, Walk, Sews walked. Conditions: a valid graph; the runs read as lists of moves. -/
import Derived.Test.YtbhjhajnhpohlaaSw
import Derived.Test.YtbhjhajnhpohlaaRv
namespace Go.Proofs.Ytbhjhajnhpohlaa
open Go.RowKit

set_option maxRecDepth 100000 in
set_option maxHeartbeats 2000000 in
theorem rEnds_any (N : Int) (A : Option Addr) (cap : Nat) (l : List Sm) (m : Mv) (w : World) (_hc : l.length ≤ cap) (_hcm : cap ≤ 9223372036854775807) (h : SSl w A l) (hk : 0 ≤ m.k ∧ m.k < l.length) :
    Calls Try.prog 37 #[.agg #[.int .i64 N, .slice A l.length cap], m.val] w fun e w' => e = .returned (.tuple #[.int .i64 (m.from l), .int .i64 (m.to_ l)]) ∧ Below w.heap.size w w' := by
  obtain ⟨k, r⟩ := m
  obtain ⟨hk1, hk2⟩ := hk
  dsimp only at hk1 hk2
  obtain ⟨q, rfl⟩ := Int.eq_ofNat_of_zero_le hk1
  have hq : q < l.length := by omega
  rcases h with h | ⟨b, off, rfl, hblt, hc⟩
  · rw [h] at hq; simp at hq
  · obtain ⟨c1, c2, c3, c4⟩ := hc q hq
    have e1 : (⟨(q : Int), r⟩ : Mv).from l = if r then l[q].b else l[q].a := by unfold Mv.from; rw [Int.toNat_natCast, List.getElem?_eq_getElem hq]
    have e2 : (⟨(q : Int), r⟩ : Mv).to_ l = if r then l[q].a else l[q].b := by unfold Mv.to_; rw [Int.toNat_natCast, List.getElem?_eq_getElem hq]
    obtain ⟨s, hs⟩ : ∃ s, s = l[q] := ⟨_, rfl⟩
    rw [← hs] at c1 c2 c3 c4 e1 e2
    rw [e1, e2]
    clear hs hc e1 e2 hk1
    obtain ⟨a, b', n, t⟩ := s
    dsimp only at c1 c2 c3 c4
    show Calls Try.prog 37 #[.agg #[.int .i64 N, .slice (some ⟨b, off, none⟩) l.length cap], .agg #[.int .i64 (q : Int), .bool r]] w _
    have i0 : (0 : Int) ≤ (q : Int) := by omega
    cases r
    all_goals
      go_enter Try.func37, Try.ntmps37
      go_wp2
      go_quiet (fail)
      go_wp2
      go_ret2
      exact ⟨rfl, bdrewN ((((Below.refl _ _).alloc (Nat.le_refl _) _).alloc (by simp) _).alloc (by simp; omega) _) _⟩

theorem rWalk_step {l : List Sm} {run : List Mv} {i : Nat} (hi : i < run.length) {m : Mv} (hm : m = run[i]) : rWalk l run (run.length - i) i = if m.inG l ∧ fol l run i then rWalk l run (run.length - (i + 1)) (i + 1) else false := by
  rw [show run.length - i = run.length - (i + 1) + 1 by omega]
  show (if (run.getD i default).inG l ∧ _ then _ else _) = _
  have e : run.getD i default = m := by rw [hm, List.getD_eq_getElem?_getD, List.getElem?_eq_getElem hi]; rfl
  rw [e]
theorem rRun_step {l : List Sm} {run : List Mv} {i : Nat} (hi : i < run.length) {m : Mv} (hm : m = run[i]) (D : List Int) : rRun l run (run.length - i) i D = if m.k ∉ D ∧ thd l run i then rRun l run (run.length - (i + 1)) (i + 1) (D ++ [m.k]) else none := by
  rw [show run.length - i = run.length - (i + 1) + 1 by omega]
  show (if (run.getD i default).k ∉ D ∧ _ then _ else _) = _
  have e : run.getD i default = m := by rw [hm, List.getD_eq_getElem?_getD, List.getElem?_eq_getElem hi]; rfl
  rw [e]
theorem rWalk_inG {l : List Sm} {run : List Mv} (h : rWalk l run run.length 0 = true) : ∀ i, i < run.length → (run.getD i default).inG l := by
  have key : ∀ n i, n + i = run.length → rWalk l run n i = true → ∀ j, i ≤ j → j < run.length → (run.getD j default).inG l := by
    intro n
    induction n with
    | zero => intro i hi _ j hj hj2; omega
    | succ n ih =>
      intro i hi hw j hj hj2
      unfold rWalk at hw
      split at hw
      · rename_i hc
        by_cases hji : j = i
        · rw [hji]; exact hc.1
        · exact ih (i + 1) (by omega) hw j (by omega) hj2
      · cases hw
  intro i hi
  exact key run.length 0 (by omega) h i (by omega) hi

/-- Walk's own memory -/
def WkS (w : World) (N : Int) (A : Option Addr) (cap n : Nat) (wr : World) : Prop :=
  Below w.heap.size w wr ∧ Bk 24 wr w.heap.size #[.int .i64 N, .slice A n cap]
theorem WkS.ext {w : World} {N : Int} {A : Option Addr} {cap n : Nat} {wr w' : World} (h : WkS w N A cap n wr) (hb : Below wr.heap.size wr w') : WkS w N A cap n w' := ⟨bext h.1 hb h.1.size, h.2.ext hb⟩

set_option maxRecDepth 100000 in
set_option maxHeartbeats 4000000 in
theorem Walk_any (N : Int) (A : Option Addr) (cap : Nat) (l : List Sm) (C : Option Addr) (cc : Nat) (run : List Mv) (w : World) (hok : GOk N l) (hc : l.length ≤ cap) (hcm : cap ≤ 9223372036854775807) (h : SSl w A l) (hcc : run.length ≤ cc) (hcc2 : cc ≤ 9223372036854775807) (hr : MSl w C run) :
    Calls Try.prog 36 #[.agg #[.int .i64 N, .slice A l.length cap], .slice C run.length cc] w fun e w' => e = .returned (.bool (rWalk l run run.length 0)) ∧ Below w.heap.size w w' := by
  have H := Lib.hid h
  have HM := Lib.hid hr
  have HS0 := Lib.hid (show WkS w N A cap l.length (w.alloc (.cells #[.int .i64 N, .slice A l.length cap] 24)) from ⟨ext_alloc _ _, Bk.new _ _ _⟩)
  have HEN := Lib.hid (fun (m : Mv) W (h : SSl W A l) (hk : 0 ≤ m.k ∧ m.k < (l.length : Int)) => rEnds_any N A cap l m W hc hcm h hk)
  have l64 := hok.2.2.1
  clear h hr hok
  go_enter Try.func36, Try.ntmps36
  go_wp2
  go_loopg [13] run.length (fun g i wr => ∃ (k : Nat), i = .int .i64 k ∧ k ≤ run.length ∧ g = run.length - k ∧ WkS w N A cap l.length wr ∧ rWalk l run run.length 0 = rWalk l run (run.length - k) k ∧ ∀ j, j < k → (run.getD j default).inG l)
  case atStart => exact ⟨0, rfl, by omega, by omega, HS0.out, rfl, fun j hj => by omega⟩
  case round =>
    obtain ⟨i, rfl, hi, hg, hs, hp, hall⟩ := hrel
    have HG := Lib.hid hg
    have HS := Lib.hid hs
    have HP := Lib.hid hp
    have HALL := Lib.hid hall
    obtain ⟨f1, f2, f3⟩ := hs.2.facts
    have hb := hs.1
    clear hg hs hp HS0 hall
    by_cases hli : i < run.length
    · rcases HM.out with hf | ⟨b2, off2, rfl, hbw2, hclw⟩
      · rw [hf] at hli; simp at hli
      · have HCW := Lib.hid (show ∀ W', Below w.heap.size w W' → ∀ j (hj : j < run.length), W'.cell? ⟨b2, off2 + j * 2, none⟩ = some (.int .i64 run[j].k) ∧ W'.cell? ⟨b2, off2 + j * 2 + 1, none⟩ = some (.bool run[j].r) from fun W' hW' j hj => ⟨(hW'.cell (p := ⟨b2, _, none⟩) hbw2).trans (hclw j hj).1, (hW'.cell (p := ⟨b2, _, none⟩) hbw2).trans (hclw j hj).2⟩)
        have hblt2 := Nat.lt_of_lt_of_le hbw2 hb.size
        have hcl2 := HCW.out wr hb
        clear hclw
        obtain ⟨d1, d2⟩ := hcl2 i hli
        have HPS := Lib.hid (fun m hm => rWalk_step (l := l) hli (m := m) hm)
        obtain ⟨m, hm⟩ : ∃ m, m = run[i] := ⟨_, rfl⟩
        rw [← hm] at d1 d2
        have HMI := Lib.hid hm
        have HPS := Lib.hid (HPS.out m hm)
        have HGD := Lib.hid (show run.getD i default = m from by rw [hm, List.getD_eq_getElem?_getD, List.getElem?_eq_getElem hli]; rfl)
        clear hm hcl2
        by_cases hin : m.inG l
        · by_cases hi0 : i = 0
          · have HNX := Lib.hid (show rWalk l run run.length 0 = rWalk l run (run.length - (i + 1)) (i + 1) from by
              rw [HP.out, HPS.out, if_pos ⟨hin, .inl hi0⟩])
            have HALL2 := Lib.hid (show ∀ j, j < i + 1 → (run.getD j default).inG l from fun j hj => by
              rw [show j = i by omega, HGD.out]; exact hin)
            obtain ⟨mk, mr⟩ := m
            obtain ⟨n1, n2⟩ := hin
            dsimp only at d1 d2 n1 n2
            obtain ⟨q, rfl⟩ := Int.eq_ofNat_of_zero_le n1
            have HS2 := Lib.hid (HS.out.ext (ext_alloc wr (.cells #[.int .i64 (q : Int), .bool mr] 66)))
            have hz : ¬ (0 : Int) < (i : Int) := by omega
            have HI0 := Lib.hid hi0
            clear hi0
            go_wp2
            go_roundg (run.length - (i + 1))
            case measure => have := HG.out; omega
            case rel => exact ⟨i + 1, by go_num, by omega, rfl, HS2.out, HNX.out, HALL2.out⟩
          · have hz : (0 : Int) < (i : Int) := by omega
            obtain ⟨ip, rfl⟩ : ∃ ip, i = ip + 1 := ⟨i - 1, by omega⟩
            have hlp : ip < run.length := by omega
            have GD : ∀ j (hj : j < run.length), run.getD j default = run[j] := fun j hj => by rw [List.getD_eq_getElem?_getD, List.getElem?_eq_getElem hj]; rfl
            have hp1 := HALL.out ip (by omega)
            rw [GD ip hlp] at hp1
            have HPC := Lib.hid (fun W' hW' => HCW.out W' hW' ip hlp)
            have hfol : fol l run (ip + 1) ↔ run[ip].to_ l = m.from l := by
              unfold fol
              rw [HGD.out, Nat.add_sub_cancel, GD ip hlp]
              exact ⟨fun h => h.resolve_left (by omega), .inr⟩
            have hALL2 : ∀ j, j < ip + 1 + 1 → (run.getD j default).inG l := fun j hj => by
              by_cases hji : j < ip + 1
              · exact HALL.out j hji
              · rw [show j = ip + 1 by omega, HGD.out]; exact hin
            have HALL2 := Lib.hid hALL2
            have HFOL := Lib.hid hfol
            have HINM := Lib.hid hin
            clear hfol hALL2 GD HCW
            obtain ⟨pm, hpm⟩ : ∃ pm, pm = run[ip] := ⟨_, rfl⟩
            rw [← hpm] at hp1 HPC HFOL
            clear hpm
            obtain ⟨pk, pr⟩ := pm
            have HP1 := Lib.hid hp1
            obtain ⟨mk, mr⟩ := m
            obtain ⟨n1, n2⟩ := hin
            dsimp only at d1 d2 n1 n2
            obtain ⟨q, rfl⟩ := Int.eq_ofNat_of_zero_le n1
            have HS2 := Lib.hid (HS.out.ext (ext_alloc wr (.cells #[.int .i64 (q : Int), .bool mr] 66)))
            have HB1 := Lib.hid (Bk.new 66 wr #[.int .i64 (q : Int), .bool mr])
            go_upto_region 7 with (fail)
            obtain ⟨W, hW⟩ : ∃ W, W = wr.alloc (.cells #[.int .i64 (q : Int), .bool mr] 66) := ⟨_, rfl⟩
            rw [← hW] at HS2 HB1 ⊢
            clear hW
            obtain ⟨g, hg⟩ : ∃ g, g = wr.heap.size := ⟨_, rfl⟩
            rw [← hg] at HB1 ⊢
            clear hg d1 d2 f1 f2 f3 hb hblt2 HS
            obtain ⟨f1, f2, f3⟩ := HS2.out.2.facts
            obtain ⟨e1, e2, e3⟩ := HB1.out.facts
            have hpc := HPC.out W HS2.out.1
            have HK := Lib.hid (show ∀ wx wy, Below wx.heap.size wx wy → Below W.heap.size W wx → (Below W.heap.size W wy ∧ wy.cell? ⟨w.heap.size, 0, none⟩ = some (.int .i64 N) ∧ wy.cell? ⟨w.heap.size, 1, none⟩ = some (.slice A l.length cap) ∧ wy.cell? ⟨b2, off2 + ip * 2, none⟩ = some (.int .i64 pk) ∧ wy.cell? ⟨b2, off2 + ip * 2 + 1, none⟩ = some (.bool pr)) from fun wx wy h1 h2 =>
              have h3 := bext h2 h1 h2.size
              have h4 := HS2.out.ext h3
              ⟨h3, h4.2.cell 0, h4.2.cell 1, (HPC.out wy h4.1).1, (HPC.out wy h4.1).2⟩)
            have iz6 : IntKind.i64.wrap (ip : Int) = (ip : Int) := IntWalk.i64_in _ ⟨by omega, by omega⟩
            have iz0 : (0 : Int) ≤ (ip : Int) := by omega
            have iz1 : (ip : Int) < (run.length : Int) := by omega
            go_cut [7, 8] (fun z1 z2 wx => z2 = .int .i64 ((⟨pk, pr⟩ : Mv).to_ l) ∧ Below W.heap.size W wx)
            case first =>
              go_region_held3 (fun wx => Below W.heap.size W wx ∧ wx.cell? ⟨w.heap.size, 0, none⟩ = some (.int .i64 N) ∧ wx.cell? ⟨w.heap.size, 1, none⟩ = some (.slice A l.length cap) ∧ wx.cell? ⟨b2, off2 + ip * 2, none⟩ = some (.int .i64 pk) ∧ wx.cell? ⟨b2, off2 + ip * 2 + 1, none⟩ = some (.bool pr))
                (first | exact HK.out _ _ (by assumption) (And.left (by assumption)) | exact HK.out _ _ (ext_drew _) (Below.refl _ _))
                ((go_at_call 37; refine (HEN.out ⟨pk, pr⟩ _ ?_ HP1.out).mono ?_; exact H.out.ext (bext HS2.out.1 (And.left (by assumption)) HS2.out.1.size); rintro e w4 ⟨rfl, hx4⟩))
              all_goals
                go_wp2
                go_meet
                exact ⟨rfl, And.left (by assumption)⟩
            case rest =>
              obtain ⟨rfl, hx⟩ := hcut
              clear f1 f2 f3 e1 e2 e3 hpc HK iz6
              have HS3 := Lib.hid (HS2.out.ext hx)
              obtain ⟨f1, f2, f3⟩ := HS3.out.2.facts
              obtain ⟨e1, e2, e3⟩ := (HB1.out.ext hx).facts
              go_upto_region 9 with (go_at_call 37; refine (HEN.out ⟨(q : Int), mr⟩ _ (H.out.ext HS3.out.1) ⟨n1, n2⟩).mono ?_; rintro e w5 ⟨rfl, hx5⟩; have HS5 := Lib.hid (HS3.out.ext hx5))
              obtain ⟨X, hX⟩ : ∃ X, X = (⟨pk, pr⟩ : Mv).to_ l := ⟨_, rfl⟩
              obtain ⟨Y, hY⟩ : ∃ Y, Y = (⟨(q : Int), mr⟩ : Mv).from l := ⟨_, rfl⟩
              rw [← hX, ← hY] at HFOL
              rw [← hX, ← hY]
              clear hX hY
              have hb5 := HS5.out.1
              by_cases hXY : X = Y
              · have HNX := Lib.hid (show rWalk l run run.length 0 = rWalk l run (run.length - (ip + 1 + 1)) (ip + 1 + 1) from by
                  rw [HP.out, HPS.out, if_pos ⟨HINM.out, HFOL.out.2 hXY⟩])
                subst hXY
                clear HPS HFOL HP
                go_wp2
                go_roundg (run.length - (ip + 1 + 1))
                case measure => have := HG.out; omega
                case rel => exact ⟨ip + 1 + 1, by go_num, by omega, rfl, HS5.out, HNX.out, HALL2.out⟩
              · have HN := Lib.hid (show rWalk l run run.length 0 = false from by
                  rw [HP.out, HPS.out, if_neg (fun h => hXY (HFOL.out.1 h.2))])
                have hne : (Y != X) = true := by simp; exact fun h => hXY h.symm
                clear HPS HFOL HP
                go_wp2
                go_ret
                exact ⟨ret_bool HN.out.symm, hb5⟩
        · have HN := Lib.hid (show rWalk l run run.length 0 = false from by rw [HP.out, HPS.out, if_neg (fun h => hin h.1)])
          have hcs : m.k < 0 ∨ (0 ≤ m.k ∧ (l.length : Int) ≤ m.k) := by unfold Mv.inG at hin; omega
          obtain ⟨mk, mr⟩ := m
          dsimp only at d1 d2 hcs
          clear hin
          rcases hcs with hcs | ⟨hcs, hcs2⟩
          all_goals
            go_wp2
            go_ret
            exact ⟨ret_bool HN.out.symm, hb.alloc hb.size _⟩
    · obtain rfl : i = run.length := by omega
      have HN := Lib.hid (show rWalk l run run.length 0 = true from by rw [HP.out, Nat.sub_self]; rfl)
      go_wp2
      go_ret
      exact ⟨ret_bool HN.out.symm, hb⟩

/-- the reference's own memory in Sews -/
def RwS (w : World) (N : Int) (A : Option Addr) (cap n : Nat) (D : List Int) (wr : World) : Prop :=
  Below w.heap.size w wr ∧ Bk 24 wr w.heap.size #[.int .i64 N, .slice A n cap] ∧ OwB (w.heap.size + 1) n (fun q => decide ((q : Int) ∈ D)) wr ∧ D.length ≤ cnt (fun q => decide ((q : Int) ∈ D)) n
section
variable {w : World} {N : Int} {A : Option Addr} {cap n : Nat} {D : List Int} {wr w' : World}
theorem RwS.ext (h : RwS w N A cap n D wr) (hb : Below wr.heap.size wr w') : RwS w N A cap n D w' := ⟨bext h.1 hb h.1.size, h.2.1.ext hb, h.2.2.1.ext hb, h.2.2.2⟩
theorem RwS.set (h : RwS w N A cap n D wr) {k : Nat} (h1 : (k : Int) < n) (h2 : (k : Int) ∉ D) : RwS w N A cap n (D ++ [(k : Int)]) (wr.setCell ⟨w.heap.size + 1, k, none⟩ (.bool true)) := by
  have h3 := h.2.2.1.set k true
  have e : updB (fun q : Nat => decide ((q : Int) ∈ D)) k true = fun q : Nat => decide ((q : Int) ∈ D ++ [(k : Int)]) := by
    funext q
    unfold updB
    by_cases hq : q = k
    · rw [if_pos hq, hq]; simp
    · rw [if_neg hq]
      have : (q : Int) ≠ k := by omega
      simp [this]
  rw [e] at h3
  exact ⟨h.1.setCell (by show w.heap.size ≤ w.heap.size + 1; omega) _, h.2.1.set_ne (by omega) _, h3, D_cnt h.2.2.2 (by omega) h1 h2⟩
theorem RwS.len (h : RwS w N A cap n D wr) : D.length ≤ n := Nat.le_trans h.2.2.2 (cnt_le _ _)
theorem RwS.start (w : World) (N : Int) (A : Option Addr) (cap n : Nat) : RwS w N A cap n [] ((w.alloc (.cells #[.int .i64 N, .slice A n cap] 24)).alloc (.cells (cellsB n fun _ => false) 4)) := by
  have h2 := OwB.new (w.alloc (.cells #[.int .i64 N, .slice A n cap] 24)) n (fun _ => false)
  simp only [World.size_alloc] at h2
  refine ⟨((Below.refl _ _).alloc (Nat.le_refl _) _).alloc (by simp) _, (Bk.new _ w _).alloc _, ?_, Nat.zero_le _⟩
  have e : (fun q : Nat => decide ((q : Int) ∈ ([] : List Int))) = fun _ => false := by funext q; simp
  rw [e]; exact h2
end
theorem rAll_step {l : List Sm} {ls : List (List Mv)} {k : Nat} (hk : k < ls.length) {run : List Mv} (hr : run = ls[k]) (D : List Int) : rAll l (ls.drop k) D = if run = [] then none else if rWalk l run run.length 0 = true then (match rRun l run run.length 0 D with | none => none | some D' => rAll l (ls.drop (k + 1)) D') else none := by
  rw [List.drop_eq_getElem_cons hk, ← hr]
  rfl
theorem sewB_ref {l : List Sm} {ls : List (List Mv)} : sewB l ls = match rAll l ls [] with | none => false | some D => decide (D.length = l.length) := by unfold sewB; rw [pAll_eq]; rfl
theorem sewB_rno {l : List Sm} {ls : List (List Mv)} (h : rAll l ls [] = none) : sewB l ls = false := by rw [sewB_ref, h]

set_option maxRecDepth 100000 in
set_option maxHeartbeats 4000000 in
theorem rSews_any (N : Int) (A : Option Addr) (cap : Nat) (l : List Sm) (C : Option Addr) (cc : Nat) (ls : List (List Mv)) (w : World) (hok : GOk N l) (hc : l.length ≤ cap) (hcm : cap ≤ 9223372036854775807) (h : SSl w A l) (hcc : ls.length ≤ cc) (hcc2 : cc ≤ 9223372036854775807) (hr : RSl w C ls) :
    Calls Try.prog 27 #[.agg #[.int .i64 N, .slice A l.length cap], .slice C ls.length cc] w fun e w' => e = .returned (.bool (sewB l ls)) ∧ Below w.heap.size w w' := by
  have H := Lib.hid h
  have HR := Lib.hid hr
  have HS0 := Lib.hid (RwS.start w N A cap l.length)
  have HWK := Lib.hid (fun C cc (run : List Mv) W (h : SSl W A l) (h1 : run.length ≤ cc) (h2 : cc ≤ 9223372036854775807) (h3 : MSl W C run) => Walk_any N A cap l C cc run W hok hc hcm h h1 h2 h3)
  have l64 := hok.2.2.1
  have hmk := run_falses l.length (by omega)
  clear h hr hok
  go_enter Try.func27, Try.ntmps27
  go_wp2
  go_loopg [17, 6] ls.length (fun g i z wr => ∃ (k : Nat) (D : List Int), i = .int .i64 k ∧ z = .int .i64 (D.length : Nat) ∧ k ≤ ls.length ∧ g = ls.length - k ∧ RwS w N A cap l.length D wr ∧ rAll l ls [] = rAll l (ls.drop k) D)
  case atStart => exact ⟨0, [], rfl, rfl, by omega, by omega, HS0.out, rfl⟩
  case round =>
    obtain ⟨k, D, rfl, rfl, hk, hg, hs, hp⟩ := hrel
    have HG := Lib.hid hg
    have HS := Lib.hid hs
    have HP := Lib.hid hp
    obtain ⟨f1, f2, f3⟩ := hs.2.1.facts
    have hb := hs.1
    clear hg hs hp HS0
    by_cases hlt : k < ls.length
    · have hf := HR.out
      rcases hf with hf | ⟨b, off, rfl, hblt, hcl⟩
      · rw [hf] at hlt; simp at hlt
      · obtain ⟨A', c', c1, k1, k2, hm⟩ := hcl k hlt
        have HST := Lib.hid (fun run hr => rAll_step (l := l) hlt (run := run) hr D)
        obtain ⟨run, hrun⟩ : ∃ run, run = ls[k] := ⟨_, rfl⟩
        rw [← hrun] at c1 k1 hm
        have c1 := (hb.cell (p := ⟨b, off + k, none⟩) hblt).trans c1
        have hblt := Nat.lt_of_lt_of_le hblt hb.size
        have HM := Lib.hid hm
        have HST2 := Lib.hid (HST.out run hrun)
        clear hrun hm hcl HST
        by_cases he : run = []
        · have HN := Lib.hid (sewB_rno (l := l) (ls := ls) (by rw [HP.out, HST2.out, if_pos he]))
          subst he
          go_wp2
          go_ret
          exact ⟨ret_bool HN.out.symm, hb⟩
        · have hl0 : (run.length == 0) = false := by simpa using he
          have hl1 : 0 < run.length := by cases run with | nil => exact absurd rfl he | cons => simp
          have hl2 : ¬ (run.length : Int) = 0 := by omega
          have hl3 : ((run.length : Int) == 0) = false := by simp; omega
          have HST3 := Lib.hid (HST2.out.trans (if_neg he))
          clear HST2 he
          have HW := Lib.hid (HWK.out _ _ run wr (H.out.ext hb) k1 k2 (HM.out.ext hb))
          obtain ⟨wo, rfl⟩ : ∃ wo : World, wo = wr := ⟨_, rfl⟩
          by_cases hwk : rWalk l run run.length 0 = true
          · have HST4 := Lib.hid (HST3.out.trans (if_pos hwk))
            have HIN := Lib.hid (rWalk_inG hwk)
            clear HST3
            go_wp2_with (go_at_call 36; refine HW.out.mono ?_; rintro e w4 ⟨rfl, hx4⟩; have HS4 := Lib.hid (HS.out.ext hx4); rw [hwk])
            go_loopg [32, 6] run.length (fun g j z wr => ∃ (i : Nat) (D' : List Int), j = .int .i64 i ∧ z = .int .i64 (D'.length : Nat) ∧ i ≤ run.length ∧ g = run.length - i ∧ RwS w N A cap l.length D' wr ∧ rRun l run run.length 0 D = rRun l run (run.length - i) i D')
            case atStart => exact ⟨0, D, rfl, rfl, by omega, by omega, HS4.out, rfl⟩
            case round =>
              obtain ⟨i, D', rfl, rfl, hi, hg, hs, hp⟩ := hrel
              have HG2 := Lib.hid hg
              have HS2 := Lib.hid hs
              have HP2 := Lib.hid hp
              have hb := hs.1
              have hdl := hs.len
              have hss := H.out.ext hb
              clear hg hs hp HS HS4 f1 f2 f3 hx4
              obtain ⟨f1, f2, f3⟩ := HS2.out.2.1.facts
              by_cases hli : i < run.length
              · rcases HM.out with hf | ⟨b2, off2, rfl, hbw2, hclw⟩
                · rw [hf] at hli; simp at hli
                · have HCW := Lib.hid (show ∀ W', Below w.heap.size w W' → ∀ j (hj : j < run.length), W'.cell? ⟨b2, off2 + j * 2, none⟩ = some (.int .i64 run[j].k) ∧ W'.cell? ⟨b2, off2 + j * 2 + 1, none⟩ = some (.bool run[j].r) from fun W' hW' j hj => ⟨(hW'.cell (p := ⟨b2, _, none⟩) hbw2).trans (hclw j hj).1, (hW'.cell (p := ⟨b2, _, none⟩) hbw2).trans (hclw j hj).2⟩)
                  have hblt2 := Nat.lt_of_lt_of_le hbw2 hb.size
                  clear hclw
                  obtain ⟨d1, d2⟩ := HCW.out wr hb i hli
                  have HPS := Lib.hid (fun m hm => rRun_step (l := l) hli (m := m) hm D')
                  have GD : ∀ j (hj : j < run.length), run.getD j default = run[j] := fun j hj => by rw [List.getD_eq_getElem?_getD, List.getElem?_eq_getElem hj]; rfl
                  have hp1 := HIN.out i hli
                  have hp0 := HIN.out 0 hl1
                  have hthd : thd l run i ↔ run[i].thr l = run[0].thr l := by
                    unfold thd
                    rw [GD i hli, GD 0 hl1]
                  rw [GD i hli] at hp1
                  rw [GD 0 hl1] at hp0
                  have hr0 := fun W' hW' => (HCW.out W' hW' 0 hl1).1
                  obtain ⟨m, hm⟩ : ∃ m, m = run[i] := ⟨_, rfl⟩
                  obtain ⟨rm, hrm⟩ : ∃ rm, rm = run[0] := ⟨_, rfl⟩
                  rw [← hm] at d1 d2 hp1 hthd
                  rw [← hrm] at hp0 hr0 hthd
                  have HPS := Lib.hid (HPS.out m hm)
                  have HTHD := Lib.hid hthd
                  clear hm hrm GD hthd
                  obtain ⟨mk, mr⟩ := m
                  obtain ⟨rk, rr⟩ := rm
                  obtain ⟨n1, n2⟩ := hp1
                  obtain ⟨p1, p2⟩ := hp0
                  dsimp only at d1 d2 n1 n2 p1 p2 hr0
                  obtain ⟨q, rfl⟩ := Int.eq_ofNat_of_zero_le n1
                  obtain ⟨q0, rfl⟩ := Int.eq_ofNat_of_zero_le p1
                  have hq : q < l.length := by omega
                  have hq0 : q0 < l.length := by omega
                  have HR0 := Lib.hid hr0
                  have HFAIL := Lib.hid (show rRun l run (run.length - i) i D' = none → sewB l ls = false from fun hx => sewB_rno (by rw [HP.out, HST4.out, HP2.out, hx]))
                  have HS3 := Lib.hid (HS2.out.ext (ext_alloc wr (.cells #[.int .i64 (q : Int), .bool mr] 66)))
                  have HB1 := Lib.hid (Bk.new 66 wr #[.int .i64 (q : Int), .bool mr])
                  clear hr0
                  go_upto_region 11 with (fail)
                  obtain ⟨W, hW⟩ : ∃ W, W = wr.alloc (.cells #[.int .i64 (q : Int), .bool mr] 66) := ⟨_, rfl⟩
                  rw [← hW] at HS3 HB1 ⊢
                  clear hW
                  obtain ⟨g, hg⟩ : ∃ g, g = wr.heap.size := ⟨_, rfl⟩
                  rw [← hg] at HB1 ⊢
                  clear hg d1 d2 f1 f2 f3 hb hblt2 HS2 hss
                  obtain ⟨f1, f2, f3⟩ := HS3.out.2.1.facts
                  obtain ⟨e1, e2, e3⟩ := HB1.out.facts
                  have hxw := HS3.out.1
                  have hr0 := HR0.out W hxw
                  rw [Nat.zero_mul, Nat.add_zero] at hr0
                  have hbw3 := Nat.lt_of_lt_of_le hbw2 hxw.size
                  have q1 := HS3.out.2.2.1.cell (i := q) hq
                  have q2 := HS3.out.2.2.1.lt
                  have q3 := HS3.out.2.2.1.frozen q
                  rcases H.out.ext hxw with hss | ⟨b3, off3, rfl, hblt3, hc3⟩
                  · rw [hss] at hq; simp at hq
                  · obtain ⟨-, -, -, s1⟩ := hc3 q hq
                    obtain ⟨-, -, -, s2⟩ := hc3 q0 hq0
                    have t1 : (⟨(q : Int), mr⟩ : Mv).thr l = l[q].t := by unfold Mv.thr; rw [Int.toNat_natCast, List.getElem?_eq_getElem hq]
                    have t2 : (⟨(q0 : Int), rr⟩ : Mv).thr l = l[q0].t := by unfold Mv.thr; rw [Int.toNat_natCast, List.getElem?_eq_getElem hq0]
                    rw [t1, t2] at HTHD
                    obtain ⟨T1, hT1⟩ : ∃ T1, T1 = l[q].t := ⟨_, rfl⟩
                    obtain ⟨T2, hT2⟩ : ∃ T2, T2 = l[q0].t := ⟨_, rfl⟩
                    rw [← hT1] at s1 HTHD
                    rw [← hT2] at s2 HTHD
                    clear hT1 hT2 t1 t2 hc3 p1
                    by_cases hmem : (q : Int) ∈ D'
                    · have HN := Lib.hid (HFAIL.out (HPS.out.trans (if_neg (fun h => h.1 hmem))))
                      rw [decide_eq_true hmem] at q1
                      clear HPS HTHD HP2 hmem
                      go_quiet (fail)
                      go_wp2
                      go_ret
                      exact ⟨ret_bool HN.out.symm, bext hxw (ext_drewN _ _) hxw.size⟩
                    · rw [decide_eq_false hmem] at q1
                      by_cases hTT : T1 = T2
                      · have HNX := Lib.hid (HP2.out.trans (HPS.out.trans (if_pos ⟨hmem, HTHD.out.2 hTT⟩)))
                        have hdl2 : D'.length ≤ 64 := by omega
                        subst hTT
                        have HMEM := Lib.hid hmem
                        clear HPS HTHD HP2 hmem
                        go_quiet (fail)
                        have hxd := ext_drewN W nq
                        have HS6 := Lib.hid ((HS3.out.ext hxd).set (k := q) n2 HMEM.out)
                        obtain ⟨V, hV⟩ : ∃ V, V = W.drewN nq := ⟨_, rfl⟩
                        have f1' := f1
                        clear q1 q2 q3 f1 f2 f3 e1 e2 e3 s1 s2 hr0
                        obtain ⟨f1, f2, f3⟩ := (HS3.out.ext hxd).2.1.facts
                        obtain ⟨e1, e2, e3⟩ := (HB1.out.ext hxd).facts
                        have q2 := (HS3.out.ext hxd).2.2.1.lt
                        have q3 := (HS3.out.ext hxd).2.2.1.frozen q
                        have q1 := (HS3.out.ext hxd).2.2.1.cell (i := q) hq
                        rw [← hV] at HS6 f1 f2 f3 e1 e2 e3 q1 q2 q3 ⊢
                        clear hV hxd f1'
                        go_wp2
                        go_roundg (run.length - (i + 1))
                        case measure => have := HG2.out; omega
                        case rel => exact ⟨i + 1, D' ++ [(q : Int)], by go_num, by simp, by omega, rfl, HS6.out, HNX.out⟩
                      · have HN := Lib.hid (HFAIL.out (HPS.out.trans (if_neg (fun h => hTT (HTHD.out.1 h.2)))))
                        have hne : (T1 != T2) = true := by simpa using hTT
                        clear HPS HTHD HP2
                        go_quiet (fail)
                        go_wp2
                        go_ret
                        exact ⟨ret_bool HN.out.symm, bext hxw (ext_drewN _ _) hxw.size⟩
              · obtain rfl : i = run.length := by omega
                have HQ := Lib.hid (show rAll l ls [] = rAll l (ls.drop (k + 1)) D' from by
                  rw [HP.out, HST4.out, HP2.out, Nat.sub_self]; rfl)
                go_wp2
                go_roundg (ls.length - (k + 1))
                case measure => have := HG.out; omega
                case rel => exact ⟨k + 1, D', by go_num, rfl, by omega, rfl, HS2.out, HQ.out⟩
          · have hwk : rWalk l run run.length 0 = false := by simpa using hwk
            have HN := Lib.hid (sewB_rno (l := l) (ls := ls) (by rw [HP.out, HST3.out, if_neg (by rw [hwk]; decide)]))
            clear HST3
            go_wp2_with (go_at_call 36; refine HW.out.mono ?_; rintro e w4 ⟨rfl, hx4⟩; have hb4 := bext hb hx4 hb.size; rw [hwk])
            go_ret
            exact ⟨ret_bool HN.out.symm, hb4⟩
    · obtain rfl : k = ls.length := by omega
      have HN := Lib.hid (show sewB l ls = decide (D.length = l.length) from by rw [sewB_ref, HP.out, List.drop_length]; rfl)
      have hdl := HS.out.len
      by_cases hd : D.length = l.length
      · have hd2 : (((D.length : Nat) : Int) == (l.length : Int)) = true := by simp; omega
        rw [decide_eq_true hd] at HN
        clear hd
        go_wp2
        go_ret
        exact ⟨ret_bool HN.out.symm, hb⟩
      · have hd2 : (((D.length : Nat) : Int) == (l.length : Int)) = false := by simp; omega
        rw [decide_eq_false hd] at HN
        clear hd
        go_wp2
        go_ret
        exact ⟨ret_bool HN.out.symm, hb⟩
end Go.Proofs.Ytbhjhajnhpohlaa
