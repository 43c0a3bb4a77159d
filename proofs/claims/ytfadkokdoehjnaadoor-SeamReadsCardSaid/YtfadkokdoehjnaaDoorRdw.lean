/- The program's Read walked. Conditions: the string is at most 40000 bytes; tables laid. -/
import Derived.Test.YtfadkokdoehjnaaDoorRdQ
namespace Go.Proofs.YtfadkokdoehjnaaDoor
open Go.RowKit Go.Shelf
attribute [local go_sem] Oper.semAt_some Fence.inRound_round Fence.inRound_depth Fence.inRound_fn

/-- 'append(p, o)' in a round: one op just built -/
theorem wpListIn_pushR {F : Fence} {nF : Nat} (W w : World) {ops : Array Oper} {rest : List Oper} {o : Oper} {a : Act} {Q : Exit → Act → World → Prop} (hgd : o.guard = none) (s x : Operand)
    (ho : o.op = .call { callee := .builtin .append, args := #[s, x], argTypes := #[27, 27] })
    {B z : Nat} {v : Value} {ps : List Opr} (hown : Vo 49 z W v ps) (hb4 : Bk 27 W (B + 2) #[v]) (hs : a.eval s = v) (hW : Below W.heap.size W w) (u : Opr)
    {C : Nat} (hx : a.eval x = .slice (some ⟨C, 0, none⟩) 1 1) (hC : w.heap.size = C) (hn : ps.length ≤ 4096) (hbase : z ≤ W.heap.size)
    (h : ∀ A6 c6 w', w'.ownsRow z 49 3 (.slice A6 (ps.length + 1 : Nat) c6) (ps.length + 1) (ps.flatMap Opr.cells ++ u.cells) → (w.alloc (.cells #[.int .i64 u.c, .int .i64 u.g, .bool u.b] 49)).grownBy w' v.ownBlock → Bk 27 w' (B + 2) #[v] → wpListIn F nF Tryd.prog ops Q rest (a.put o.dst (.slice A6 (ps.length + 1 : Nat) c6)) w') :
    wpListIn F nF Tryd.prog ops Q (o :: rest) a (w.alloc (.cells #[.int .i64 u.c, .int .i64 u.g, .bool u.b] 49)) := by
  subst hC
  obtain ⟨i0, hi0, hz0, hz1, hz2⟩ := info_parts info_op
  have hX : Below W.heap.size W (w.alloc (.cells #[.int .i64 u.c, .int .i64 u.g, .bool u.b] 49)) := bext hW (ext_alloc _ _) hW.size
  refine wpListIn_append_own _ hgd s x _ ho z 49 i0 _ 3 24 Tryd.underlying27 hi0 hz0 hz1 hz2 rfl (by decide) v ps.length _ hs (own_ext hown hX) ⟨w.heap.size, 0, none⟩ 1 1 u.cells hx rfl ?_ (by simp [Opr.cells, Value.oneCell']) (by unfold maxLen; omega) (by omega) (by have := hX.size; omega) ?_
  · intro j u' hj
    have hb := (Bk.new 49 w #[.int .i64 u.c, .int .i64 u.g, .bool u.b]).cell j
    have hadd : (⟨w.heap.size, 0, none⟩ : Addr).add j = ⟨w.heap.size, j, none⟩ := by
      unfold Addr.add
      split
      · rename_i h0; subst h0; rfl
      · simp
    rw [hadd, hb]
    simpa [Opr.cells] using hj
  · intro v' w' h2 h3 _
    obtain ⟨A6, c6, rfl, _⟩ := own_cells h2
    exact h A6 c6 w' h2 h3 ((h3.block _ (Nat.lt_of_lt_of_le hb4.lt hX.size) (own_ne hown hb4 (by decide))).trans (hb4.ext hX))

set_option maxRecDepth 100000 in
set_option maxHeartbeats 8000000 in
theorem read_any (s : ByteArray) (w : World) (hs : s.size ≤ 40000) (hp : P10 w) (he : ErS w) :
    Calls Tryd.prog 9 #[.string s] w (RetRd w s) := by
  refine (callsIn_wide (n := 9)).1 ?_
  refine callsIn_of_wp_marks Tryd.func9 rfl trivial ?_ rfl
  simp only [Tryd.ntmps9, List.size_toArray, List.length_cons, List.length_nil, Nat.reduceAdd, Nat.reduceSub, Array.replicate_succ, Array.replicate_zero, List.push_toArray, List.append_toArray, List.nil_append, List.cons_append]
  by_cases hz : s = ⟨#[]⟩
  · subst hz
    clear hp he
    have k1 : Bk 27 ((w.alloc (.cells #[.slice none 0 0] 27)).alloc (.cells #[.int .i64 0] 24)) w.heap.size #[.slice none 0 0] := (Bk.new _ w _).alloc _
    have k2 : Bk 24 ((w.alloc (.cells #[.slice none 0 0] 27)).alloc (.cells #[.int .i64 0] 24)) (w.heap.size + 1) #[.int .i64 0] := by
      have := Bk.new 24 (w.alloc (.cells #[.slice none 0 0] 27)) #[.int .i64 0]
      rw [World.size_alloc] at this
      exact this
    have hb : Below w.heap.size w ((w.alloc (.cells #[.slice none 0 0] 27)).alloc (.cells #[.int .i64 0] 24)) := bext (ext_alloc w _) (ext_alloc _ _) (by simp)
    have HK1 := Lib.hid k1
    have HK2 := Lib.hid k2
    have HB := Lib.hid hb
    clear k1 k2 hb
    gi_wp2
    obtain ⟨V, hV⟩ : ∃ V, V = (w.alloc (.cells #[.slice none 0 0] 27)).alloc (.cells #[.int .i64 0] 24) := ⟨_, rfl⟩
    rw [← hV]
    rw [← hV] at HK1 HK2 HB
    clear hV
    have p1 := HK1.out.facts.1
    have p2 := HK2.out.facts.1
    refine ⟨.tuple #[.slice none 0 0, .int .i64 0], by simp [results, Tryd.results9, go_sem, p1, p2], ?_⟩
    exact ⟨HB.out, .inl ⟨none, 0, [], ⟨by simp, fun o ho => by simp at ho⟩, rfl, rfl, by simp, by simp, .inl rfl⟩⟩
  · have hne : s.data.toList ≠ [] := fun e => hz (by rw [← BS_self s, e]; rfl)
    have hem : s.toList.isEmpty = false := by
      rw [ByteArray.toList_eq]
      cases h : s.data.toList with
      | nil => exact absurd h hne
      | cons a t => rfl
    have HNE := Lib.hid hne
    have hst := rd_start w s
    have HPT := Lib.hid (fun W (hW : Below w.heap.size w W) => hp.ext hW)
    have HET := Lib.hid (fun W (hW : Below w.heap.size w W) => he.ext hW)
    have HTX := Lib.hid (fun A cap l W hc hcm (h : OSl W A l) (hW : Below w.heap.size w W) => text_any A cap l W hc hcm h (HPT.out W hW))
    have HST := Lib.hid hst
    clear hp he hz hne hst
    gi_wp2
    refine ⟨trivial, callsIn_wide.2 ((splitseq_any s _).mono ?_)⟩
    rintro e w1 ⟨rfl, rfl⟩
    obtain ⟨W6, hW6, hsz, hb6, k1, k2, k3, k4, k5, k6⟩ := HST.out
    rw [← hW6]
    simp only [World.size_alloc, Nat.add_assoc, Nat.reduceAdd]
    obtain ⟨B, hB⟩ : ∃ B, B = w.heap.size := ⟨_, rfl⟩
    rw [← hB] at hsz hb6 k1 k2 k3 k4 k5 k6 ⊢
    have HK1 := Lib.hid k1
    have HK2 := Lib.hid k2
    have HK3 := Lib.hid k3
    have HK4 := Lib.hid k4
    have HK5 := Lib.hid k5
    have HK6 := Lib.hid k6
    have HB6 := Lib.hid hb6
    clear hW6 HST k1 k2 k3 k4 k5 k6 hb6
    gi_wp2
    have HBE := Lib.hid hB
    have hsz6 : B + 6 ≤ W6.heap.size := by omega
    have HSZ := Lib.hid hsz
    have hstp := split1_stops 8 (B + 3) s (by omega) W6 HK4.out HK5.out HK6.out
    have HRC := Lib.hid (fun (o : Opr) (h : OpOk o) => rdP_ok h atoi_dec)
    refine wpIn_rangeFunc_P (pc := B + 3) HK4.out.lt rfl (by omega) (gf := 42) (lb := #[.pointer (some ⟨B + 4, 0, none⟩), .pointer (some ⟨B + 3, 0, none⟩), .pointer (some ⟨B + 5, 0, none⟩)]) rfl trivial (fun args W => enters42 args W) hstp KpS.t (kps_put (by omega)) (fun _ => rfl)
      (RdI w B W6.heap.size) (RdX w B) (rdI_own (by omega)) (rdX_own (by omega)) (rdI_store (by omega)) ?start ?a1 ?assign ?body ?done ?stop
    all_goals clear hB hsz
    case assign =>
      intro l1 x W K hK
      simp only [List.zip_toArray, List.zip_cons_cons, List.zip_nil_right, List.size_toArray, List.length_cons, List.length_nil, List.foldl_toArray', List.foldl_cons, List.foldl_nil, List.setIfInBounds_toArray, List.set_cons_succ, List.set_cons_zero]
      gi_wp2
      exact hK
    case start => exact ⟨_, [], rfl, rfl, by simp, HK3.out, Vo.nil _ _ _, HK1.out, HK2.out, HB6.out, Nat.le_refl _⟩
    case stop =>
      rintro D c pre W hD hpre ⟨rfl, hbad, h6, h7, h8⟩ hDW
      have HNO := Lib.hid (show ∀ l, TxOk l → BS (txtL l) ≠ s from by
        obtain ⟨rest, hrest⟩ := hpre
        have hdl : dataL (wordsB s) = Lib.split s.data.toList [32] := wordsB_clip (by omega)
        rcases hbad with h | h
        · exact tx_none HRC.out HNE.out (by rw [← hdl, ← hrest]; unfold dataL at *; rw [List.map_append]; exact rdAll_pre _ _ h)
        · exact tx_many HRC.out HNE.out (by rw [← hdl, ← hrest]; unfold dataL; rw [List.length_map, List.length_append]; omega))
      have H6 := Lib.hid h6
      have H7 := Lib.hid h7
      have H8 := Lib.hid h8
      have HDW := Lib.hid hDW
      clear hbad hpre h6 h7 h8 hDW hstp
      gi_wp2
      refine leaves_one (base := w.heap.size) (D := D) (by have := HBE.out; omega) HDW.out (by have := H8.out.size; have := HBE.out; have := H6.out.lt; omega) fun w' hb hk => ?_
      have q1 := (Bk.facts (hk _ _ H6.out rfl : Bk 27 w' B #[.slice none 0 0])).1
      have q2 := (Bk.facts (hk _ _ H7.out rfl : Bk 24 w' (B + 1) #[.int .i64 6])).1
      refine ⟨.tuple #[.slice none 0 0, .int .i64 6], by simp [results, Tryd.results9, go_sem, q1, q2], ?_⟩
      have h8 := H8.out
      rw [HBE.out] at h8
      exact ⟨h8.trans hb, .inr ⟨HNO.out, rfl⟩⟩
    case body =>
      rintro l1 pre x W ⟨v, ps, i1, i2, i3, i4, i5, i6, i7, i8, i9⟩ hpre
      obtain ⟨A2, c2, hv2, hc2, hm2, hs2⟩ := i5.osl
      subst hv2
      have HV := Lib.hid i5
      have I1 := Lib.hid i1
      have I2 := Lib.hid i2
      have I4 := Lib.hid i4
      have I6 := Lib.hid i6
      have I7 := Lib.hid i7
      have I8 := Lib.hid i8
      have I9 := Lib.hid i9
      have hpl : ps.length ≤ 4096 := by omega
      have I3 := Lib.hid i3
      have HPL := Lib.hid hpl
      obtain ⟨x1, x2, x3⟩ := i4.facts
      obtain ⟨y1, y2, y3⟩ := i6.facts
      obtain ⟨z1, z2, z3⟩ := i7.facts
      have HWX := Lib.hid (Below.refl W.heap.size W)
      have hBW : Below w.heap.size w W := by rw [← HBE.out]; exact i8
      have HBW := Lib.hid hBW
      clear i2 i3 i9
      clear hc2 hs2 i1 i4 i5 i6 i7 i8 hBW hstp
      have hys := clip_size x
      have HBAD := Lib.hid (show rdP (clip x).data.toList = none → rdAll rdP (dataL (pre ++ [x])) = none ∨ 4096 < (pre ++ [x]).length from fun h => .inl (rdI_bad I1.out h))
      have HGO := Lib.hid (show ∀ o, rdP (clip x).data.toList = some o → rdAll rdP (dataL (pre ++ [x])) = some (ps ++ [o]) from fun o h => rdI_go I1.out h)
      obtain ⟨y, hy⟩ : ∃ y, y = clip x := ⟨_, rfl⟩
      rw [← hy] at hys HBAD HGO
      refine wpIn_block ?_
      rw [← hy]
      clear hy
      by_cases h0 : y.size = 0
      · have HBD := Lib.hid (HBAD.out (by
          have e : y.data.toList = [] := List.eq_nil_of_length_eq_zero (by rw [len_size]; exact h0)
          rw [e]; rfl))
        have hx0 : ((y.size : Int) == 0) = true := by simp [h0]
        gi_wp2
        exact rdX_mk HBD.out I6.out I7.out I8.out HWX.out
      · have hx0 : ((y.size : Int) == 0) = false := by simpa using h0
        obtain ⟨c, r, hyd⟩ : ∃ c r, y.data.toList = c :: r := by
          cases h : y.data.toList with
          | nil => exact absurd (by rw [← len_size, h]; rfl) h0
          | cons c r => exact ⟨c, r, rfl⟩
        have hyl : y.size = r.length + 1 := by rw [← len_size, hyd]; rfl
        have HYL := Lib.hid hyl
        rw [hyd] at HBAD HGO
        have HYD := Lib.hid hyd
        clear hyd hyl
        by_cases h4 : 4 < y.size
        · have HBD := Lib.hid (HBAD.out (by rw [rdP_cons, if_pos (by have := HYL.out; omega)]))
          have h4I : (4 : Int) < (y.size : Int) := by omega
          gi_wp2
          exact rdX_mk HBD.out I6.out I7.out I8.out HWX.out
        · have h4I : ¬ (4 : Int) < (y.size : Int) := by omega
          by_cases hm : ps.length = 4096
          · have HBD := Lib.hid (show rdAll rdP (dataL (pre ++ [x])) = none ∨ 4096 < (pre ++ [x]).length from .inr (by rw [List.length_append, ← I2.out]; simp; omega))
            have hmI : ((ps.length : Int) == 4096) = true := by simp; omega
            have HM := Lib.hid hm
            clear hm
            gi_wp2
            exact rdX_mk HBD.out I6.out I7.out I8.out HWX.out
          · have hmI : ((ps.length : Int) == 4096) = false := by simp; omega
            have hmN : (ps.length == 4096) = false := by simpa using hm
            have HM := Lib.hid hm
            have hrl : r.length ≤ 3 := by have := HYL.out; omega
            have e1 : y.extract 1 y.size = BS r := by
              have h1 : y = BS (c :: r) := by rw [← HYD.out, BS_self]
              rw [h1, extract_BS, BS_size]
              show BS (r.take _) = BS r
              rw [List.take_of_length_le (by simp)]
            have e2 : y.extract 0 1 = ⟨#[c]⟩ := by
              have h1 : y = BS (c :: r) := by rw [← HYD.out, BS_self]
              rw [h1, extract_BS]; rfl
            obtain ⟨t, ht⟩ : ∃ t, t = BS r := ⟨_, rfl⟩
            have hts : t.size ≤ 3 := by rw [ht, BS_size]; exact hrl
            rw [← ht] at e1
            have htd : t.data.toList = r := by rw [ht, BS_list]
            have HCS := Lib.hid (fun V => cutsuf_any t V (by omega))
            rw [htd] at HCS
            have hdl := cutM_len r
            have HIX := Lib.hid (fun V => index_any letB c V)
            rw [show letB.data.toList = letts from rfl] at HIX
            unfold letB at HIX
            have HRP := Lib.hid (rdP_cons (c := c) (r := r))
            obtain ⟨ix, hix⟩ : ∃ ix, ix = Lib.indexByte letts c := ⟨_, rfl⟩
            obtain ⟨d, hd⟩ : ∃ d, d = (cutM r).1 := ⟨_, rfl⟩
            obtain ⟨bk, hbk⟩ : ∃ bk, bk = (cutM r).2 := ⟨_, rfl⟩
            rw [← hix] at HIX
            rw [← hix, ← hd, ← hbk] at HRP
            rw [← hd, ← hbk] at HCS
            rw [← hd] at hdl
            have hdl := Nat.le_trans hdl hrl
            have HRP := Lib.hid (HRP.out.trans (if_neg (by omega)))
            have hyI : (1 : Int) ≤ (y.size : Int) := by omega
            have hy1 : 1 ≤ y.size := by omega
            obtain ⟨td, htdd⟩ : ∃ td, td = BS d := ⟨_, rfl⟩
            have HTD := Lib.hid htdd
            rw [← htdd] at HCS
            obtain ⟨i0, hi0, hz0, hz1, hz2⟩ := info_parts info_op
            clear hix hd hbk ht htd htdd hm hrl
            have hxa : Below W.heap.size W (W.alloc (.cells #[.int .i64 ix, .int .i64 0, .bool bk] 49)) := ext_alloc W _
            by_cases hdn : d = []
            · have HOO := Lib.hid (HGO.out _ (HRP.out.trans (if_pos hdn)))
              have htn : td = ⟨#[]⟩ := by rw [HTD.out, hdn]; rfl
              have HX := Lib.hid hxa
              clear hxa hdl HTD HRP hdn
              subst htn
              clear hi0 hz0 hz1 hz2
              gi_wp2_with (first
                | (refine ⟨trivial, ?_⟩; gi_at_call 19; refine CallsIn.inRound l1 (callsIn_wide.2 ((HCS.out _).mono ?_)); rintro e w2 ⟨rfl, hw2⟩; obtain rfl : W = w2 := hw2.symm)
                | (refine ⟨trivial, ?_⟩; gi_at_call 20; refine CallsIn.inRound l1 (callsIn_wide.2 ((HIX.out _).mono ?_)); rintro e w3 ⟨rfl, hw3⟩; obtain rfl : W = w3 := hw3.symm)
                | (gi_at_builtin; refine wpListIn_pushR W _ rfl _ _ rfl HV.out I4.out (by rfl) HX.out ⟨ix, 0, bk⟩ (by rfl) (by simp) HPL.out I9.out ?_; intro A6 c6 w6 hv6 hg6 hj6; have HV6 := Lib.hid hv6; have HG6 := Lib.hid hg6; obtain ⟨u1, u2, u3⟩ := Bk.facts hj6; clear hv6 hg6 hj6))
              (try simp only [Exit.inBlock, Exit.then])
              exact rd_next hsz6 HOO.out I2.out (by have := HPL.out; have := HM.out; omega) I4.out HV.out I6.out I7.out I8.out I9.out (bext HX.out (ext_alloc _ _) HX.out.size) HG6.out HV6.out
            · have HRP := Lib.hid (HRP.out.trans (if_neg hdn))
              have htd2 : td.data.toList = d := by rw [HTD.out, BS_list]
              have htn : td.toList.isEmpty = false := by
                rw [ByteArray.toList_eq, htd2]
                cases h : d with
                | nil => exact absurd h hdn
                | cons a t => rfl
              have htz : td.size ≤ 18 := by rw [HTD.out, BS_size]; omega
              obtain ⟨W1, hW1⟩ : ∃ W1, W1 = W.alloc (.cells #[.int .i64 ix, .int .i64 0, .bool bk] 49) := ⟨_, rfl⟩
              have hk1 : Bk 49 W1 W.heap.size #[.int .i64 ix, .int .i64 0, .bool bk] := by rw [hW1]; exact Bk.new _ _ _
              have HW1 := Lib.hid hW1
              have HK1' := Lib.hid hk1
              rw [← hW1] at hxa
              have HX1 := Lib.hid hxa
              clear hxa hW1 hk1 hdl hdn
              cases hat : Lib.atoi d with
              | none =>
                have HBD := Lib.hid (HBAD.out (HRP.out.trans (by rw [hat])))
                have HAT := Lib.hid (fun V h => atoi_none td V htz (by rw [htd2]; exact hat) h)
                clear hat htz htd2
                gi_wp2_with (first
                  | (refine ⟨trivial, ?_⟩; gi_at_call 19; refine CallsIn.inRound l1 (callsIn_wide.2 ((HCS.out _).mono ?_)); rintro e w2 ⟨rfl, hw2⟩; obtain rfl : W = w2 := hw2.symm)
                  | (refine ⟨trivial, ?_⟩; gi_at_call 20; refine CallsIn.inRound l1 (callsIn_wide.2 ((HIX.out _).mono ?_)); rintro e w3 ⟨rfl, hw3⟩; obtain rfl : W = w3 := hw3.symm)
                  | (refine ⟨trivial, ?_⟩; gi_at_call 21; refine CallsIn.inRound l1 (callsIn_wide.2 ((HAT.out _ (HET.out _ (by rw [← HW1.out]; exact bext HBW.out HX1.out HBW.out.size))).mono ?_)); rintro e w4 ⟨T4, N4, rfl, hw4⟩; rw [← HW1.out] at hw4; have hx4 := bext HX1.out hw4 HX1.out.size; have HX4 := Lib.hid hx4; obtain ⟨y41, y42, y43⟩ := (I6.out.ext hx4).facts; obtain ⟨z41, z42, z43⟩ := (I7.out.ext hx4).facts; clear hw4 hx4))
                (try simp only [Exit.inBlock, Exit.then])
                exact rdX_mk HBD.out (I6.out.ext HX4.out) (I7.out.ext HX4.out) (bext I8.out HX4.out (by have := I8.out.size; omega)) HX4.out
              | some n =>
                have HOO := Lib.hid (HGO.out _ (HRP.out.trans (by rw [hat])))
                have HAT := Lib.hid (fun V => atoi_any td n V htz (by rw [htd2]; exact hat))
                clear hat htz htd2
                gi_wp2_with (first
                  | (refine ⟨trivial, ?_⟩; gi_at_call 19; refine CallsIn.inRound l1 (callsIn_wide.2 ((HCS.out _).mono ?_)); rintro e w2 ⟨rfl, hw2⟩; obtain rfl : W = w2 := hw2.symm)
                  | (refine ⟨trivial, ?_⟩; gi_at_call 20; refine CallsIn.inRound l1 (callsIn_wide.2 ((HIX.out _).mono ?_)); rintro e w3 ⟨rfl, hw3⟩; obtain rfl : W = w3 := hw3.symm)
                  | (refine ⟨trivial, ?_⟩; gi_at_call 21; refine CallsIn.inRound l1 (callsIn_wide.2 ((HAT.out _).mono ?_)); rintro e w4 ⟨rfl, hw4⟩; rw [← HW1.out] at hw4; have hx4 := bext HX1.out hw4 HX1.out.size; have HX4 := Lib.hid hx4; have hk4 := HK1'.out.ext hw4; have HK4' := Lib.hid hk4; obtain ⟨y41, y42, y43⟩ := hk4.facts; obtain ⟨z41, z42, z43⟩ := (I4.out.ext hx4).facts; clear hw4 hx4 hk4)
                  | (have HX := Lib.hid (show Below W.heap.size W (w4.setCell ⟨W.heap.size, 1, none⟩ (.int .i64 n)) from HX4.out.setCell (p := ⟨W.heap.size, 1, none⟩) (Nat.le_refl _) _); gi_at_builtin; refine wpListIn_pushR W _ rfl _ _ rfl HV.out I4.out (by rfl) HX.out ⟨ix, n, bk⟩ (by rfl) (by simp) HPL.out I9.out ?_; intro A6 c6 w6 hv6 hg6 hj6; have HV6 := Lib.hid hv6; have HG6 := Lib.hid hg6; obtain ⟨u1, u2, u3⟩ := Bk.facts hj6; clear hv6 hg6 hj6))
                (try simp only [Exit.inBlock, Exit.then])
                exact rd_next hsz6 HOO.out I2.out (by have := HPL.out; have := HM.out; omega) I4.out HV.out I6.out I7.out I8.out I9.out (bext HX.out (ext_alloc _ _) HX.out.size) HG6.out HV6.out
    case done =>
      rintro D xs W hD hxs ⟨v, ps, i1, i2, i3, i4, i5, i6, i7, i8, i9⟩ hDW
      obtain ⟨A2, c2, hv2, hc2, hm2, hs2⟩ := i5.osl
      subst hv2
      have HBD := Lib.hid (show ¬ (TxOk ps ∧ BS (txtL ps) = s) → ∀ l, TxOk l → BS (txtL l) ≠ s from by
        have hdl : dataL (wordsB s) = Lib.split s.data.toList [32] := wordsB_clip (by omega)
        exact tx_bad HRC.out HNE.out (by rw [← hdl, ← hxs]; exact i1))
      have hbw : Below w.heap.size w W := by rw [← HBE.out]; exact i8
      have HP1 := Lib.hid (HTX.out A2 c2 ps W hc2 (by unfold maxLen at hm2; exact hm2) hs2 hbw)
      have HBW := Lib.hid hbw
      have HC2 := Lib.hid hc2
      have HM2 := Lib.hid (show c2 ≤ 9223372036854775807 by unfold maxLen at hm2; exact hm2)
      have HV := Lib.hid i5
      have I4 := Lib.hid i4
      have I6 := Lib.hid i6
      have I7 := Lib.hid i7
      have HDW := Lib.hid hDW
      have hDB : B + 6 ≤ D := by omega
      have hDl : D < W.heap.size := (Array.getElem?_eq_some_iff.1 hDW).1
      have HDB := Lib.hid hDB
      have HDL := Lib.hid hDl
      have HBl := Lib.hid i7.lt
      obtain ⟨x1, x2, x3⟩ := i4.facts
      clear i1 i2 i3 i4 i5 i6 i7 i8 i9 hDW hbw hs2 hc2 hm2 hxs hD hDB hDl hstp HTX
      by_cases hok : TxOk ps
      · have HOK := Lib.hid hok
        have HP1 := Lib.hid (HP1.out.mono (R' := fun e w' => Below W.heap.size W w' ∧ e = .returned (.tuple #[.string (BS (txtL ps)), .int .i64 0])) (fun e w' hr => ⟨hr.1, hr.2.elim (fun h => h.2) (fun h => absurd hok h.1)⟩))
        obtain ⟨sp, hsp⟩ : ∃ sp, sp = BS (txtL ps) := ⟨_, rfl⟩
        rw [← hsp] at HP1
        have HSP := Lib.hid hsp
        clear hsp hok
        by_cases hq : sp = s
        · have HQ := Lib.hid hq
          have t1 : (sp.toList == s.toList) = true := by rw [hq]; simp
          have t2 : (sp.toList != s.toList) = false := by rw [hq]; simp
          clear hq
          gi_wp2_with (refine ⟨trivial, ?_⟩; gi_at_call 6; refine callsIn_wide.2 ((HP1.out).mono ?_); rintro e w6 ⟨hx6, rfl⟩; have HX6 := Lib.hid hx6; obtain ⟨u1, u2, u3⟩ := (I4.out.ext hx6).facts; obtain ⟨y1, y2, y3⟩ := (I6.out.ext hx6).facts; obtain ⟨z1, z2, z3⟩ := (I7.out.ext hx6).facts; clear hx6)
          (try simp only [Exit.inBlock, Exit.then])
          obtain ⟨w7, hw7⟩ : ∃ w7, w7 = (w6.setCell ⟨B, 0, none⟩ (.slice A2 (ps.length : Nat) c2)).setCell ⟨B + 1, 0, none⟩ (.int .i64 0) := ⟨_, rfl⟩
          rw [← hw7]
          have k6 : Bk 27 w7 B #[(.slice A2 (ps.length : Nat) c2)] := by rw [hw7]; exact ((I6.out.ext HX6.out).set 0 _).set_ne (by omega) _
          have k7 : Bk 24 w7 (B + 1) #[.int .i64 0] := by rw [hw7]; exact ((I7.out.ext HX6.out).set_ne (by omega) _).set 0 _
          have kD : w7.heap[D]? = some (.deferred (some [])) := by
            have := HDB.out
            rw [hw7, Below.heap_setCell _ _ _ _ (by show D ≠ B + 1; omega), Below.heap_setCell _ _ _ _ (by show D ≠ B; omega), HX6.out.block D HDL.out]
            exact HDW.out
          have kb0 : Below B w w6 := bext (by rw [HBE.out]; exact HBW.out) HX6.out (by have := HBl.out; omega)
          have kb : Below B w w7 := by rw [hw7]; exact ((kb0.setCell (p := ⟨B, 0, none⟩) (Nat.le_refl _) _).setCell (p := ⟨B + 1, 0, none⟩) (by show B ≤ B + 1; omega) _)
          have kO : Vo 49 W6.heap.size w7 (.slice A2 ps.length c2) ps := by rw [hw7]; exact own_set (own_set (own_ext HV.out HX6.out) (own_ne (own_ext HV.out HX6.out) (I6.out.ext HX6.out) (by decide))) (own_ne (own_ext HV.out HX6.out) (I7.out.ext HX6.out) (by decide))
          refine leaves_one (base := w.heap.size) (D := D) (by have := HDB.out; have := HBE.out; omega) kD (by have := kb.size; have := HBE.out; have := k6.lt; omega) fun w' hb hk => ?_
          have q1 := (Bk.facts (hk _ _ k6 rfl : Bk 27 w' B #[(.slice A2 (ps.length : Nat) c2)])).1
          have q2 := (Bk.facts (hk _ _ k7 rfl : Bk 24 w' (B + 1) #[.int .i64 0])).1
          refine ⟨.tuple #[(.slice A2 (ps.length : Nat) c2), .int .i64 0], by simp [results, Tryd.results9, go_sem, q1, q2], ?_⟩
          rw [HBE.out] at kb
          have kO' : Vo 49 W6.heap.size w' (.slice A2 ps.length c2) ps := own_keep kO fun k e => by
            obtain ⟨o, ho, hc⟩ := own_cell kO k e
            exact (hk k o ho hc).trans ho.symm
          refine ⟨kb.trans hb, .inl ⟨A2, c2, ps, HOK.out, by rw [← HSP.out]; exact HQ.out, rfl, HC2.out, HM2.out, ?_⟩⟩
          obtain ⟨A', c', e', _, _, hO⟩ := kO'.osl
          injection e' with e1 e2 e3
          subst e1
          exact hO
        · have HNO := Lib.hid (HBD.out (fun h => hq (HSP.out.trans h.2)))
          have t1 : (sp.toList == s.toList) = false := by simpa using fun h => hq (toList_inj h)
          have t2 : (sp.toList != s.toList) = true := by simpa using fun h => hq (toList_inj h)
          clear hq
          gi_wp2_with (refine ⟨trivial, ?_⟩; gi_at_call 6; refine callsIn_wide.2 ((HP1.out).mono ?_); rintro e w6 ⟨hx6, rfl⟩; have HX6 := Lib.hid hx6; obtain ⟨u1, u2, u3⟩ := (I4.out.ext hx6).facts; obtain ⟨y1, y2, y3⟩ := (I6.out.ext hx6).facts; obtain ⟨z1, z2, z3⟩ := (I7.out.ext hx6).facts; clear hx6)
          (try simp only [Exit.inBlock, Exit.then])
          obtain ⟨w7, hw7⟩ : ∃ w7, w7 = (w6.setCell ⟨B, 0, none⟩ (.slice none 0 0)).setCell ⟨B + 1, 0, none⟩ (.int .i64 6) := ⟨_, rfl⟩
          rw [← hw7]
          have k6 : Bk 27 w7 B #[(.slice none 0 0)] := by rw [hw7]; exact ((I6.out.ext HX6.out).set 0 _).set_ne (by omega) _
          have k7 : Bk 24 w7 (B + 1) #[.int .i64 6] := by rw [hw7]; exact ((I7.out.ext HX6.out).set_ne (by omega) _).set 0 _
          have kD : w7.heap[D]? = some (.deferred (some [])) := by
            have := HDB.out
            rw [hw7, Below.heap_setCell _ _ _ _ (by show D ≠ B + 1; omega), Below.heap_setCell _ _ _ _ (by show D ≠ B; omega), HX6.out.block D HDL.out]
            exact HDW.out
          have kb0 : Below B w w6 := bext (by rw [HBE.out]; exact HBW.out) HX6.out (by have := HBl.out; omega)
          have kb : Below B w w7 := by rw [hw7]; exact ((kb0.setCell (p := ⟨B, 0, none⟩) (Nat.le_refl _) _).setCell (p := ⟨B + 1, 0, none⟩) (by show B ≤ B + 1; omega) _)
          have kO : True := trivial
          refine leaves_one (base := w.heap.size) (D := D) (by have := HDB.out; have := HBE.out; omega) kD (by have := kb.size; have := HBE.out; have := k6.lt; omega) fun w' hb hk => ?_
          have q1 := (Bk.facts (hk _ _ k6 rfl : Bk 27 w' B #[(.slice none 0 0)])).1
          have q2 := (Bk.facts (hk _ _ k7 rfl : Bk 24 w' (B + 1) #[.int .i64 6])).1
          refine ⟨.tuple #[(.slice none 0 0), .int .i64 6], by simp [results, Tryd.results9, go_sem, q1, q2], ?_⟩
          rw [HBE.out] at kb
          exact ⟨kb.trans hb, .inr ⟨HNO.out, rfl⟩⟩
      · obtain ⟨zz, hzz⟩ : ∃ zz : Int, zz = if 4096 < ps.length then 3 else 2 := ⟨_, rfl⟩
        have hz3 : zz = 3 ∨ zz = 2 := by rw [hzz]; split <;> simp
        have HP1 := Lib.hid (HP1.out.mono (R' := fun e w' => Below W.heap.size W w' ∧ e = .returned (.tuple #[.string ⟨#[]⟩, .int .i64 zz])) (fun e w' hr => ⟨hr.1, hr.2.elim (fun h => absurd h.1 hok) (fun h => by rw [hzz]; exact h.2)⟩))
        have HNO := Lib.hid (HBD.out (fun h => hok h.1))
        clear hok hzz
        rcases hz3 with rfl | rfl
        all_goals
          gi_wp2_with (refine ⟨trivial, ?_⟩; gi_at_call 6; refine callsIn_wide.2 ((HP1.out).mono ?_); rintro e w6 ⟨hx6, rfl⟩; have HX6 := Lib.hid hx6; obtain ⟨u1, u2, u3⟩ := (I4.out.ext hx6).facts; obtain ⟨y1, y2, y3⟩ := (I6.out.ext hx6).facts; obtain ⟨z1, z2, z3⟩ := (I7.out.ext hx6).facts; clear hx6)
          (try simp only [Exit.inBlock, Exit.then])
          obtain ⟨w7, hw7⟩ : ∃ w7, w7 = (w6.setCell ⟨B, 0, none⟩ (.slice none 0 0)).setCell ⟨B + 1, 0, none⟩ (.int .i64 6) := ⟨_, rfl⟩
          rw [← hw7]
          have k6 : Bk 27 w7 B #[(.slice none 0 0)] := by rw [hw7]; exact ((I6.out.ext HX6.out).set 0 _).set_ne (by omega) _
          have k7 : Bk 24 w7 (B + 1) #[.int .i64 6] := by rw [hw7]; exact ((I7.out.ext HX6.out).set_ne (by omega) _).set 0 _
          have kD : w7.heap[D]? = some (.deferred (some [])) := by
            have := HDB.out
            rw [hw7, Below.heap_setCell _ _ _ _ (by show D ≠ B + 1; omega), Below.heap_setCell _ _ _ _ (by show D ≠ B; omega), HX6.out.block D HDL.out]
            exact HDW.out
          have kb0 : Below B w w6 := bext (by rw [HBE.out]; exact HBW.out) HX6.out (by have := HBl.out; omega)
          have kb : Below B w w7 := by rw [hw7]; exact ((kb0.setCell (p := ⟨B, 0, none⟩) (Nat.le_refl _) _).setCell (p := ⟨B + 1, 0, none⟩) (by show B ≤ B + 1; omega) _)
          have kO : True := trivial
          refine leaves_one (base := w.heap.size) (D := D) (by have := HDB.out; have := HBE.out; omega) kD (by have := kb.size; have := HBE.out; have := k6.lt; omega) fun w' hb hk => ?_
          have q1 := (Bk.facts (hk _ _ k6 rfl : Bk 27 w' B #[(.slice none 0 0)])).1
          have q2 := (Bk.facts (hk _ _ k7 rfl : Bk 24 w' (B + 1) #[.int .i64 6])).1
          refine ⟨.tuple #[(.slice none 0 0), .int .i64 6], by simp [results, Tryd.results9, go_sem, q1, q2], ?_⟩
          rw [HBE.out] at kb
          exact ⟨kb.trans hb, .inr ⟨HNO.out, rfl⟩⟩
end Go.Proofs.YtfadkokdoehjnaaDoor
