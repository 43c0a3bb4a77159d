/- strings.SplitSeq's closure walked, at a blank. Conditions: none beyond its boxes. -/
import Derived.Test.YtfadkokdoehjnaaDoorSsq
namespace Go.Proofs.YtfadkokdoehjnaaDoor
open Go.RowKit Go.Shelf
attribute [local go_sem] Oper.semAt_some

set_option maxRecDepth 100000 in
set_option maxHeartbeats 4000000 in
theorem split1_in (n : Nat) (l p : Nat) (s : ByteArray) (hsz : s.size ≤ 100000)
    (J Jx : List ByteArray → World → Prop) (W : World) (hJ : AbidesFrom W.heap.size J) (hJp : ∀ pre W1 v, J pre W1 → J pre (W1.setCell ⟨p, 0, none⟩ v))
    (hY : ∀ pre x W1, J pre W1 → pre.length < (wordsB s).length → YieldAt Fence.wide (n - 1) Tryd.prog l #[.string (clip x)] W1 fun e' W' =>
      (e' = .returned (.bool true) ∧ J (pre ++ [x]) W' ∧ KpS p W1 W') ∨ (e' = .returned (.bool false) ∧ Jx (pre ++ [x]) W'))
    (b0 : Bk 9 W p #[.string s]) (b1 : Bk 9 W (p + 1) #[.string ⟨#[32]⟩]) (b2 : Bk 3 W (p + 2) #[.int .i64 0]) (h0 : J [] W) :
    CallsIn Fence.wide n Tryd.prog 42 #[.func (.yield l) #[] #[], .pointer (some ⟨p + 1, 0, none⟩), .pointer (some ⟨p, 0, none⟩), .pointer (some ⟨p + 2, 0, none⟩)] W fun e' W' => (∃ v, e' = .returned v) ∧
      ((∃ xs, xs = wordsB s ∧ J xs W') ∨ (∃ pre, pre <+: wordsB s ∧ Jx pre W')) := by
  refine callsIn_of_wp Tryd.func42 rfl trivial ?_ rfl
  simp only [Tryd.ntmps42, List.size_toArray, List.length_cons, List.length_nil, Nat.reduceAdd, Nat.reduceSub, Array.replicate_succ, Array.replicate_zero, List.push_toArray, List.append_toArray, List.nil_append, List.cons_append]
  have HY := Lib.hid hY
  have HJA := Lib.hid hJ
  have HJP := Lib.hid hJp
  have HB0 := Lib.hid b0
  have HB1 := Lib.hid b1
  have HB2 := Lib.hid b2
  have H0 := Lib.hid h0
  obtain ⟨c1, c2, c3⟩ := b1.facts
  obtain ⟨a1, a2, a3⟩ := b0.facts
  clear hY hJ hJp b0 b1 b2 h0
  gi_wp2
  gi_loopw [7] (fun z wr => ∃ (k : Nat) (rest : ByteArray), J ((wordsB s).take k) wr ∧ Bk 9 wr p #[.string rest] ∧ Bk 9 wr (p + 1) #[.string ⟨#[32]⟩] ∧ Bk 3 wr (p + 2) #[.int .i64 0] ∧ (wordsB s).drop k = wordsB rest ∧ rest.size ≤ 100000)
    (fun _ wr => match wr.cell? ⟨p, 0, none⟩ with | some (.string r) => r.size | _ => 0)
  case atStart => exact ⟨0, s, by rw [List.take_zero]; exact H0.out, HB0.out, HB1.out, HB2.out, rfl, hsz⟩
  case round =>
    obtain ⟨k, rest, hJs, hb0, hb1, hb2, hdr, hrs⟩ := hrel
    have HJ := Lib.hid hJs
    have K0 := Lib.hid hb0
    have K1 := Lib.hid hb1
    have K2 := Lib.hid hb2
    have HDR := Lib.hid hdr
    obtain ⟨c1, c2, c3⟩ := hb1.facts
    obtain ⟨a1, a2, a3⟩ := hb0.facts
    obtain ⟨e1, e2, e3⟩ := hb2.facts
    have HIX := Lib.hid (fun V => index_any rest 32 V)
    clear hJs hb0 hb1 hb2 hdr
    by_cases hm : Lib.indexByte rest.data.toList 32 = -1
    · rw [hm] at HIX
      have HW := Lib.hid (show (wordsB s).drop k = [rest] from by rw [HDR.out, wordsB_miss hm])
      clear hm
      have hkl : k < (wordsB s).length := by
        rcases Nat.lt_or_ge k (wordsB s).length with h | h
        · exact h
        · have := HW.out; rw [List.drop_of_length_le h] at this; cases this
      have htk : wordsB s = (wordsB s).take k ++ [rest] := by
        have := List.take_append_drop k (wordsB s)
        rw [HW.out] at this; exact this.symm
      have HTK := Lib.hid htk
      have HKL := Lib.hid hkl
      clear htk hkl
      gi_wp2
      refine ⟨trivial, fun h => (by cases h), callsIn_wide.2 ((HIX.out _).mono ?_)⟩
      rintro e w2 ⟨rfl, hw2⟩
      obtain rfl : wr = w2 := hw2.symm
      obtain ⟨fn, tmps, assign, body, hy, hR⟩ := HY.out _ rest wr HJ.out (by have := HKL.out; rw [List.length_take]; omega)
      rw [clip_ok hrs] at hy
      try dsimp only at hy hR
      gi_wp2
      refine ⟨fun h => (by cases h), hR.mono ?_⟩
      rintro e2 W3 (⟨rfl, hJ3, hk3⟩ | ⟨rfl, hJx3⟩)
      · have HJ3 := Lib.hid hJ3
        clear hy hR hJ3 hk3
        gi_wp2
        go_end0
        exact ⟨⟨_, rfl⟩, .inl ⟨_, rfl, by rw [HTK.out]; exact HJ3.out⟩⟩
      · have HJ3 := Lib.hid hJx3
        clear hy hR hJx3
        gi_wp2
        go_end0
        exact ⟨⟨_, rfl⟩, .inr ⟨_, by rw [← HTK.out]; exact List.prefix_refl _, HJ3.out⟩⟩
    · have hge := Lib.indexByte_ge rest.data.toList 32
      obtain ⟨i, hi⟩ : ∃ i : Nat, Lib.indexByte rest.data.toList 32 = i := ⟨(Lib.indexByte rest.data.toList 32).toNat, by omega⟩
      have hil : i < rest.size := by
        have := (List.getElem?_eq_some_iff.1 (Lib.indexByte_some hi).1).1
        rw [len_size] at this; exact this
      rw [hi] at HIX
      obtain ⟨frag, hfr⟩ : ∃ frag, frag = rest.extract 0 i := ⟨_, rfl⟩
      obtain ⟨rest2, hr2⟩ : ∃ r, r = rest.extract (i + 1) rest.size := ⟨_, rfl⟩
      have hr2s : rest2.size + 1 ≤ rest.size := by rw [hr2, ByteArray.size_extract]; omega
      have HW := Lib.hid (show (wordsB s).drop k = frag :: wordsB rest2 from by rw [HDR.out, wordsB_hit hi, hfr, hr2])
      have hkl : k < (wordsB s).length := by
        rcases Nat.lt_or_ge k (wordsB s).length with h | h
        · exact h
        · have := HW.out; rw [List.drop_of_length_le h] at this; cases this
      have hgk : (wordsB s)[k]? = some frag := by
        have := congrArg (fun l : List ByteArray => l[0]?) HW.out
        simpa using this
      have htk : (wordsB s).take (k + 1) = (wordsB s).take k ++ [frag] := by
        rw [List.take_add_one, hgk]; rfl
      have hdk : (wordsB s).drop (k + 1) = wordsB rest2 := by
        have := congrArg (fun l : List ByteArray => l.drop 1) HW.out
        simpa [List.drop_drop, Nat.add_comm] using this
      have HTK := Lib.hid htk
      have HDK := Lib.hid hdk
      have HKL := Lib.hid hkl
      have HFR := Lib.hid hfr
      have HR2 := Lib.hid hr2s
      have x1 : rest.extract 0 i = frag := hfr.symm
      have x2 : rest.extract (i + 1) rest.size = rest2 := hr2.symm
      have y1 : (0 : Int) ≤ (i : Int) := by omega
      have y2 : (i : Int) ≤ (rest.size : Int) := by omega
      have y3 : (i : Int) + 1 ≤ (rest.size : Int) := by omega
      have y4 : ¬ (i : Int) < 0 := by omega
      clear htk hkl hdk hfr hr2 hgk hi hm hge hr2s
      gi_wp2
      refine ⟨trivial, fun h => (by cases h), callsIn_wide.2 ((HIX.out _).mono ?_)⟩
      rintro e w2 ⟨rfl, hw2⟩
      obtain rfl : wr = w2 := hw2.symm
      obtain ⟨fn, tmps, assign, body, hy, hR⟩ := HY.out _ frag wr HJ.out (by have := HKL.out; rw [List.length_take]; omega)
      rw [clip_ok (by rw [HFR.out, ByteArray.size_extract]; omega)] at hy
      try dsimp only at hy hR
      gi_wp2
      refine ⟨fun h => (by cases h), hR.mono ?_⟩
      rintro e2 W3 (⟨rfl, hJ3, hk3⟩ | ⟨rfl, hJx3⟩)
      · have HJ3 := Lib.hid hJ3
        have B0 := Lib.hid (show Bk 9 W3 p #[.string rest] from hk3.1.trans K0.out)
        have B1 := Lib.hid (show Bk 9 W3 (p + 1) #[.string ⟨#[32]⟩] from hk3.2.1.trans K1.out)
        have B2 := Lib.hid (show Bk 3 W3 (p + 2) #[.int .i64 0] from hk3.2.2.trans K2.out)
        clear hy hR hJ3 hk3 c1 c2 c3 a1 a2 a3 e1 e2 e3
        obtain ⟨c1, c2, c3⟩ := B1.out.facts
        obtain ⟨a1, a2, a3⟩ := B0.out.facts
        gi_wp2
        go_roundw
        case rel => exact ⟨k + 1, rest2, by rw [HTK.out]; exact HJP.out _ _ _ HJ3.out, B0.out.set 0 (.string rest2), B1.out.set_ne (by omega) _, B2.out.set_ne (by omega) _, HDK.out, by have := HR2.out; omega⟩
        case measure =>
          have m1 : (W3.setCell ⟨p, 0, none⟩ (.string rest2)).cell? ⟨p, 0, none⟩ = some (.string rest2) := (B0.out.set 0 (.string rest2)).cell 0
          have m2 : wr.cell? ⟨p, 0, none⟩ = some (.string rest) := K0.out.cell 0
          simp only [m1, m2]
          have := HR2.out
          omega
      · have HJ3 := Lib.hid hJx3
        clear hy hR hJx3
        gi_wp2
        refine bodyPost_ret (results_none rfl _ _ _) rfl ?_
        exact ⟨⟨_, rfl⟩, .inr ⟨_, ⟨(wordsB s).drop (k + 1), by rw [← HTK.out]; exact List.take_append_drop _ _⟩, HJ3.out⟩⟩
/-- the closure's contract for a range over it -/
theorem split1_stops (n p : Nat) (s : ByteArray) (hsz : s.size ≤ 100000) (w : World) (b0 : Bk 9 w p #[.string s]) (b1 : Bk 9 w (p + 1) #[.string ⟨#[32]⟩]) (b2 : Bk 3 w (p + 2) #[.int .i64 0]) :
    SeqStopsP p Fence.wide n Tryd.prog 42 #[.pointer (some ⟨p + 1, 0, none⟩), .pointer (some ⟨p, 0, none⟩), .pointer (some ⟨p + 2, 0, none⟩)] (fun x : ByteArray => #[.string (clip x)]) (KpS p) (fun xs => xs = wordsB s) (fun pre => pre <+: wordsB s) (wordsB s).length w :=
  fun l J Jx W hW hsize hpc hJ _ hJp hY h0 => split1_in n l p s hsz J Jx W hJ hJp hY (hpc.trans b0) ((hW (p + 1) _ b1.lt b1).resolve_left (by omega)) ((hW (p + 2) _ b2.lt b2).resolve_left (by omega)) h0
set_option maxRecDepth 100000 in
set_option maxHeartbeats 1000000 in
theorem splitseq_any (s : ByteArray) (w : World) :
    Calls Tryd.prog 18 #[.string s, .string ⟨#[32]⟩] w fun e w' => e = .returned (.func (.func 42) #[] #[.pointer (some ⟨w.heap.size + 1, 0, none⟩), .pointer (some ⟨w.heap.size, 0, none⟩), .pointer (some ⟨w.heap.size + 2, 0, none⟩)]) ∧ w' = ((w.alloc (.cells #[.string s] 9)).alloc (.cells #[.string ⟨#[32]⟩] 9)).alloc (.cells #[.int .i64 0] 3) := by
  have h : ∀ W, Calls Tryd.prog 30 #[.string s, .string ⟨#[32]⟩, .int .i64 0] W fun e w' => e = .returned (.func (.func 42) #[] #[.pointer (some ⟨W.heap.size + 1, 0, none⟩), .pointer (some ⟨W.heap.size, 0, none⟩), .pointer (some ⟨W.heap.size + 2, 0, none⟩)]) ∧ w' = ((W.alloc (.cells #[.string s] 9)).alloc (.cells #[.string ⟨#[32]⟩] 9)).alloc (.cells #[.int .i64 0] 3) := fun W => by
    go_enter Tryd.func30, Tryd.ntmps30
    go_wp2
    go_ret
    exact ⟨rfl, rfl⟩
  have H := Lib.hid h
  clear h
  go_enter Tryd.func18, Tryd.ntmps18
  go_wp2_with (go_at_call 30; refine (H.out _).mono ?_; rintro e w1 ⟨rfl, rfl⟩)
  go_ret
  exact ⟨rfl, rfl⟩
end Go.Proofs.YtfadkokdoehjnaaDoor
