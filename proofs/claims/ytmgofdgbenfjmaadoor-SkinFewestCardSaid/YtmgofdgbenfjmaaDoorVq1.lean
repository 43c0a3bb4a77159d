/- Texts joined: Vq, Au. Conditions: see each. -/
import Derived.Test.YtmgofdgbenfjmaaDoorVh1
import Derived.Test.YtmgofdgbenfjmaaDoorFn1
import Derived.StillTailTactics
namespace Go.Proofs.YtmgofdgbenfjmaaDoor
open Go.RowKit

/-- a chord's length -/
def chN (c : Chd) : Int := (c.2.1 - c.1.1) + (c.2.2 - c.1.2)
def rvs (dn : Bool) (c : Chd) : List Value := [.int .i64 c.1.1, .int .i64 c.1.2, .int .i64 (chN c), .bool dn]
def Vqc (dn : Bool) (base : Nat) (w : World) (v : Value) (l : List Chd) : Prop := w.ownsRow base 106 4 v l.length (l.flatMap (rvs dn))
def QcSl (dn : Bool) (base : Nat) (w : World) (A : Option Addr) (l : List Chd) : Prop :=
  l = [] ∨ ∃ b off, A = some ⟨b, off, none⟩ ∧ base ≤ b ∧ b < w.heap.size ∧ ∀ j (h : j < l.length), w.cell? ⟨b, off + j * 4, none⟩ = some (.int .i64 l[j].1.1) ∧ w.cell? ⟨b, off + j * 4 + 1, none⟩ = some (.int .i64 l[j].1.2) ∧ w.cell? ⟨b, off + j * 4 + 2, none⟩ = some (.int .i64 (chN l[j])) ∧ w.cell? ⟨b, off + j * 4 + 3, none⟩ = some (.bool dn)
theorem QcSl.keep {dn : Bool} {base : Nat} {w w' : World} {A : Option Addr} {l : List Chd} (h : QcSl dn base w A l) (hs : w.heap.size ≤ w'.heap.size) (hk : ∀ g, base ≤ g → g < w.heap.size → A.map (·.block) = some g → w'.heap[g]? = w.heap[g]?) : QcSl dn base w' A l := by
  rcases h with h | ⟨b, off, rfl, h2, h3, h4⟩
  · exact .inl h
  · have e := hk b h2 h3 rfl
    have c : ∀ i, w'.cell? ⟨b, i, none⟩ = w.cell? ⟨b, i, none⟩ := fun i => by unfold World.cell?; rw [e]
    exact .inr ⟨b, off, rfl, h2, by omega, fun j hj => by
      obtain ⟨c1, c2, c3, c4⟩ := h4 j hj
      exact ⟨(c _).trans c1, (c _).trans c2, (c _).trans c3, (c _).trans c4⟩⟩
theorem QcSl.ext {dn : Bool} {base : Nat} {w w' : World} {A : Option Addr} {l : List Chd} (h : QcSl dn base w A l) (hb : Below w.heap.size w w') : QcSl dn base w' A l := h.keep hb.size fun g _ hg _ => hb.block g hg
theorem QcSl.mono {dn : Bool} {base base' : Nat} {w : World} {A : Option Addr} {l : List Chd} (h : QcSl dn base w A l) (hb : base' ≤ base) : QcSl dn base' w A l := by
  rcases h with h | ⟨b, off, h1, h2, h3⟩
  · exact .inl h
  · exact .inr ⟨b, off, h1, by omega, h3⟩
theorem Vqc.nil (dn : Bool) (base : Nat) (w : World) : Vqc dn base w (.slice none 0 0) [] := own_nil w base 106 4
theorem Vqc.ext {dn : Bool} {base : Nat} {w w' : World} {v : Value} {l : List Chd} (h : Vqc dn base w v l) (hb : Below w.heap.size w w') : Vqc dn base w' v l := own_ext h hb
theorem Vqc.qsl {dn : Bool} {base : Nat} {w : World} {v : Value} {l : List Chd} (h : Vqc dn base w v l) : ∃ A cap, v = .slice A l.length cap ∧ l.length ≤ cap ∧ cap ≤ maxLen ∧ QcSl dn base w A l := by
  obtain ⟨A, cap, hv, h1, h2, h3⟩ := own_cells h
  refine ⟨A, cap, hv, h1, h2, ?_⟩
  rcases h3 with h3 | ⟨g, rfl, hb, hg, hc⟩
  · exact .inl (List.eq_nil_of_length_eq_zero h3)
  · refine .inr ⟨g, 0, rfl, hb, hg, fun j hj => ?_⟩
    have hf : ∀ a : Chd, (rvs dn a).length = 4 := fun _ => rfl
    rw [Nat.zero_add]
    refine ⟨?_, ?_, ?_, ?_⟩
    · exact hc (j * 4) _ (by rw [show j * 4 = j * 4 + 0 from rfl, flat_get hf l j 0 hj (by omega)]; rfl)
    · exact hc (j * 4 + 1) _ (by rw [flat_get hf l j 1 hj (by omega)]; rfl)
    · exact hc (j * 4 + 2) _ (by rw [flat_get hf l j 2 hj (by omega)]; rfl)
    · exact hc (j * 4 + 3) _ (by rw [flat_get hf l j 3 hj (by omega)]; rfl)
theorem info_rchord : (Tryd.prog.info? 106).map (fun i => (i.zero, i.size, i.bytes)) = some (some (.agg #[.int .i64 0, .int .i64 0, .int .i64 0, .bool false]), 4, 32) := by kernel_rfl
/-- 'append(out, c)' of one chord -/
theorem wpList_pushQc (w : World) {ops : Array Oper} {rest : List Oper} {o : Oper} {a : Act} {Q : Exit → Act → World → Prop} (hgd : o.guard = none) (s x : Operand)
    (ho : o.op = .call { callee := .builtin .append, args := #[s, x], argTypes := #[103, 103] })
    (dn : Bool) (base : Nat) {v : Value} {l : List Chd} (hown : Vqc dn base w v l) (hs : a.eval s = v) (c : Chd)
    {B : Nat} (hx : a.eval x = .slice (some ⟨B, 0, none⟩) 1 1) (hB : w.heap.size = B) (hn : l.length ≤ 1000000) (hbase : base ≤ w.heap.size)
    (h : ∀ v' w', Vqc dn base w' v' (l ++ [c]) → Below base w w' → (∀ k, k < w.heap.size → some k ≠ v.ownBlock → w'.heap[k]? = w.heap[k]?) → (∀ k, k < w.heap.size → some k ≠ v.ownBlock → some k ≠ v'.ownBlock) → wpList Tryd.prog ops Q rest (a.put o.dst v') w') :
    wpList Tryd.prog ops Q (o :: rest) a (w.alloc (.cells #[.int .i64 c.1.1, .int .i64 c.1.2, .int .i64 (chN c), .bool dn] 106)) := by
  refine wpList_push w hgd s x _ ho base 106 _ 4 32 Tryd.underlying103 info_rchord rfl (by decide) hown hs (news := rvs dn c) hx hB rfl (by intro x hx; simp [rvs] at hx; rcases hx with rfl | rfl | rfl | rfl <;> rfl) (by decide) (by unfold maxLen; omega) (by omega) hbase ?_
  intro v' w' h2 h3 h4 h5 _ _
  refine h v' w' ?_ h3 h4 h5
  have e : l.flatMap (rvs dn) ++ rvs dn c = (l ++ [c]).flatMap (rvs dn) := by rw [List.flatMap_append]; simp
  have e2 : (l ++ [c]).length = l.length + 1 := by simp
  unfold Vqc
  rw [← e, e2]
  exact h2
set_option maxRecDepth 100000 in
set_option maxHeartbeats 4000000 in
/-- cross, at a flat chord and a steep one -/
theorem cross_any (a1 a2 a3 b1 b2 b4 : Int) (W : World) (ha1 : -1000 ≤ a1 ∧ a1 ≤ a3 ∧ a3 ≤ 1000) (hb : -1000 ≤ b2 ∧ b2 ≤ b4 ∧ b4 ≤ 1000) : Calls Tryd.prog 104 #[.agg #[.int .i64 a1, .int .i64 a2, .int .i64 (a3 - a1), .bool false], .agg #[.int .i64 b1, .int .i64 b2, .int .i64 (b4 - b2), .bool true]] W fun e w' => e = .returned (.bool (meetC ((a1, a2), (a3, a2)) ((b1, b2), (b1, b4)))) ∧ Below W.heap.size W w' := by
  have HM := Lib.hid (show meetC ((a1, a2), (a3, a2)) ((b1, b2), (b1, b4)) = decide (a1 ≤ b1 ∧ b1 ≤ a3 ∧ b2 ≤ a2 ∧ a2 ≤ b4) from rfl)
  obtain ⟨z, hz⟩ : ∃ z, z = meetC ((a1, a2), (a3, a2)) ((b1, b2), (b1, b4)) := ⟨_, rfl⟩
  rw [← hz] at HM ⊢
  clear hz
  obtain ⟨n, hn⟩ : ∃ n, n = a3 - a1 := ⟨_, rfl⟩
  obtain ⟨m, hm⟩ : ∃ m, m = b4 - b2 := ⟨_, rfl⟩
  rw [← hn, ← hm]
  have e1 : a1 + n = a3 := by omega
  have e2 : b2 + m = b4 := by omega
  have e3 : IntKind.i64.wrap a3 = a3 := IntWalk.i64_in _ ⟨by omega, by omega⟩
  have e4 : IntKind.i64.wrap b4 = b4 := IntWalk.i64_in _ ⟨by omega, by omega⟩
  clear hn hm ha1 hb
  have HA := Lib.hid ((Bk.new 106 W #[.int .i64 a1, .int .i64 a2, .int .i64 n, .bool false]).alloc (.cells #[.int .i64 b1, .int .i64 b2, .int .i64 m, .bool true] 106))
  have HB := Lib.hid (Bk.new 106 (W.alloc (.cells #[.int .i64 a1, .int .i64 a2, .int .i64 n, .bool false] 106)) #[.int .i64 b1, .int .i64 b2, .int .i64 m, .bool true])
  rw [World.size_alloc] at HB
  have HX := Lib.hid (ext_trans (ext_alloc W (.cells #[.int .i64 a1, .int .i64 a2, .int .i64 n, .bool false] 106)) (ext_alloc _ (.cells #[.int .i64 b1, .int .i64 b2, .int .i64 m, .bool true] 106)))
  go_enter Tryd.func104, Tryd.ntmps104
  go_upto_region 1 with (fail)
  obtain ⟨X, hX⟩ : ∃ X, X = (W.alloc (.cells #[.int .i64 a1, .int .i64 a2, .int .i64 n, .bool false] 106)).alloc (.cells #[.int .i64 b1, .int .i64 b2, .int .i64 m, .bool true] 106) := ⟨_, rfl⟩
  rw [← hX] at HA HB HX ⊢
  clear hX
  obtain ⟨f1, f2, f3⟩ := HA.out.facts
  obtain ⟨g1, g2, g3⟩ := HB.out.facts
  by_cases h1 : a1 ≤ b1
  · by_cases h2 : b1 ≤ a3
    · by_cases h3 : b2 ≤ a2
      · by_cases h4 : a2 ≤ b4
        · have HE := Lib.hid (show z = true from HM.out.trans (decide_eq_true ⟨h1, h2, h3, h4⟩))
          go_wp2
          go_ret
          exact ⟨by rw [HE.out]; rfl, HX.out⟩
        · have HE := Lib.hid (show z = false from HM.out.trans (decide_eq_false fun h => h4 h.2.2.2))
          go_wp2
          go_ret
          exact ⟨by rw [HE.out]; rfl, HX.out⟩
      · have HE := Lib.hid (show z = false from HM.out.trans (decide_eq_false fun h => h3 h.2.2.1))
        go_wp2
        go_ret
        exact ⟨by rw [HE.out]; rfl, HX.out⟩
    · have HE := Lib.hid (show z = false from HM.out.trans (decide_eq_false fun h => h2 h.2.1))
      go_wp2
      go_ret
      exact ⟨by rw [HE.out]; rfl, HX.out⟩
  · have HE := Lib.hid (show z = false from HM.out.trans (decide_eq_false fun h => h1 h.1))
    go_wp2
    go_ret
    exact ⟨by rw [HE.out]; rfl, HX.out⟩
set_option maxRecDepth 100000 in
set_option maxHeartbeats 4000000 in
/-- Before, where the corners are in order -/
theorem rbefore_any (x y a b x' y' a' b' : Int) (W : World) (h : y < y' ∨ (y = y' ∧ x < x')) : Calls Tryd.prog 72 #[.agg #[.int .i64 x, .int .i64 y, .int .i64 a, .int .i64 b], .agg #[.int .i64 x', .int .i64 y', .int .i64 a', .int .i64 b']] W fun e w' => e = .returned (.bool true) ∧ Below W.heap.size W w' := by
  have HA := Lib.hid ((Bk.new 31 W #[.int .i64 x, .int .i64 y, .int .i64 a, .int .i64 b]).alloc (.cells #[.int .i64 x', .int .i64 y', .int .i64 a', .int .i64 b'] 31))
  have HB := Lib.hid (Bk.new 31 (W.alloc (.cells #[.int .i64 x, .int .i64 y, .int .i64 a, .int .i64 b] 31)) #[.int .i64 x', .int .i64 y', .int .i64 a', .int .i64 b'])
  rw [World.size_alloc] at HB
  have HX := Lib.hid (ext_trans (ext_alloc W (.cells #[.int .i64 x, .int .i64 y, .int .i64 a, .int .i64 b] 31)) (ext_alloc _ (.cells #[.int .i64 x', .int .i64 y', .int .i64 a', .int .i64 b'] 31)))
  have HH := Lib.hid h
  clear h
  go_enter Tryd.func72, Tryd.ntmps72
  go_upto_region 1 with (fail)
  obtain ⟨X, hX⟩ : ∃ X, X = (W.alloc (.cells #[.int .i64 x, .int .i64 y, .int .i64 a, .int .i64 b] 31)).alloc (.cells #[.int .i64 x', .int .i64 y', .int .i64 a', .int .i64 b'] 31) := ⟨_, rfl⟩
  rw [← hX] at HA HB HX ⊢
  clear hX
  obtain ⟨f1, f2, f3⟩ := HA.out.facts
  obtain ⟨g1, g2, g3⟩ := HB.out.facts
  by_cases h1 : y < y'
  · have h2 : ¬ y = y' := by omega
    clear HH
    go_wp2
    go_ret
    exact ⟨rfl, HX.out⟩
  · have h2 : x < x' := by have := HH.out; omega
    obtain rfl : y = y' := by have := HH.out; omega
    have h3 : ¬ x = x' := by omega
    clear HH h1
    go_wp2
    go_ret
    exact ⟨rfl, HX.out⟩

/-- a slice of the reference's chords in a block below B -/
def QcSu (dn : Bool) (B : Nat) (w : World) (A : Option Addr) (l : List Chd) : Prop :=
  l = [] ∨ ∃ b off, A = some ⟨b, off, none⟩ ∧ b < B ∧ ∀ j (h : j < l.length), w.cell? ⟨b, off + j * 4, none⟩ = some (.int .i64 l[j].1.1) ∧ w.cell? ⟨b, off + j * 4 + 1, none⟩ = some (.int .i64 l[j].1.2) ∧ w.cell? ⟨b, off + j * 4 + 2, none⟩ = some (.int .i64 (chN l[j])) ∧ w.cell? ⟨b, off + j * 4 + 3, none⟩ = some (.bool dn)
theorem QcSu.cells {dn : Bool} {B : Nat} {w w' : World} {A : Option Addr} {l : List Chd} (h : QcSu dn B w A l) (hk : ∀ b i v, b < B → w.cell? ⟨b, i, none⟩ = some v → w'.cell? ⟨b, i, none⟩ = some v) : QcSu dn B w' A l := by
  rcases h with h | ⟨b, off, h1, h2, h3⟩
  · exact .inl h
  · exact .inr ⟨b, off, h1, h2, fun j hj => by
      obtain ⟨c1, c2, c3, c4⟩ := h3 j hj
      exact ⟨hk _ _ _ h2 c1, hk _ _ _ h2 c2, hk _ _ _ h2 c3, hk _ _ _ h2 c4⟩⟩
theorem QcSu.but {dn : Bool} {B g k : Nat} {w w' : World} {A : Option Addr} {l : List Chd} (h : QcSu dn B w A l) (hb : But2 g k w w') (h1 : B ≤ g) (h2 : B ≤ k) : QcSu dn B w' A l :=
  h.cells fun b i v hlt hc => hb.cell hc (by omega) (by omega)
theorem QcSl.qsu {dn : Bool} {base B : Nat} {w : World} {A : Option Addr} {l : List Chd} (h : QcSl dn base w A l) (hB : w.heap.size ≤ B) : QcSu dn B w A l := by
  rcases h with h | ⟨b, off, h1, _, h2, h3⟩
  · exact .inl h
  · exact .inr ⟨b, off, h1, by omega, h3⟩
/-- flat chords, within bounds -/
def FlOk (F : List Chd) : Prop := ∀ c ∈ F, c.1.2 = c.2.2 ∧ -1000 ≤ c.1.1 ∧ c.1.1 ≤ c.2.1 ∧ c.2.1 ≤ 1000
def StOk (S : List Chd) : Prop := ∀ c ∈ S, c.1.1 = c.2.1 ∧ -1000 ≤ c.1.2 ∧ c.1.2 ≤ c.2.2 ∧ c.2.2 ≤ 1000
/-- what augment leaves -/
def AuR (S : List Chd) (mb sb : Nat) (W : World) (r : Bool × KuS) (e : Ending) (w' : World) : Prop :=
  e = .returned (.bool r.1) ∧ Ow 3 mb S.length r.2.2 w' ∧ OwB sb S.length r.2.1 w' ∧ But2 mb sb W w'
set_option maxRecDepth 100000 in
set_option maxHeartbeats 8000000 in
theorem augment_any (F S : List Chd) (hFn : F.length ≤ 100000) (hSn : S.length ≤ 100000) (hFo : FlOk F) (hSo : StOk S) (AF AS : Option Addr) (cF cS B0 mb sb : Nat) (hm0 : B0 ≤ mb) (hs0 : B0 ≤ sb) (hmb : mb ≠ sb) (hcF : F.length ≤ cF) (hcS : S.length ≤ cS) : ∀ (f i : Nat) (st : KuS) (W : World), unm st.1 S.length < f → QcSu false B0 W AF F → QcSu true B0 W AS S → Ow 3 mb S.length st.2 W → OwB sb S.length st.1 W → i < F.length → (∀ j, st.2 j < (F.length : Int)) →
    Calls Tryd.prog 69 #[.slice AF F.length cF, .slice AS S.length cS, .int .i64 (i : Int), .slice (some ⟨sb, 0, none⟩) S.length S.length, .slice (some ⟨mb, 0, none⟩) S.length S.length] W (AuR S mb sb W (ku (adjC F S) S.length f i st))
  | 0, _, _, _, h, _, _, _, _, _, _ => by omega
  | f + 1, i, st, W, hf, hqf, hqs, hm, hs, hi, hrg => by
    have HIH := Lib.hid (fun v s V h1 h2 h3 h4 h5 h6 h7 => augment_any F S hFn hSn hFo hSo AF AS cF cS B0 mb sb hm0 hs0 hmb hcF hcS f v s V h1 h2 h3 h4 h5 h6 h7)
    obtain ⟨r, hr⟩ : ∃ r, r = ku (adjC F S) S.length (f + 1) i st := ⟨_, rfl⟩
    have HR := Lib.hid (show r = kuGo (adjC F S) (ku (adjC F S) S.length f) i ((List.range S.length).drop 0) st from hr)
    rw [← hr]
    have HQF0 := Lib.hid hqf
    have HQS0 := Lib.hid hqs
    have HM0 := Lib.hid hm
    have HS0 := Lib.hid hs
    have HF0 := Lib.hid (show unm st.1 S.length ≤ f from by omega)
    have HRG0 := Lib.hid hrg
    have HFO := Lib.hid hFo
    have HSO := Lib.hid hSo
    clear hr hf hm hs hrg hqf hqs hFo hSo
    go_enter Tryd.func69, Tryd.ntmps69
    go_wp2_with (fail)
    go_loopg [15] S.length (fun gg z wr => ∃ (j : Nat) (s : KuS), z = .int .i64 j ∧ j ≤ S.length ∧ gg = S.length - j ∧ QcSu false B0 wr AF F ∧ QcSu true B0 wr AS S ∧ Ow 3 mb S.length s.2 wr ∧ OwB sb S.length s.1 wr ∧ But2 mb sb W wr ∧ r = kuGo (adjC F S) (ku (adjC F S) S.length f) i ((List.range S.length).drop j) s ∧ unm s.1 S.length ≤ f ∧ (∀ j, s.2 j < (F.length : Int)))
    case atStart => exact ⟨0, st, rfl, by omega, by omega, HQF0.out, HQS0.out, HM0.out, HS0.out, But2.refl _ _ _, HR.out, HF0.out, HRG0.out⟩
    case round =>
      obtain ⟨j, s, rfl, hj, hgg, hqf, hqs, hm, hs, hb, hr, hu, hrg⟩ := hrel
      have HG := Lib.hid hgg
      have HR1 := Lib.hid hr
      have HU := Lib.hid hu
      have HRG := Lib.hid hrg
      have HQF := Lib.hid hqf
      by_cases hjl : j < S.length
      · have HQS := Lib.hid hqs
        rcases hqs with h0 | ⟨bS, offS, rfl, hbS, hcl⟩
        · rw [h0] at hjl; simp at hjl
        · obtain ⟨c1, c2, c3, c4⟩ := hcl j hjl
          have HAD := Lib.hid (adjC_at (F := F) hi hjl)
          have hso := HSO.out _ (List.getElem_mem hjl)
          obtain ⟨cc, hcc⟩ : ∃ cc, cc = S[j] := ⟨_, rfl⟩
          rw [← hcc] at c1 c2 c3 HAD hso
          obtain ⟨⟨d1, d2⟩, d3, d4⟩ := cc
          dsimp only at c1 c2 c3 hso
          obtain ⟨rfl, hs1, hs2, hs3⟩ := hso
          obtain ⟨m, hm4⟩ : ∃ m, m = chN ((d1, d2), (d1, d4)) := ⟨_, rfl⟩
          rw [← hm4] at c3
          have HMN := Lib.hid (show m = d4 - d2 from by rw [hm4]; unfold chN; dsimp only; omega)
          have HSB := Lib.hid (And.intro hs1 (And.intro hs2 hs3))
          have HX := Lib.hid (ext_alloc wr (.cells #[.int .i64 d1, .int .i64 d2, .int .i64 m, .bool true] 106))
          have HB := Lib.hid (Bk.new 106 wr #[.int .i64 d1, .int .i64 d2, .int .i64 m, .bool true])
          have HBX := Lib.hid (hb.trans (But2.of HX.out))
          have HQFX := Lib.hid (hqf.but (But2.of (g := mb) (h := sb) HX.out) hm0 hs0)
          have HQSX := Lib.hid (HQS.out.but (But2.of (g := mb) (h := sb) HX.out) hm0 hs0)
          have HMX := Lib.hid (hm.ext HX.out)
          have HSX := Lib.hid (hs.ext HX.out)
          have hpn : sb < wr.heap.size := hs.lt
          clear hcl hcc hgg hqf hm hs hb hr hu hrg HQF HQS hm4 hs1 hs2 hs3
          go_upto_region 4 with (fail)
          obtain ⟨X, hX⟩ : ∃ X, X = wr.alloc (.cells #[.int .i64 d1, .int .i64 d2, .int .i64 m, .bool true] 106) := ⟨_, rfl⟩
          obtain ⟨p10, hp10⟩ : ∃ p10, p10 = wr.heap.size := ⟨_, rfl⟩
          have hpb : sb < p10 := by omega
          rw [← hX] at HB HX HQFX HQSX HMX HSX HBX ⊢
          rw [← hp10] at HB ⊢
          clear hX hp10 c1 c2 c3 c4 HX hpn
          obtain ⟨q1, q2, q3⟩ := HB.out.facts
          have hsc := HSX.out.cell hjl
          rcases HQFX.out with h0 | ⟨bF, offF, rfl, hbF, hclF⟩
          · rw [h0] at hi; simp at hi
          · obtain ⟨e1, e2, e3, e4⟩ := hclF i hi
            have hfo := HFO.out _ (List.getElem_mem hi)
            obtain ⟨ca, hca⟩ : ∃ ca, ca = F[i] := ⟨_, rfl⟩
            rw [← hca] at e1 e2 e3 HAD hfo
            obtain ⟨⟨a1, a2⟩, a3, a4⟩ := ca
            dsimp only at e1 e2 e3 hfo
            obtain ⟨rfl, ho1, ho2, ho3⟩ := hfo
            obtain ⟨n, hn4⟩ : ∃ n, n = chN ((a1, a2), (a3, a2)) := ⟨_, rfl⟩
            rw [← hn4] at e3
            have HNN := Lib.hid (show n = a3 - a1 from by rw [hn4]; unfold chN; dsimp only; omega)
            have HFB := Lib.hid (And.intro ho1 (And.intro ho2 ho3))
            clear hclF hca hn4 ho1 ho2 ho3
            cases hsj : s.1 j with
            | true =>
              rw [hsj] at hsc
              have HR2 := Lib.hid (HR1.out.trans (kuD_skip hjl (.inl hsj)))
              clear hsj
              go_quiet (fail)
              go_wp2
              go_roundg (S.length - (j + 1))
              case measure => have := HG.out; omega
              case rel => exact ⟨j + 1, s, by go_num, by omega, rfl, HQFX.out.but (But2.of (g := mb) (h := sb) (ext_drewN _ _)) hm0 hs0, HQSX.out.but (But2.of (g := mb) (h := sb) (ext_drewN _ _)) hm0 hs0, HMX.out.ext (ext_drewN _ _), HSX.out.ext (ext_drewN _ _), HBX.out.trans (But2.of (ext_drewN _ _)), HR2.out, HU.out, HRG.out⟩
            | false =>
              rw [hsj] at hsc
              have HSJ := Lib.hid hsj
              clear hsj
              obtain ⟨z, hz⟩ : ∃ z, z = adjC (F := F) (S := S) i j := ⟨_, rfl⟩
              have HME := Lib.hid (fun V => (show Calls Tryd.prog 104 #[.agg #[.int .i64 a1, .int .i64 a2, .int .i64 n, .bool false], .agg #[.int .i64 d1, .int .i64 d2, .int .i64 m, .bool true]] V fun e w' => e = .returned (.bool z) ∧ Below V.heap.size V w' from by rw [hz, HAD.out, HNN.out, HMN.out]; exact cross_any a1 a2 a3 d1 d2 d4 V HFB.out HSB.out))
              have HZ := Lib.hid hz.symm
              clear hz
              go_still_tail 10, (by kernel_rfl)
              have HQFY := Lib.hid (HQFX.out.but (But2.of (g := mb) (h := sb) (ext_drew X)) hm0 hs0)
              have HQSY := Lib.hid (HQSX.out.but (But2.of (g := mb) (h := sb) (ext_drew X)) hm0 hs0)
              have HMY := Lib.hid (HMX.out.ext (ext_drew X))
              have HSY := Lib.hid (HSX.out.ext (ext_drew X))
              have HBY := Lib.hid (HBX.out.trans (But2.of (ext_drew X)))
              change wpList _ _ _ _ _ X.drew
              obtain ⟨Y, hY⟩ : ∃ Y, Y = X.drew := ⟨_, rfl⟩
              rw [← hY] at HQFY HQSY HMY HSY HBY ⊢
              clear hY q1 q2 q3 hsc e1 e2 e3 e4 HQFX HQSX HMX HSX HBX HB
              cases z with
              | false =>
                have HR2 := Lib.hid (HR1.out.trans (kuD_skip hjl (.inr HZ.out)))
                go_wp2_with (go_at_call 104; refine (HME.out _).mono ?_; rintro e w5 ⟨rfl, hx5⟩; have HX5 := Lib.hid hx5; clear hx5)
                go_roundg (S.length - (j + 1))
                case measure => have := HG.out; omega
                case rel => exact ⟨j + 1, s, by go_num, by omega, rfl, HQFY.out.but (But2.of (g := mb) (h := sb) HX5.out) hm0 hs0, HQSY.out.but (But2.of (g := mb) (h := sb) HX5.out) hm0 hs0, HMY.out.ext HX5.out, HSY.out.ext HX5.out, HBY.out.trans (But2.of HX5.out), HR2.out, HU.out, HRG.out⟩
              | true =>
                go_upto_region 5 with (go_at_call 104; refine (HME.out _).mono ?_; rintro e w5 ⟨rfl, hx5⟩)
                have HQF5 := Lib.hid (HQFY.out.but (But2.of (g := mb) (h := sb) hx5) hm0 hs0)
                have HQS5 := Lib.hid (HQSY.out.but (But2.of (g := mb) (h := sb) hx5) hm0 hs0)
                have HM5 := Lib.hid (HMY.out.ext hx5)
                have HS5 := Lib.hid (HSY.out.ext hx5)
                have HB5 := Lib.hid (HBY.out.trans (But2.of hx5))
                have hf5 := HS5.out.frozen j
                have hc5 := HS5.out.cell hjl
                have hS6 := HS5.out.set j true
                have HS6 := Lib.hid (show OwB sb S.length (upB s.1 j) (w5.setCell ⟨sb, j, none⟩ (.bool true)) from hS6)
                have HB6 := Lib.hid (But2.set2 w5 mb sb j (.bool true))
                have HQF6 := Lib.hid (HQF5.out.but HB6.out hm0 hs0)
                have HQS6 := Lib.hid (HQS5.out.but HB6.out hm0 hs0)
                have HM6 := Lib.hid (HM5.out.set_ne (k := sb) (j := j) hmb (.bool true))
                clear hx5 hS6 HQFY HQSY HMY HSY HBY HME
                have HBZ := Lib.hid (HB5.out.trans HB6.out)
                go_upto_region 6 with (fail)
                obtain ⟨Z, hZ⟩ : ∃ Z, Z = w5.setCell ⟨sb, j, none⟩ (.bool true) := ⟨_, rfl⟩
                rw [← hZ] at HS6 HQF6 HQS6 HM6 HBZ ⊢
                clear hZ hf5 hc5 HB6 HQF5 HQS5 HM5 HS5 HB5
                have hmc := HM6.out.cell hjl
                have hmf := HM6.out.frozen j
                obtain ⟨mj, hmj⟩ : ∃ mj, mj = s.2 j := ⟨_, rfl⟩
                rw [← hmj] at hmc
                have HMJ := Lib.hid hmj
                have hmr : mj < (F.length : Int) := by rw [hmj]; exact HRG.out j
                clear hmj
                have HUU := Lib.hid (show unm (upB s.1 j) S.length < f from by have := unm_up HSJ.out S.length hjl; have := HU.out; omega)
                by_cases h0 : mj < 0
                · have HR2 := Lib.hid (HR1.out.trans (kuD_free hjl HSJ.out HZ.out (by rw [← HMJ.out]; exact h0)))
                  have hM8 := HM6.out.set j (i : Int)
                  have HM8 := Lib.hid (show Ow 3 mb S.length (upI s.2 j i) (Z.setCell ⟨mb, j, none⟩ (.int .i64 (i : Int))) from hM8)
                  have HB8 := Lib.hid (But2.set1 Z mb sb j (.int .i64 (i : Int)))
                  have HS8 := Lib.hid (HS6.out.set_ne (k := mb) (j := j) (Ne.symm hmb) (.int .i64 (i : Int)))
                  clear hM8
                  go_wp2
                  go_ret
                  rw [HR2.out]
                  exact ⟨rfl, HM8.out, HS8.out, HBZ.out.trans HB8.out⟩
                · have h0' : 0 ≤ mj := by omega
                  obtain ⟨v, rfl⟩ : ∃ v : Nat, mj = (v : Int) := ⟨mj.toNat, by omega⟩
                  have HI := Lib.hid (HIH.out v (upB s.1 j, s.2) Z HUU.out HQF6.out HQS6.out HM6.out HS6.out (by omega) HRG.out)
                  have HRG2 := Lib.hid (ku_rg (adj := adjC F S) (n := S.length) f v (upB s.1 j, s.2) (by omega) HRG.out)
                  have HMO := Lib.hid (ku_mono (adj := adjC F S) (n := S.length) (f := f) (i := v) (st := (upB s.1 j, s.2)) HUU.out)
                  have hmn : ¬ s.2 j < 0 := by rw [← HMJ.out]; exact h0
                  have hvt : (s.2 j).toNat = v := by rw [← HMJ.out]; rfl
                  have HYES := Lib.hid (fun (s2 : KuS) (hh : ku (adjC F S) S.length f v (upB s.1 j, s.2) = (true, s2)) => HR1.out.trans (kuD_yes hjl HSJ.out HZ.out hmn (by rw [hvt]; exact hh)))
                  have HNO := Lib.hid (fun (s2 : KuS) (hh : ku (adjC F S) S.length f v (upB s.1 j, s.2) = (false, s2)) => HR1.out.trans (kuD_no hjl HSJ.out HZ.out hmn (by rw [hvt]; exact hh)))
                  obtain ⟨r2, hr2⟩ : ∃ r2, r2 = ku (adjC F S) S.length f v (upB s.1 j, s.2) := ⟨_, rfl⟩
                  rw [← hr2] at HI HRG2 HMO HYES HNO
                  have HU2 := Lib.hid (show unm r2.2.1 S.length ≤ f from by have h1 := unm_le HMO.out S.length; have h2 := HUU.out; dsimp only at h1; omega)
                  obtain ⟨ok, s2⟩ := r2
                  dsimp only at HRG2 HU2
                  clear hr2 hmn hvt HM6 HS6 HMO
                  cases ok with
                  | true =>
                    have HR2 := Lib.hid (HYES.out s2 rfl)
                    clear HYES HNO
                    go_upto_region 7 with (go_at_call 69; refine (HI.out).mono ?_; rintro e w8 ⟨rfl, hm8, hs8, hb8⟩)
                    have HM8 := Lib.hid hm8
                    have HS8 := Lib.hid hs8
                    have HB8 := Lib.hid (HBZ.out.trans hb8)
                    clear hm8 hs8 hb8 hmc hmf
                    have hmc := HM8.out.cell hjl
                    have hmf := HM8.out.frozen j
                    have hM9 := HM8.out.set j (i : Int)
                    have HM9 := Lib.hid (show Ow 3 mb S.length (upI s2.2 j i) (w8.setCell ⟨mb, j, none⟩ (.int .i64 (i : Int))) from hM9)
                    have HB9 := Lib.hid (But2.set1 w8 mb sb j (.int .i64 (i : Int)))
                    have HS9 := Lib.hid (HS8.out.set_ne (k := mb) (j := j) (Ne.symm hmb) (.int .i64 (i : Int)))
                    clear hM9
                    go_wp2
                    go_ret
                    rw [HR2.out]
                    exact ⟨rfl, HM9.out, HS9.out, HB8.out.trans HB9.out⟩
                  | false =>
                    have HR2 := Lib.hid (HNO.out s2 rfl)
                    clear HYES HNO
                    go_wp2_with (go_at_call 69; refine (HI.out).mono ?_; rintro e w8 ⟨rfl, hm8, hs8, hb8⟩; have HM8 := Lib.hid hm8; have HS8 := Lib.hid hs8; have HQF8 := Lib.hid (HQF6.out.but hb8 hm0 hs0); have HQS8 := Lib.hid (HQS6.out.but hb8 hm0 hs0); have HB8 := Lib.hid (HBZ.out.trans hb8); clear hm8 hs8 hb8)
                    go_roundg (S.length - (j + 1))
                    case measure => have := HG.out; omega
                    case rel => exact ⟨j + 1, s2, by go_num, by omega, rfl, HQF8.out, HQS8.out, HM8.out, HS8.out, HB8.out, HR2.out, HU2.out, HRG2.out⟩
      · obtain rfl : j = S.length := by omega
        have HR2 := Lib.hid (HR1.out.trans kuD_end)
        have HM := Lib.hid hm
        have HS := Lib.hid hs
        have HBB := Lib.hid hb
        clear hgg hqf hqs hm hs hb hr hu hrg
        go_wp2
        go_ret
        rw [HR2.out]
        exact ⟨rfl, HM.out, HS.out, HBB.out⟩
end Go.Proofs.YtmgofdgbenfjmaaDoor
