/- round walked where no joint is odd and all seams are in the class of the first joint. Conditions: a valid graph. -/
import Derived.Test.YtfadkokdoehjnaaDoorCl
import Derived.Test.YtfadkokdoehjnaaDoorSh
import Derived.Test.YtfadkokdoehjnaaDoorDb
namespace Go.Proofs.YtfadkokdoehjnaaDoor
open Go.RowKit

/-- a line: its seam, its joints -/
structure Ln where
  k : Int
  a : Int
  b : Int
def Ln.cells (s : Ln) : List Value := [.int .i64 s.k, .int .i64 s.a, .int .i64 s.b]
/-- a slice of lines -/
def LSl (w : World) (A : Option Addr) (l : List Ln) : Prop :=
  l = [] ∨ ∃ b off, A = some ⟨b, off, none⟩ ∧ b < w.heap.size ∧ ∀ j (h : j < l.length), w.cell? ⟨b, off + j * 3, none⟩ = some (.int .i64 l[j].k) ∧ w.cell? ⟨b, off + j * 3 + 1, none⟩ = some (.int .i64 l[j].a) ∧ w.cell? ⟨b, off + j * 3 + 2, none⟩ = some (.int .i64 l[j].b)
theorem LSl.ext {w w' : World} {A : Option Addr} {l : List Ln} (h : LSl w A l) (hb : Below w.heap.size w w') : LSl w' A l := by
  rcases h with h | ⟨b, off, hA, hlt, hc⟩
  · exact .inl h
  · refine .inr ⟨b, off, hA, Nat.lt_of_lt_of_le hlt hb.size, fun j hj => ?_⟩
    obtain ⟨c1, c2, c3⟩ := hc j hj
    exact ⟨(hb.cell (p := ⟨b, _, none⟩) hlt).trans c1, (hb.cell (p := ⟨b, _, none⟩) hlt).trans c2, (hb.cell (p := ⟨b, _, none⟩) hlt).trans c3⟩
/-- a row of lines of the call's own that grows -/
def Vl (base : Nat) (w : World) (v : Value) (l : List Ln) : Prop := w.ownsRow base 68 3 v l.length (l.flatMap Ln.cells)
theorem Vl.lsl {base : Nat} {w : World} {v : Value} {l : List Ln} (h : Vl base w v l) : ∃ A cap, v = .slice A l.length cap ∧ l.length ≤ cap ∧ cap ≤ maxLen ∧ LSl w A l := by
  obtain ⟨A, cap, hv, h1, h2, h3⟩ := own_cells h
  refine ⟨A, cap, hv, h1, h2, ?_⟩
  rcases h3 with h3 | ⟨g, rfl, _, hg, hc⟩
  · exact .inl (List.eq_nil_of_length_eq_zero h3)
  · refine .inr ⟨g, 0, rfl, hg, fun j hj => ?_⟩
    have hf : ∀ a : Ln, (Ln.cells a).length = 3 := fun _ => rfl
    refine ⟨?_, ?_, ?_⟩
    · rw [Nat.zero_add]
      exact hc (j * 3) _ (by rw [show j * 3 = j * 3 + 0 from rfl, flat_get hf l j 0 hj (by omega)]; rfl)
    · rw [Nat.zero_add]
      exact hc (j * 3 + 1) _ (by rw [flat_get hf l j 1 hj (by omega)]; rfl)
    · rw [Nat.zero_add]
      exact hc (j * 3 + 2) _ (by rw [flat_get hf l j 2 hj (by omega)]; rfl)
theorem info_line : (Tryd.prog.info? 68).map (fun i => (i.zero, i.size, i.bytes)) = some (some (.agg #[.int .i64 0, .int .i64 0, .int .i64 0]), 3, 24) := by kernel_rfl
/-- 'append(lines, line{..})' -/
theorem wpList_pushL (w : World) {ops : Array Oper} {rest : List Oper} {o : Oper} {a : Act} {Q : Exit → Act → World → Prop} (hgd : o.guard = none) (s x : Operand)
    (ho : o.op = .call { callee := .builtin .append, args := #[s, x], argTypes := #[64, 64] })
    (base : Nat) {v : Value} {l : List Ln} (hown : Vl base w v l) (hs : a.eval s = v)
    {p q r : Int} {B : Nat} (hx : a.eval x = .slice (some ⟨B, 0, none⟩) 1 1) (hB : w.heap.size = B) (hn : l.length ≤ 1000000) (hbase : base ≤ w.heap.size)
    (h : ∀ v' w', Vl base w' v' (l ++ [⟨p, q, r⟩]) → Below base w w' → (∀ k, k < w.heap.size → some k ≠ v.ownBlock → w'.heap[k]? = w.heap[k]?) → wpList Tryd.prog ops Q rest (a.put o.dst v') w') :
    wpList Tryd.prog ops Q (o :: rest) a (w.alloc (.cells #[.int .i64 p, .int .i64 q, .int .i64 r] 68)) := by
  refine wpList_push w hgd s x _ ho base 68 _ 3 24 Tryd.underlying64 info_line rfl (by decide) hown hs (news := [.int .i64 p, .int .i64 q, .int .i64 r]) hx hB rfl (by intro x hx; simp at hx; rcases hx with rfl | rfl | rfl <;> rfl) (by decide) (by unfold maxLen; omega) (by omega) hbase ?_
  intro v' w' h2 h3 h4 _
  refine h v' w' ?_ h3 h4
  have e : l.flatMap Ln.cells ++ [Value.int .i64 p, .int .i64 q, .int .i64 r] = (l ++ [(⟨p, q, r⟩ : Ln)]).flatMap Ln.cells := by rw [List.flatMap_append]; rfl
  have e2 : (l ++ [(⟨p, q, r⟩ : Ln)]).length = l.length + 1 := by simp
  unfold Vl
  rw [← e, e2]
  exact h2

/-- the lines of the first k seams -/
def lnsN (l : List Sm) : Nat → List Ln
  | 0 => []
  | k + 1 => match l[k]? with
    | none => lnsN l k
    | some s => lnsN l k ++ [⟨k, s.a, s.b⟩]
theorem lnsN_succ {l : List Sm} {k : Nat} (h : k < l.length) {s : Sm} (hs : s = l[k]) : lnsN l (k + 1) = lnsN l k ++ [⟨k, s.a, s.b⟩] := by
  show (match l[k]? with | none => _ | some s => _) = _
  rw [List.getElem?_eq_getElem h, hs]
theorem lnsN_len (l : List Sm) : ∀ k, (lnsN l k).length ≤ k
  | 0 => by simp [lnsN]
  | k + 1 => by
    have := lnsN_len l k
    unfold lnsN
    split
    · omega
    · simp; omega
theorem lnsN_len' (l : List Sm) : ∀ k, k ≤ l.length → (lnsN l k).length = k
  | 0, _ => rfl
  | k + 1, h => by
    rw [lnsN_succ (show k < l.length by omega) rfl, List.length_append, lnsN_len' l k (by omega)]; rfl
theorem lnsN_get (l : List Sm) : ∀ k, k ≤ l.length → ∀ j (hj : j < (lnsN l k).length), ∃ hl : j < l.length, (lnsN l k)[j] = ⟨j, l[j].a, l[j].b⟩
  | 0, _, j, hj => absurd hj (by simp [lnsN])
  | k + 1, h, j, hj => by
    have e := lnsN_succ (show k < l.length by omega) rfl
    have hlen := lnsN_len' l k (by omega)
    have hj2 : j < k + 1 := by rw [lnsN_len' l (k + 1) h] at hj; exact hj
    refine ⟨by omega, ?_⟩
    have e2 : (lnsN l (k + 1))[j]? = some ⟨j, l[j].a, l[j].b⟩ := by
      rw [e]
      by_cases hjk : j < k
      · rw [List.getElem?_append_left (by omega)]
        obtain ⟨_, h3⟩ := lnsN_get l k (by omega) j (by omega)
        rw [List.getElem?_eq_getElem (by omega), h3]
      · obtain rfl : j = k := by omega
        rw [List.getElem?_append_right (by omega), hlen]
        simp
    rw [List.getElem?_eq_getElem hj] at e2
    injection e2

def allK (_ : Nat) : Bool := true
def allS (_ : Sm) : Bool := true
theorem enters90 : Enters 57 := fun _ _ => by kernel_rfl
theorem enters92 : Enters 61 := fun _ _ => by kernel_rfl
set_option maxHeartbeats 1000000 in
theorem round1_any (k : Int) (s : Sm) (W : World) : Calls Tryd.prog 57 #[.int .i64 k, s.val] W fun e w' => e = .returned (.bool true) ∧ Below W.heap.size W w' := by
  obtain ⟨a, b, n, t⟩ := s
  show Calls Tryd.prog 57 #[.int .i64 k, .agg #[.int .i64 a, .int .i64 b, .int .i64 n, .int .i64 t]] W _
  go_enter Tryd.func57, Tryd.ntmps57
  go_wp2
  go_ret
  exact ⟨rfl, ext_alloc _ _⟩
set_option maxHeartbeats 1000000 in
theorem round2_any (s : Sm) (W : World) : Calls Tryd.prog 61 #[s.val] W fun e w' => e = .returned (.bool true) ∧ Below W.heap.size W w' := by
  obtain ⟨a, b, n, t⟩ := s
  show Calls Tryd.prog 61 #[.agg #[.int .i64 a, .int .i64 b, .int .i64 n, .int .i64 t]] W _
  go_enter Tryd.func61, Tryd.ntmps61
  go_wp2
  go_ret
  exact ⟨rfl, ext_alloc _ _⟩
theorem chk_round (w : World) (l : List Sm) : ChK w 57 #[] l allK := ⟨enters90, fun W _ k hk => round1_any k l[k] W⟩
theorem chs_round (w : World) (l : List Sm) : ChS w 61 #[] l allS := ⟨enters92, fun W _ s _ => round2_any s W⟩

/-- round's own memory in its first loop -/
def RdS (w : World) (N : Int) (A : Option Addr) (m cap n bc : Nat) (d : Nat → Int) (v : Value) (L : List Ln) (wr : World) : Prop :=
  Below w.heap.size w wr ∧ Bk 46 wr w.heap.size #[.int .i64 N, .slice A m cap] ∧ w.heap.size + 1 ≤ bc ∧ Ow 3 bc n d wr ∧ Vl (w.heap.size + 1) wr v L
section
variable {w : World} {N : Int} {A : Option Addr} {m cap n bc : Nat} {d : Nat → Int} {v v' : Value} {L L' : List Ln} {wr w' : World}
theorem RdS.ext (h : RdS w N A m cap n bc d v L wr) (hb : Below wr.heap.size wr w') : RdS w N A m cap n bc d v L w' := ⟨bext h.1 hb h.1.size, h.2.1.ext hb, h.2.2.1, h.2.2.2.1.ext hb, own_ext h.2.2.2.2 hb⟩
theorem RdS.push (h : RdS w N A m cap n bc d v L wr) (hv : Vl (w.heap.size + 1) w' v' L') (hb : Below (w.heap.size + 1) wr w') (hk : ∀ k, k < wr.heap.size → some k ≠ v.ownBlock → w'.heap[k]? = wr.heap[k]?) : RdS w N A m cap n bc d v' L' w' :=
  ⟨h.1.trans (hb.mono (by omega)), h.2.1.below hb (by omega), h.2.2.1, (hk bc h.2.2.2.1.lt (own_ne h.2.2.2.2 h.2.2.2.1 (by decide))).trans h.2.2.2.1, hv⟩
end

set_option maxRecDepth 100000 in
set_option maxHeartbeats 4000000 in
theorem round_even (n f : Nat) (A : Option Addr) (cap : Nat) (l : List Sm) (w : World) (hok : GOk n l) (hf : f < n) (hall : ∀ s ∈ l, cls allK l l.length s.a.toNat = cls allK l l.length f) (hodd : oddN allS l 16 = []) (hc : l.length ≤ cap) (hcm : cap ≤ 9223372036854775807) (h : SSl w A l) :
    Calls Tryd.prog 38 #[.agg #[.int .i64 (n : Int), .slice A l.length cap], .int .i64 (f : Int)] w fun e w' => ∃ A' cap', e = .returned (.tuple #[.slice A' l.length cap', .int .i64 0]) ∧ LSl w' A' (lnsN l l.length) ∧ Below w.heap.size w w' := by
  have H := Lib.hid h
  have HOK := Lib.hid hok
  have HALL := Lib.hid hall
  have HCL := Lib.hid (fun W (h : SSl W A l) => classes_any n A cap l _ _ allK W hok hc hcm h (chk_round W l))
  have HSH := Lib.hid (fun W (h : SSl W A l) => shortest_any n A cap l W hok hc hcm h)
  have hod := fun W (h : SSl W A l) => odd_any n A cap l _ _ allS W hok hc hcm h (chs_round W l)
  rw [hodd] at hod
  have HOD := Lib.hid hod
  have HDB := Lib.hid (fun p A cap W => doubled_nil p A cap W)
  have HB0 := Lib.hid (Bk.new 46 w #[.int .i64 (n : Int), .slice A l.length cap])
  have HE0 := Lib.hid (ext_alloc w (.cells #[.int .i64 (n : Int), .slice A l.length cap] 46))
  have l64 := hok.2.2.1
  have n2 : n ≤ 16 := by have := hok.2.1; omega
  clear h hok hall hod hodd
  go_enter Tryd.func38, Tryd.ntmps38
  go_wp2_with (go_at_call 56; refine (HCL.out _ (H.out.ext HE0.out)).mono ?_; rintro e w1 ⟨bc, rfl, hoc, hbc, hx1⟩; have S1 : RdS w n A l.length cap n bc (cls allK l l.length) (.slice none 0 0) [] w1 := ⟨ext_trans HE0.out hx1, HB0.out.ext hx1, by simpa using hbc, hoc, own_nil _ _ _ _⟩; have HS0 := Lib.hid S1; obtain ⟨f1, f2, f3⟩ := S1.2.1.facts; clear S1 hoc hbc hx1)
  go_loopg [22, 7] l.length (fun g i v wr => ∃ k : Nat, i = .int .i64 k ∧ k ≤ l.length ∧ g = l.length - k ∧ RdS w n A l.length cap n bc (cls allK l l.length) v (lnsN l k) wr)
  case atStart => exact ⟨0, rfl, by omega, by omega, HS0.out⟩
  case round =>
    obtain ⟨k, rfl, hk, hg, hs⟩ := hrel
    have HG := Lib.hid hg
    have HS := Lib.hid hs
    obtain ⟨f1, f2, f3⟩ := hs.2.1.facts
    have hb := hs.1
    clear hg hs HS0
    by_cases hlt : k < l.length
    · have hf' := H.out.ext hb
      rcases hf' with hf' | ⟨b, off, rfl, hblt, hcl⟩
      · rw [hf'] at hlt; simp at hlt
      · obtain ⟨c1, c2, c3, c4⟩ := hcl k hlt
        have hmem := List.getElem_mem hlt
        have hso := HOK.out.2.2.2 _ hmem
        have hal := HALL.out _ hmem
        obtain ⟨s, hs⟩ : ∃ s, s = l[k] := ⟨_, rfl⟩
        have hln := lnsN_succ hlt hs
        rw [← hs] at c1 c2 c3 c4 hso hal
        obtain ⟨a, b', m, t⟩ := s
        dsimp only at c1 c2 c3 c4 hal hln
        obtain ⟨o1, o2, o3, o4, -, -, -, -⟩ := hso
        dsimp only at o1 o2 o3 o4
        obtain ⟨ja, rfl⟩ := Int.eq_ofNat_of_zero_le o1
        rw [Int.toNat_natCast] at hal
        have HLN := Lib.hid hln
        have q1 := HS.out.2.2.2.1.cell (i := ja) (by omega)
        have q2 := HS.out.2.2.2.1.cell (i := f) hf
        rw [hal] at q1
        have q3 := HS.out.2.2.2.1.lt
        have HS2 := Lib.hid (HS.out.ext (ext_alloc wr (.cells #[.int .i64 (ja : Int), .int .i64 b', .int .i64 m, .int .i64 t] 43)))
        have hlen := lnsN_len l k
        clear hs hcl hmem hal hln
        generalize cls allK l l.length f = x at *
        have hxx : (x != x) = false := by simp
        go_wp2
        go_quiet (fail)
        rename_i nq
        have HS3 := Lib.hid (HS2.out.ext (ext_drewN _ nq))
        obtain ⟨e1, e2, e3⟩ := ((Bk.new 43 wr #[.int .i64 (ja : Int), .int .i64 b', .int .i64 m, .int .i64 t]).ext (ext_drewN _ nq)).facts
        go_wp2_with (at_builtin; refine wpList_pushL _ rfl _ _ rfl (w.heap.size + 1) HS3.out.2.2.2.2 (by rfl) (by rfl) (by simp) ?hn5 ?hb5 ?_; (case hn5 => omega); (case hb5 => have := HS3.out.2.1.lt; omega); intro v5 w5 hv5 hb5 hk5; have S5 := HS3.out.push hv5 hb5 hk5; obtain ⟨A5, c5, rfl, -, -, -⟩ := hv5.lsl)
        go_roundg (l.length - (k + 1))
        case measure => have := HG.out; omega
        case rel => exact ⟨k + 1, by go_num, by omega, rfl, by rw [HLN.out]; have h := S5; simp only [List.length_append, List.length_cons, List.length_nil, Nat.zero_add] at h; exact h⟩
    · obtain rfl : k = l.length := by omega
      obtain ⟨A5, c5, rfl, -, -, hls⟩ := HS.out.2.2.2.2.lsl
      rw [lnsN_len' l l.length (Nat.le_refl _)]
      have HLS := Lib.hid hls
      have HB1 := Lib.hid hb
      have HG1 := Lib.hid HS.out.2.1
      clear HS HG hls
      go_wp2_with (first
        | (go_at_call 58; refine (HSH.out _ (H.out.ext HB1.out)).mono ?_; rintro e w2 ⟨rfl, hs2⟩; have B2 := bext HB1.out hs2.1 HB1.out.size; have LS2 := HLS.out.ext hs2.1; have G2 := HG1.out.ext hs2.1; obtain ⟨f1, f2, f3⟩ := G2.facts)
        | (go_at_call 60; refine (HOD.out _ (H.out.ext B2)).mono ?_; rintro e w3 ⟨v3, rfl, hv3, hx3⟩; have B3 := bext B2 hx3 B2.size; have LS3 := LS2.ext hx3; obtain ⟨A3, c3, rfl, -, -, -⟩ := hv3.isl)
        | (go_at_call 59; refine (HDB.out _ _ _ _).mono ?_; rintro e w4 ⟨rfl, hx4⟩; have B4 := Lib.hid (bext B3 hx4 B3.size); have LS4 := Lib.hid (LS3.ext hx4)))
      go_loopg [54, 7] 0 (fun g i z wr => i = .int .i64 0 ∧ z = .slice A5 l.length c5 ∧ wr = w4)
      case atStart => exact ⟨rfl, rfl, rfl⟩
      case round =>
        obtain ⟨rfl, rfl, rfl⟩ := hrel
        go_wp2
        go_ret2
        exact ⟨A5, c5, rfl, LS4.out, B4.out⟩
end Go.Proofs.YtfadkokdoehjnaaDoor
