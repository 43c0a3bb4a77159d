/- Parts walked. Conditions: each string's length is an int. -/
import Derived.Test.YtmgofdgbenfjmaaDoorCs1
namespace Go.Proofs.YtmgofdgbenfjmaaDoor
open Go.RowKit

def pvs (r : Prt) : List Value := [.int .i64 r.n, .int .i64 r.e, .int .i64 r.h, .int .i64 r.b.x0, .int .i64 r.b.y0, .int .i64 (r.b.x1 - r.b.x0 + 1), .int .i64 (r.b.y1 - r.b.y0 + 1)]
def Vp (base : Nat) (w : World) (v : Value) (l : List Prt) : Prop := w.ownsRow base 33 7 v l.length (l.flatMap pvs)
/-- a slice of parts -/
def PSl (w : World) (A : Option Addr) (l : List Prt) : Prop :=
  l = [] ∨ ∃ b off, A = some ⟨b, off, none⟩ ∧ b < w.heap.size ∧ ∀ j (h : j < l.length) i (hi : i < 7), w.cell? ⟨b, off + j * 7 + i, none⟩ = some ((pvs l[j])[i]'hi)
theorem PSl.ext {w w' : World} {A : Option Addr} {l : List Prt} (h : PSl w A l) (hb : Below w.heap.size w w') : PSl w' A l := by
  rcases h with h | ⟨b, off, h1, h2, h3⟩
  · exact .inl h
  · exact .inr ⟨b, off, h1, Nat.lt_of_lt_of_le h2 hb.size, fun j hj i hi => (hb.cell (p := ⟨b, _, none⟩) h2).trans (h3 j hj i hi)⟩
theorem Vp.nil (base : Nat) (w : World) : Vp base w (.slice none 0 0) [] := own_nil w base 33 7
theorem Vp.psl {base : Nat} {w : World} {v : Value} {l : List Prt} (h : Vp base w v l) : ∃ A cap, v = .slice A l.length cap ∧ l.length ≤ cap ∧ cap ≤ maxLen ∧ PSl w A l := by
  obtain ⟨A, cap, hv, h1, h2, h3⟩ := own_cells h
  refine ⟨A, cap, hv, h1, h2, ?_⟩
  rcases h3 with h3 | ⟨g, rfl, hb, hg, hc⟩
  · exact .inl (List.eq_nil_of_length_eq_zero h3)
  · refine .inr ⟨g, 0, rfl, hg, fun j hj i hi => ?_⟩
    have hf : ∀ a : Prt, (pvs a).length = 7 := fun _ => rfl
    rw [Nat.zero_add]
    exact hc (j * 7 + i) _ (by rw [flat_get hf l j i hj hi]; exact List.getElem?_eq_getElem hi)
theorem info_part : (Tryd.prog.info? 33).map (fun i => (i.zero, i.size, i.bytes)) = some (some (.agg #[.int .i64 0, .int .i64 0, .int .i64 0, .int .i64 0, .int .i64 0, .int .i64 0, .int .i64 0]), 7, 56) := by kernel_rfl
/-- 'append(out, p)' of one part -/
theorem wpList_pushP (w : World) {ops : Array Oper} {rest : List Oper} {o : Oper} {a : Act} {Q : Exit → Act → World → Prop} (hgd : o.guard = none) (s x : Operand)
    (ho : o.op = .call { callee := .builtin .append, args := #[s, x], argTypes := #[23, 23] })
    (base : Nat) {v : Value} {l : List Prt} (hown : Vp base w v l) (hs : a.eval s = v) (r : Prt)
    {B : Nat} (hx : a.eval x = .slice (some ⟨B, 0, none⟩) 1 1) (hB : w.heap.size = B) (hn : l.length ≤ 1000000) (hbase : base ≤ w.heap.size)
    (h : ∀ v' w', Vp base w' v' (l ++ [r]) → Below base w w' → (∀ k, k < w.heap.size → some k ≠ v.ownBlock → w'.heap[k]? = w.heap[k]?) → wpList Tryd.prog ops Q rest (a.put o.dst v') w') :
    wpList Tryd.prog ops Q (o :: rest) a (w.alloc (.cells #[.int .i64 r.n, .int .i64 r.e, .int .i64 r.h, .int .i64 r.b.x0, .int .i64 r.b.y0, .int .i64 (r.b.x1 - r.b.x0 + 1), .int .i64 (r.b.y1 - r.b.y0 + 1)] 33)) := by
  refine wpList_push w hgd s x _ ho base 33 _ 7 56 Tryd.underlying23 info_part rfl (by decide) hown hs (news := pvs r) hx hB rfl (by intro x hx; simp [pvs] at hx; rcases hx with rfl | rfl | rfl | rfl | rfl | rfl | rfl <;> rfl) (by decide) (by unfold maxLen; omega) (by omega) hbase ?_
  intro v' w' h2 h3 h4 _ _ _
  refine h v' w' ?_ h3 h4
  have e : l.flatMap pvs ++ pvs r = (l ++ [r]).flatMap pvs := by rw [List.flatMap_append]; simp
  have e2 : (l ++ [r]).length = l.length + 1 := by simp
  unfold Vp
  rw [← e, e2]
  exact h2
theorem partStep_no {us : Cel → Bool} {n : Nat} {st : List Cel × List Prt} {c : Cel} (h : us c = false) : partStep us n st c = st := by unfold partStep; rw [h]; rfl
theorem partStep_old {us : Cel → Bool} {n : Nat} {st : List Cel × List Prt} {c : Cel} (h : us c = true) (hc : c ∈ st.1) : partStep us n st c = st := by unfold partStep; rw [h, if_pos rfl, if_pos hc]
theorem partStep_new {us : Cel → Bool} {n : Nat} {st : List Cel × List Prt} {c : Cel} (h : us c = true) (hc : c ∉ st.1) : partStep us n st c = ((fld sidesL us n st.1 c).1, st.2 ++ [partL (fld sidesL us n st.1 c).2 n]) := by unfold partStep; rw [h, if_pos rfl, if_neg hc]
theorem partStep_len (us : Cel → Bool) (n : Nat) (st : List Cel × List Prt) (c : Cel) : (partStep us n st c).2.length ≤ st.2.length + 1 := by
  cases h : us c
  · rw [partStep_no h]; omega
  · by_cases hc : c ∈ st.1
    · rw [partStep_old h hc]; omega
    · rw [partStep_new h hc]; simp
theorem partSteps_len (us : Cel → Bool) (n : Nat) : ∀ (cs : List Cel) (st : List Cel × List Prt), (cs.foldl (partStep us n) st).2.length ≤ st.2.length + cs.length
  | [], _ => Nat.le_refl _
  | c :: cs, st => by
    have h1 := partSteps_len us n cs (partStep us n st c)
    have h2 := partStep_len us n st c
    rw [List.foldl_cons, List.length_cons]; omega
/-- usable at a grade -/
def usb (l : List ByteArray) (g : Int) (c : Cel) : Bool := decide (g ≤ gr l c.1 c.2)
def grid (l : List ByteArray) : Bx := ⟨0, 0, (wid l : Int) - 1, (l.length : Int) - 1⟩
theorem usb_grid {l : List ByteArray} {g : Int} (hg : 1 ≤ g) {c : Cel} (h : usb l g c = true) : c ∈ boxCells (grid l) := by
  unfold usb gr at h
  rw [mem_box]
  unfold grid
  simp only [decide_eq_true_eq] at h
  split at h
  · omega
  · simp only; omega
theorem grid_in {l : List ByteArray} (hok : SkOk l) {c : Cel} (h : c ∈ boxCells (grid l)) : InG c := by
  rw [mem_box] at h
  unfold grid at h
  have h1 := hok.2.1
  have h2 := hok.2.2.2.1
  unfold InG
  simp only at h
  omega
theorem grid_len {l : List ByteArray} (hok : SkOk l) : (boxCells (grid l)).length ≤ 2304 := by
  rw [box_len]
  have h1 := hok.2.1
  have h2 := hok.2.2.2.1
  have e1 : ((grid l).y1 + 1 - (grid l).y0).toNat ≤ 48 := by unfold grid; simp only; omega
  have e2 : ((grid l).x1 + 1 - (grid l).x0).toNat ≤ 48 := by unfold grid; simp only; omega
  exact Nat.mul_le_mul e1 e2
theorem grid_bx {l : List ByteArray} (hok : SkOk l) : BxIn (grid l) := by
  have h1 := hok.1
  have h2 := hok.2.1
  have h3 := hok.2.2.1
  have h4 := hok.2.2.2.1
  unfold BxIn grid
  simp only
  omega
/-- what a flood over usable cells gives -/
theorem usb_fld {l : List ByteArray} {g : Int} (hok : SkOk l) (hg : 1 ≤ g) {S : List Cel} {c : Cel} (hc : usb l g c = true) : (∀ d ∈ (fld sidesL (usb l g) 3000 S c).2, InG d) ∧ (fld sidesL (usb l g) 3000 S c).2.Nodup ∧ (fld sidesL (usb l g) 3000 S c).2.length ≤ 2304 := by
  have h0 : FlI (boxCells (grid l)) (S ++ [c], [c]) := ⟨fun d h => by simp at h; subst h; simp, by simp, fun d h => by simp at h; subst h; exact usb_grid hg hc⟩
  have h1 : FlI (boxCells (grid l)) (fld sidesL (usb l g) 3000 S c) := FlI.go (fun d hd => usb_grid hg hd) 3000 0 h0
  exact ⟨fun d hd => grid_in hok (h1.2.2 d hd), h1.2.1, Nat.le_trans h1.len (grid_len hok)⟩
/-- what Parts knows of a world -/
def PqS (m : Nat) (w : World) (A : Option Addr) (cap : Nat) (l : List ByteArray) (g : Int) (st : List Cel × List Prt) (v : Value) (wr : World) : Prop :=
  Mp m st.1 wr ∧ Vp (m + 1) wr v st.2 ∧ Bk 22 wr w.heap.size #[.slice A l.length cap] ∧ Bk 3 wr (w.heap.size + 1) #[.int .i64 g] ∧ Below w.heap.size w wr
section
variable {m : Nat} {w wr w' : World} {A : Option Addr} {cap : Nat} {l : List ByteArray} {g : Int} {st : List Cel × List Prt} {v : Value}
theorem PqS.ext (h : PqS m w A cap l g st v wr) (hb : Below wr.heap.size wr w') : PqS m w A cap l g st v w' := ⟨h.1.ext hb, own_ext h.2.1 hb, h.2.2.1.ext hb, h.2.2.2.1.ext hb, bext h.2.2.2.2 hb h.2.2.2.2.size⟩
theorem PqS.store (h : PqS m w A cap l g st v wr) (h2 : w.heap.size + 2 ≤ m) {S : List Cel} (hm : Mp m S w') (hb : But1 m wr w') : PqS m w A cap l g (S, st.2) v w' :=
  ⟨hm, own_but1 h.2.1 hb (by omega), hb.bk h.2.2.1 (by omega), hb.bk h.2.2.2.1 (by omega), h.2.2.2.2.trans (hb.below (by omega) h.2.2.2.2.size)⟩
theorem PqS.push (h : PqS m w A cap l g st v wr) (h2 : w.heap.size + 2 ≤ m) {r : Prt} {v' : Value} (hv : Vp (m + 1) w' v' (st.2 ++ [r])) (hb : Below (m + 1) wr w') (hk : ∀ k, k < wr.heap.size → some k ≠ v.ownBlock → w'.heap[k]? = wr.heap[k]?) : PqS m w A cap l g (st.1, st.2 ++ [r]) v' w' :=
  ⟨h.1.keep (hk _ h.1.lt (own_ne_lt h.2.1 (by omega))), hv, (hk _ h.2.2.1.lt (own_ne_lt h.2.1 (by omega))).trans h.2.2.1, (hk _ h.2.2.2.1.lt (own_ne_lt h.2.1 (by omega))).trans h.2.2.2.1, h.2.2.2.2.trans (hb.mono (by omega))⟩
end
set_option maxRecDepth 100000 in
/-- flood over sides and usable -/
theorem sides_flood (m : Nat) (w : World) (A : Option Addr) (cap : Nat) (l : List ByteArray) (g : Int) (st : List Cel × List Prt) (v : Value) (V : World) (hok : SkOk l) (hg : 1 ≤ g) (h : TSl w A l) (hs : PqS m w A cap l g st v V) (h2 : w.heap.size + 2 ≤ m) (x y : Int) (hn : (x, y) ∉ st.1) (hu : usb l g (x, y) = true) :
    Calls Tryd.prog 47 #[.agg #[.int .i64 x, .int .i64 y], .map (some m), .func (.func 48) #[] #[], .func (.func 44) #[] #[.pointer (some ⟨w.heap.size, 0, none⟩), .pointer (some ⟨w.heap.size + 1, 0, none⟩)]] V (RetFl m V (fld sidesL (usb l g) 3000 st.1 (x, y))) := by
  have hfr := fun c (hc : c ∈ (x, y) :: boxCells (grid l)) => show InG c from by
    rcases List.mem_cons.1 hc with rfl | hc
    · exact grid_in hok (usb_grid hg hu)
    · exact grid_in hok hc
  have h0 := hfr (x, y) (by simp)
  unfold InG at h0
  simp only at h0
  refine flood_any x y st.1 m 48 44 #[] #[.pointer (some ⟨w.heap.size, 0, none⟩), .pointer (some ⟨w.heap.size + 1, 0, none⟩)] sidesL (usb l g) (boxCells (grid l)) 3000 V hs.1 hn ⟨⟨by show -9223372036854775808 ≤ x; omega, by show x ≤ 9223372036854775807; omega⟩, ⟨by show -9223372036854775808 ≤ y; omega, by show y ≤ 9223372036854775807; omega⟩⟩ (fun _ _ => rfl) (fun _ _ => rfl) ?_ ?_ (fun c hc => usb_grid hg hc) ?_ (by have := grid_len hok; omega) (by omega) (fun c => by simp [sidesL])
  · intro W _ x' y' hc
    have h1 := hfr _ hc
    unfold InG at h1
    simp only at h1
    exact beside_any x' y' W ⟨by show -1000 ≤ x'; omega, by show x' ≤ 1000; omega, by show -1000 ≤ y'; omega, by show y' ≤ 1000; omega⟩
  · intro W hW x' y' _
    have hb : Below w.heap.size w W := hs.2.2.2.2.trans (hW.below (by omega) hs.2.2.2.2.size)
    exact usable_any x' y' g w.heap.size (w.heap.size + 1) A cap l W hok (h.ext hb) ((hW.bk hs.2.2.1 (by omega)).cell 0) ((hW.bk hs.2.2.2.1 (by omega)).cell 0)
  · intro c hc d hd
    have h1 := sides_in (hfr c hc) hd
    exact ⟨by omega, by omega, by omega, by omega⟩
def PsOk (l : List ByteArray) (g : Int) : Prop := SkOk l ∧ 1 ≤ g ∧ g ≤ 9
/-- what Parts answers -/
def RetPs (w : World) (l : List ByteArray) (g : Int) (e : Ending) (w' : World) : Prop :=
  Below w.heap.size w w' ∧ ((¬ PsOk l g ∧ e = .returned (.tuple #[.slice none 0 0, .int .i64 2])) ∨
    (PsOk l g ∧ ∃ A cap, e = .returned (.tuple #[.slice A (partsL (usb l g) (wid l) l.length 3000).length cap, .int .i64 0]) ∧ (partsL (usb l g) (wid l) l.length 3000).length ≤ cap ∧ cap ≤ 9223372036854775807 ∧ PSl w' A (partsL (usb l g) (wid l) l.length 3000)))
set_option maxRecDepth 100000 in
set_option maxHeartbeats 8000000 in
theorem parts_any (A : Option Addr) (cap : Nat) (l : List ByteArray) (g : Int) (w : World) (hc : l.length ≤ cap) (hcm : cap ≤ 9223372036854775807) (h : TSl w A l) (hz : TSz l) :
    Calls Tryd.prog 12 #[.slice A l.length cap, .int .i64 g] w (RetPs w l g) := by
  have hmm := @run_makeMap Tryd.prog
  have hmf : ∀ (fn : Fn) (first cap : Array Value) (w : World), (Instr.makeFunc fn first cap).run Tryd.prog w = .ok (.func fn first cap) w := fun _ _ _ _ => rfl
  have hx0 := ext_trans (ext_alloc w (.cells #[.slice A l.length cap] 22)) (ext_alloc _ (.cells #[.int .i64 g] 3))
  have HV := Lib.hid (valid_any A cap l _ hc hcm (h.ext hx0) hz)
  have HX0 := Lib.hid hx0
  have hb1 := (Bk.new 22 w #[.slice A l.length cap]).alloc (.cells #[.int .i64 g] 3)
  have hb2 := Bk.new 3 (w.alloc (.cells #[.slice A l.length cap] 22)) #[.int .i64 g]
  rw [World.size_alloc] at hb2
  have HB1 := Lib.hid hb1
  have HB2 := Lib.hid hb2
  have HT := Lib.hid h
  clear hb1 hb2 hx0 h hz
  by_cases hok : SkOk l
  · rw [decide_eq_true hok] at HV
    by_cases hgg : 1 ≤ g ∧ g ≤ 9
    · have HL2 := Lib.hid (fun W => show Calls Tryd.prog 43 #[.int .i64 g] W fun e w' => e = .returned (.bool true) ∧ w' = W from by have h := least_any g W; rw [decide_eq_true hgg] at h; exact h)
      have HOK := Lib.hid (show PsOk l g from ⟨hok, hgg.1, hgg.2⟩)
      have hl48 := hok.2.1
      clear hok hgg
      go_enter Tryd.func12, Tryd.ntmps12
      go_upto_region 6 with (first
        | (go_at_call 42; refine (HV.out).mono ?_; rintro e w1 ⟨rfl, hx1⟩; obtain ⟨f1, f2, f3⟩ := (HB2.out.ext hx1).facts; obtain ⟨g1, g2, g3⟩ := (HB1.out.ext hx1).facts)
        | (go_at_call 43; refine (HL2.out _).mono ?_; rintro e w2 ⟨rfl, hw2⟩; subst hw2))
      have hx3 := ext_trans (ext_trans HX0.out hx1) (ext_alloc w2 (.map #[] 0))
      obtain ⟨m, hm⟩ : ∃ m, m = w2.heap.size := ⟨_, rfl⟩
      have hm2 : w.heap.size + 2 ≤ m := by have := hx1.size; simp only [World.size_alloc] at this; omega
      obtain ⟨V, hV⟩ : ∃ V, V = w2.alloc (.map #[] 0) := ⟨_, rfl⟩
      have HS0 := Lib.hid (show PqS m w A cap l g ([], []) (.slice none 0 0) V from by
        rw [hm, hV]
        exact ⟨Mp.new w2, Vp.nil _ _, (HB1.out.ext hx1).ext (ext_alloc _ _), (HB2.out.ext hx1).ext (ext_alloc _ _), hx3⟩)
      rw [← hm, ← hV]
      clear hm hV hx3 hx1 f1 f2 f3 g1 g2 g3 hmm hmf HV HL2 HB1 HB2 HX0
      obtain ⟨g1, g2, g3⟩ := HS0.out.2.2.1.facts
      go_wp2_with (fail)
      go_loopg [25, 8] l.length (fun gg i v wr => ∃ (a : Nat) (st : List Cel × List Prt), i = .int .i64 a ∧ a ≤ l.length ∧ gg = l.length - a ∧ PqS m w A cap l g st v wr ∧ st = (boxP (grid l) a 0).foldl (partStep (usb l g) 3000) ([], []))
      case atStart => exact ⟨0, ([], []), rfl, by omega, by omega, HS0.out, by rw [boxP_none]; rfl⟩
      case round =>
        obtain ⟨a, st, rfl, ha, hg, hs, hst⟩ := hrel
        have HGG := Lib.hid hg
        have HS := Lib.hid hs
        have HST := Lib.hid hst
        clear hg hs hst HS0 g1 g2 g3
        by_cases hlt : a < l.length
        · rcases HT.out with h0 | ⟨b, off, rfl, hb, hcl⟩
          · rw [h0] at hlt; simp at hlt
          · have c1 := (HS.out.2.2.2.2.cell (p := ⟨b, off + a, none⟩) hb).trans (hcl a hlt)
            have hb2 : b < wr.heap.size := Nat.lt_of_lt_of_le hb HS.out.2.2.2.2.size
            have hrs : l[a].size = wid l := (HOK.out.1.row hlt).1
            obtain ⟨r, hr⟩ : ∃ r, r = l[a] := ⟨_, rfl⟩
            rw [← hr] at c1 hrs
            have hw48 : wid l ≤ 48 := HOK.out.1.2.2.2.1
            have ha48 : (a : Int) ≤ 47 := by omega
            have HLT := Lib.hid hlt
            clear hcl hr
            go_upto_region 10 with (fail)
            clear hlt
            obtain ⟨n, hn⟩ : ∃ n, n = wid l := ⟨_, rfl⟩
            rw [← hn]
            have HN := Lib.hid hn
            rw [← hn] at hw48
            clear hrs hn c1 hb2
            go_loopg [32, 8] n (fun gg i v wr => ∃ (k : Nat) (st : List Cel × List Prt), i = .int .i64 k ∧ k ≤ n ∧ gg = n - k ∧ PqS m w (some ⟨b, off, none⟩) cap l g st v wr ∧ st = (boxP (grid l) a k).foldl (partStep (usb l g) 3000) ([], []))
            case atStart => exact ⟨0, st, rfl, by omega, by omega, HS.out, HST.out⟩
            case round =>
              obtain ⟨k, s2, rfl, hk, hg2, hs2, hst2⟩ := hrel
              have HG2 := Lib.hid hg2
              have HS2 := Lib.hid hs2
              have HST2 := Lib.hid hst2
              have hsl : s2.2.length ≤ 48 * 48 + 48 := by
                have h1 := partSteps_len (usb l g) 3000 (boxP (grid l) a k) ([], [])
                rw [← hst2] at h1
                have h2 := boxP_len (a := a) (k := k) (grid_bx HOK.out.1) (by omega) (by omega)
                simp only [List.length_nil, Nat.zero_add] at h1
                omega
              clear hg2 hs2 hst2 HS HST
              by_cases hltb : k < n
              · have HFT := Lib.hid (show (boxP (grid l) a (k + 1)).foldl (partStep (usb l g) 3000) ([], []) = partStep (usb l g) 3000 s2 ((k : Int), (a : Int)) from by
                  rw [boxP_cell, List.foldl_append, ← HST2.out]
                  show partStep (usb l g) 3000 s2 (0 + (k : Int), 0 + (a : Int)) = _
                  rw [Int.zero_add, Int.zero_add])
                have HSM := Lib.hid (show Sml ((k : Int), (a : Int)) from ⟨by show -1000 ≤ (k : Int); omega, by show (k : Int) ≤ 1000; omega, by show -1000 ≤ (a : Int); omega, by show (a : Int) ≤ 1000; omega⟩)
                have HLB := Lib.hid hltb
                have HSX := Lib.hid (HS2.out.ext (ext_alloc wr (.cells #[.int .i64 (k : Int), .int .i64 (a : Int)] 71)))
                have HBC := Lib.hid (Bk.new 71 wr #[.int .i64 (k : Int), .int .i64 (a : Int)])
                go_upto_region 13 with (fail)
                obtain ⟨X, hX⟩ : ∃ X, X = wr.alloc (.cells #[.int .i64 (k : Int), .int .i64 (a : Int)] 71) := ⟨_, rfl⟩
                rw [← hX] at HSX HBC ⊢
                obtain ⟨B, hB⟩ : ∃ B, B = wr.heap.size := ⟨_, rfl⟩
                rw [← hB] at HBC ⊢
                clear hX hB HS2
                obtain ⟨e1, e2, e3⟩ := HBC.out.facts
                have HUS := Lib.hid (usable_any (k : Int) (a : Int) g w.heap.size (w.heap.size + 1) (some ⟨b, off, none⟩) cap l X HOK.out.1 (HT.out.ext HSX.out.2.2.2.2) (HSX.out.2.2.1.cell 0) (HSX.out.2.2.2.1.cell 0))
                cases hus : usb l g ((k : Int), (a : Int))
                · have hus2 : decide (g ≤ gr l (k : Int) (a : Int)) = false := hus
                  rw [hus2] at HUS
                  have HE := Lib.hid (HFT.out.trans (partStep_no hus))
                  clear hus hus2 hltb
                  go_wp2_with (go_at_call 44; refine (HUS.out).mono ?_; rintro e w3 ⟨rfl, hx3⟩; have HS3 := Lib.hid (HSX.out.ext hx3); clear hx3)
                  go_roundg (n - (k + 1))
                  case measure => have := HG2.out; have := HLB.out; omega
                  case rel => exact ⟨k + 1, s2, by go_num, by have := HLB.out; omega, rfl, HS3.out, HE.out.symm⟩
                · have hus2 : decide (g ≤ gr l (k : Int) (a : Int)) = true := hus
                  rw [hus2] at HUS
                  by_cases hin : ((k : Int), (a : Int)) ∈ s2.1
                  · have HE := Lib.hid (HFT.out.trans (partStep_old hus hin))
                    have HIN := Lib.hid hin
                    clear hus hus2 hltb hin
                    go_wp2_with (go_at_call 44; refine (HUS.out).mono ?_; rintro e w3 ⟨rfl, hx3⟩; have HS3 := Lib.hid (HSX.out.ext hx3); have HB3 := Lib.hid (HBC.out.ext hx3); clear hx3 e1 e2 e3; obtain ⟨e1, e2, e3⟩ := HB3.out.facts; have hlook := (HS3.out.1.look HSM.out.isC).trans (by rw [decide_eq_true HIN.out]); have hlook' : (Instr.lookup 73 (.map (some m)) (.agg #[.int .i64 (k : Int), .int .i64 (a : Int)]) false).run Tryd.prog w3 = .ok (.bool true) w3 := hlook; clear hlook)
                    go_roundg (n - (k + 1))
                    case measure => have := HG2.out; have := HLB.out; omega
                    case rel => exact ⟨k + 1, s2, by go_num, by have := HLB.out; omega, rfl, HS3.out, HE.out.symm⟩
                  · have HE := Lib.hid (HFT.out.trans (partStep_new hus hin))
                    have HFP := Lib.hid (usb_fld (S := s2.1) HOK.out.1 HOK.out.2.1 hus)
                    have HIN := Lib.hid hin
                    have HU := Lib.hid hus
                    clear hus hus2 hltb hin
                    go_upto_region 14 with (go_at_call 44; refine (HUS.out).mono ?_; rintro e w3 ⟨rfl, hx3⟩; have HS3 := Lib.hid (HSX.out.ext hx3); have HB3 := Lib.hid (HBC.out.ext hx3); clear hx3 e1 e2 e3; obtain ⟨e1, e2, e3⟩ := HB3.out.facts; have hlook := (HS3.out.1.look HSM.out.isC).trans (by rw [decide_eq_false HIN.out]); have hlook' : (Instr.lookup 73 (.map (some m)) (.agg #[.int .i64 (k : Int), .int .i64 (a : Int)]) false).run Tryd.prog w3 = .ok (.bool false) w3 := hlook; clear hlook)
                    have HFL := Lib.hid (sides_flood m w (some ⟨b, off, none⟩) cap l g s2 _ w3 HOK.out.1 HOK.out.2.1 HT.out HS3.out hm2 (k : Int) (a : Int) HIN.out HU.out)
                    obtain ⟨fr, hfr⟩ : ∃ fr, fr = fld sidesL (usb l g) 3000 s2.1 ((k : Int), (a : Int)) := ⟨_, rfl⟩
                    rw [← hfr] at HE HFL HFP
                    clear hfr hlook'
                    obtain ⟨pr, hpr⟩ : ∃ pr, pr = partL fr.2 3000 := ⟨_, rfl⟩
                    have HPT := Lib.hid (fun A5 cap5 W (k1 : fr.2.length ≤ cap5) (k2 : cap5 ≤ 9223372036854775807) (hcs : CSl 0 W A5 fr.2) => part_any A5 cap5 fr.2 W k1 k2 hcs HFP.out.1 HFP.out.2.1 HFP.out.2.2)
                    unfold RetPt at HPT
                    rw [← hpr] at HPT HE
                    clear hpr
                    have hbase : m + 1 ≤ w3.heap.size := HS3.out.1.lt
                    go_wp2_with (first
                      | (go_at_call 47; refine (HFL.out).mono ?_; rintro e w5 ⟨A5, cap5, rfl, k1, k2, hcs, hm5, hb5⟩; have HS5 := Lib.hid (HS3.out.store hm2 hm5 hb5); have hbs5 := hb5.size; have HCS := Lib.hid hcs; clear hm5 hb5 hcs)
                      | (go_at_call 46; refine (HPT.out _ _ _ k1 k2 (HCS.out.mono (Nat.zero_le _))).mono ?_; rintro e w6 ⟨rfl, hx6⟩; have HS6 := Lib.hid (HS5.out.ext hx6); have hbs6 := hx6.size; clear hx6)
                      | (at_builtin; have hv6 := HS6.out.2.1; dsimp only at hv6; refine wpList_pushP _ rfl _ _ rfl (m + 1) hv6 (by rfl) pr (by rfl) rfl (by omega) (by omega) ?_; intro v7 w7 hv7 hb7 hk7; have HS7 := Lib.hid (PqS.push HS6.out hm2 hv7 hb7 hk7); clear hv7 hb7 hk7))
                    go_roundg (n - (k + 1))
                    case measure => have := HG2.out; have := HLB.out; omega
                    case rel => exact ⟨k + 1, (fr.1, s2.2 ++ [pr]), by go_num, by have := HLB.out; omega, rfl, HS7.out, HE.out.symm⟩
              · have HST3 := Lib.hid (show s2 = (boxP (grid l) (a + 1) 0).foldl (partStep (usb l g) 3000) ([], []) from by
                  rw [← boxP_row]
                  have e : k = ((grid l).x1 + 1 - (grid l).x0).toNat := by
                    have := HN.out
                    unfold grid; simp only; omega
                  have h := HST2.out
                  rw [e] at h; exact h)
                obtain rfl : k = n := by omega
                go_wp2
                go_roundg (l.length - (a + 1))
                case measure => have := HGG.out; have := HLT.out; omega
                case rel => exact ⟨a + 1, s2, by go_num, by have := HLT.out; omega, rfl, HS2.out, HST3.out⟩
        · have HE := Lib.hid (show st.2 = partsL (usb l g) (wid l) l.length 3000 from by
            have e : a = ((grid l).y1 + 1 - (grid l).y0).toNat := by unfold grid; simp only; omega
            have h := HST.out
            rw [e, boxP_all] at h
            rw [h]; rfl)
          obtain ⟨A2, cap2, rfl, k1, k2, k3⟩ := HS.out.2.1.psl
          have HP := Lib.hid k3
          have k2' : cap2 ≤ 9223372036854775807 := by unfold maxLen at k2; omega
          clear k2 k3
          obtain rfl : a = l.length := by omega
          go_wp2
          refine bodyPost_ret (v := .tuple #[.slice A2 st.2.length cap2, .int .i64 0]) (by simp [results, Tryd.results12, go_sem]) rfl ?_
          refine ⟨HS.out.2.2.2.2, .inr ⟨HOK.out, A2, cap2, by rw [← HE.out], by rw [← HE.out]; exact k1, k2', by rw [← HE.out]; exact HP.out⟩⟩
    · have HL2 := Lib.hid (fun W => show Calls Tryd.prog 43 #[.int .i64 g] W fun e w' => e = .returned (.bool false) ∧ w' = W from by have h := least_any g W; rw [decide_eq_false hgg] at h; exact h)
      have HOK := Lib.hid (show ¬ PsOk l g from fun h => hgg h.2)
      clear hok hgg
      go_enter Tryd.func12, Tryd.ntmps12
      go_wp2_with (first
        | (go_at_call 42; refine (HV.out).mono ?_; rintro e w1 ⟨rfl, hx1⟩; obtain ⟨f1, f2, f3⟩ := (HB2.out.ext hx1).facts; obtain ⟨g1, g2, g3⟩ := (HB1.out.ext hx1).facts)
        | (go_at_call 43; refine (HL2.out _).mono ?_; rintro e w2 ⟨rfl, hw2⟩; subst hw2))
      refine bodyPost_ret (v := .tuple #[.slice none 0 0, .int .i64 2]) (by simp [results, Tryd.results12, go_sem]) rfl ?_
      exact ⟨ext_trans HX0.out hx1, .inl ⟨HOK.out, rfl⟩⟩
  · rw [decide_eq_false hok] at HV
    have HOK := Lib.hid (show ¬ PsOk l g from fun h => hok h.1)
    clear hok
    go_enter Tryd.func12, Tryd.ntmps12
    go_wp2_with (go_at_call 42; refine (HV.out).mono ?_; rintro e w1 ⟨rfl, hx1⟩; obtain ⟨f1, f2, f3⟩ := (HB2.out.ext hx1).facts; obtain ⟨g1, g2, g3⟩ := (HB1.out.ext hx1).facts)
    refine bodyPost_ret (v := .tuple #[.slice none 0 0, .int .i64 2]) (by simp [results, Tryd.results12, go_sem]) rfl ?_
    exact ⟨ext_trans HX0.out hx1, .inl ⟨HOK.out, rfl⟩⟩
end Go.Proofs.YtmgofdgbenfjmaaDoor
