/- Texts joined: Pq, Ct. Conditions: see each. -/
import Derived.Test.YtmgofdgbenfjmaaDoorPl
import Derived.Test.YtmgofdgbenfjmaaDoorFn1
import Derived.StillTailTactics
namespace Go.Proofs.YtmgofdgbenfjmaaDoor
open Go.RowKit

theorem Mp.find2 {S : List Cel} {w : World} {es : Array MapEntry} (h1 : ∀ c ∈ S, IsC c) (h2 : es.toList.map (·.key) = S.map kv) {c : Cel} (hc : IsC c) :
    ((Instr.findKey 71 (kv c) es.toList).run Tryd.prog w = .ok none w ∧ c ∉ S) ∨ ∃ j e, (Instr.findKey 71 (kv c) es.toList).run Tryd.prog w = .ok (some (j, e.val)) w ∧ es[j]? = some e ∧ e.key = kv c ∧ c ∈ S := by
  obtain ⟨l, hl⟩ := keyOf_kv hc
  have hkeys : ∀ e ∈ es.toList, ∃ d ∈ S, e.key = kv d := by
    intro e he
    have : e.key ∈ S.map kv := by rw [← h2]; exact List.mem_map.2 ⟨e, he, rfl⟩
    obtain ⟨d, hd, e1⟩ := List.mem_map.1 this
    exact ⟨d, hd, e1.symm⟩
  rcases cell_law.find w hl es.toList (fun e he => by
    obtain ⟨d, hd, e1⟩ := hkeys e he
    rw [e1]; exact keyOf_kv (h1 d hd)) with ⟨f1, f2⟩ | ⟨j, e, f1, f2, f3⟩
  · refine .inl ⟨f1, fun hm => ?_⟩
    have : kv c ∈ es.toList.map (·.key) := by rw [h2]; exact List.mem_map.2 ⟨c, hm, rfl⟩
    obtain ⟨e, he, e1⟩ := List.mem_map.1 this
    exact f2 e he e1
  · have hm : e ∈ es.toList := List.mem_of_getElem? f2
    obtain ⟨d, hd, e1⟩ := hkeys e hm
    refine .inr ⟨j, e, f1, by simpa using f2, f3, ?_⟩
    have : d = c := kv_inj (e1.symm.trans f3)
    rw [← this]; exact hd
theorem modify_same {es : Array MapEntry} {j : Nat} {e : MapEntry} {f : MapEntry → MapEntry} (h : es[j]? = some e) (hf : f e = e) : es.modify j f = es := by
  apply Array.ext
  · simp
  · intro i h1 h2
    rw [Array.getElem_modify]
    split
    · rename_i hij
      subst hij
      have := (Array.getElem?_eq_some_iff.1 h).2
      rw [this, hf]
    · rfl
/-- m[c] = true, c there already -/
theorem Mp.store_old {b : Nat} {S : List Cel} {w : World} (h : Mp b S w) {c : Cel} (hc : IsC c) (hn : c ∈ S) : ∃ w', (Instr.mapUpdate 73 (.map (some b)) (kv c) (.bool true)).run Tryd.prog w = .ok () w' ∧ Mp b S w' ∧ But1 b w w' := by
  obtain ⟨h1, es, clock, hb, h2, h3⟩ := h
  obtain ⟨l, hl⟩ := keyOf_kv hc
  rcases Mp.find2 (w := w) h1 h2 hc with ⟨f1, f2⟩ | ⟨j, e, f1, f2, f3, f4⟩
  · exact absurd hn f2
  · have hv : e.val = .bool true := h3 e (by
      have := Array.mem_of_getElem? f2
      simpa using this)
    have hm : es.modify j (fun e => { e with key := kv c, val := .bool true }) = es := modify_same f2 (by
      cases e
      simp only at f3 hv
      rw [f3, hv])
    refine ⟨ChangeMaps.setBlock w b (.map es clock), ?_, ⟨h1, es, clock, ChangeMaps.heap_setBlock_same hb _, h2, h3⟩, ⟨rfl, rfl, rfl, by simp [ChangeMaps.setBlock], fun i _ hi => ChangeMaps.heap_setBlock_other hb _ (fun e => hi (by rw [e]))⟩⟩
    have hj : (es[j]?.map (·.key)).getD (kv c) = kv c := by rw [f2]; exact f3
    simp [Instr.mapUpdate, run_underlying Tryd.underlying73, MapKept.run_getObj_map hb, cell_law.check w false hl, f1, f2, f3, cell_law.stays w hl, MapKept.run_setObj_map _ hb, Result.andThen, ChangeMaps.setBlock, hm]
/-- block b is the set of the cells for which f -/
def Mf (b : Nat) (f : Cel → Bool) (w : World) : Prop := ∃ S, Mp b S w ∧ ∀ c, c ∈ S ↔ f c = true
section
variable {b : Nat} {f : Cel → Bool} {w w' : World}
theorem Mf.lt (h : Mf b f w) : b < w.heap.size := by obtain ⟨S, h, _⟩ := h; exact h.lt
theorem Mf.keep (h : Mf b f w) (hk : w'.heap[b]? = w.heap[b]?) : Mf b f w' := by obtain ⟨S, h, h2⟩ := h; exact ⟨S, h.keep hk, h2⟩
theorem Mf.ext (h : Mf b f w) (hb : Below w.heap.size w w') : Mf b f w' := h.keep (hb.block b h.lt)
theorem Mf.congr {g : Cel → Bool} (h : Mf b f w) (hg : ∀ c, f c = g c) : Mf b g w := by obtain ⟨S, h, h2⟩ := h; exact ⟨S, h, fun c => by rw [h2, hg]⟩
theorem Mf.new (w : World) : Mf w.heap.size (fun _ => false) (w.alloc (.map #[] 0)) := ⟨[], Mp.new w, fun c => by simp⟩
theorem Mf.look (h : Mf b f w) {c : Cel} (hc : IsC c) : (Instr.lookup 73 (.map (some b)) (kv c) false).run Tryd.prog w = .ok (.bool (f c)) w := by
  obtain ⟨S, h, h2⟩ := h
  rw [h.look hc]
  have : decide (c ∈ S) = f c := by rw [Bool.eq_iff_iff, decide_eq_true_iff]; exact h2 c
  rw [this]
theorem Mf.store (h : Mf b f w) {c : Cel} (hc : IsC c) : ∃ w', (Instr.mapUpdate 73 (.map (some b)) (kv c) (.bool true)).run Tryd.prog w = .ok () w' ∧ Mf b (fun d => f d || decide (d = c)) w' ∧ But1 b w w' := by
  obtain ⟨S, h, h2⟩ := h
  by_cases hm : c ∈ S
  · obtain ⟨w', r, k, hb⟩ := h.store_old hc hm
    refine ⟨w', r, ⟨S, k, fun d => ?_⟩, hb⟩
    rw [h2 d, Bool.or_eq_true, decide_eq_true_iff]
    exact ⟨.inl, fun hd => hd.elim id fun e => by rw [e]; exact (h2 c).1 hm⟩
  · obtain ⟨w', r, k, hb⟩ := h.store hc hm
    refine ⟨w', r, ⟨S ++ [c], k, fun d => ?_⟩, hb⟩
    rw [List.mem_append, h2 d, Bool.or_eq_true, decide_eq_true_iff, List.mem_singleton]
end
theorem But1.two1 {g h : Nat} {w w' : World} (k : But1 g w w') : But2 g h w w' := ⟨k.os, k.tape, k.output, k.size, fun i hi h1 _ => k.block i hi h1⟩
theorem But1.two2 {g h : Nat} {w w' : World} (k : But1 h w w') : But2 g h w w' := ⟨k.os, k.tape, k.output, k.size, fun i hi _ h2 => k.block i hi h2⟩
/-- the plane in block b, its walls in the maps b1, b2 -/
structure PlQ (W : World) (b : Nat) (l : List ByteArray) (g : Int) (b1 b2 : Nat) : Prop where
  ok : SkOk l
  at_ : ∃ p q bs off cap, (∀ j (h : j < l.length), W.cell? ⟨bs, off + j, none⟩ = some (.string l[j])) ∧ W.cell? ⟨p, 0, none⟩ = some (.slice (some ⟨bs, off, none⟩) l.length cap) ∧ W.cell? ⟨q, 0, none⟩ = some (.int .i64 g) ∧ W.cell? ⟨b, 2, none⟩ = some (.func (.func 70) #[] #[.pointer (some ⟨p, 0, none⟩), .pointer (some ⟨q, 0, none⟩)]) ∧
    (bs ≠ b1 ∧ bs ≠ b2 ∧ p ≠ b1 ∧ p ≠ b2 ∧ q ≠ b1 ∧ q ≠ b2)
  w_ : W.cell? ⟨b, 0, none⟩ = some (.int .i64 (wid l))
  h_ : W.cell? ⟨b, 1, none⟩ = some (.int .i64 l.length)
  m1_ : W.cell? ⟨b, 3, none⟩ = some (.map (some b1))
  m2_ : W.cell? ⟨b, 4, none⟩ = some (.map (some b2))
  ne : b ≠ b1 ∧ b ≠ b2 ∧ b1 ≠ b2
theorem PlQ.plw {W : World} {b : Nat} {l : List ByteArray} {g : Int} {b1 b2 : Nat} (h : PlQ W b l g b1 b2) : PlW W b l g (.map (some b1)) (.map (some b2)) := by
  obtain ⟨p, q, bs, off, cap, h1, h2, h3, h4, _⟩ := h.at_
  have hl : 0 < l.length := h.ok.1
  exact ⟨h.ok, ⟨p, q, _, cap, .inr ⟨bs, off, rfl, World.block_lt_of_cell? W ⟨bs, off + 0, none⟩ (h1 0 hl), h1⟩, h2, h3, h4⟩, h.w_, h.h_, h.m1_, h.m2_⟩
theorem PlQ.but {W W' : World} {b : Nat} {l : List ByteArray} {g : Int} {b1 b2 : Nat} (h : PlQ W b l g b1 b2) (k : But2 b1 b2 W W') : PlQ W' b l g b1 b2 := by
  obtain ⟨p, q, bs, off, cap, h1, h2, h3, h4, n1, n2, n3, n4, n5, n6⟩ := h.at_
  obtain ⟨m1, m2, m3⟩ := h.ne
  exact ⟨h.ok, ⟨p, q, bs, off, cap, fun j hj => k.cell (h1 j hj) n1 n2, k.cell h2 n3 n4, k.cell h3 n5 n6, k.cell h4 m1 m2, n1, n2, n3, n4, n5, n6⟩, k.cell h.w_ m1 m2, k.cell h.h_ m1 m2, k.cell h.m1_ m1 m2, k.cell h.m2_ m1 m2, m1, m2, m3⟩
theorem PlQ.ext {W W' : World} {b : Nat} {l : List ByteArray} {g : Int} {b1 b2 : Nat} (h : PlQ W b l g b1 b2) (k : Below W.heap.size W W') : PlQ W' b l g b1 b2 := h.but (But2.of k)

/-- what cut leaves -/
def RetCt (W : World) (b : Nat) (l : List ByteArray) (g : Int) (b1 b2 : Nat) (fa fb : Cel → Bool) (e : Ending) (w' : World) : Prop :=
  e = .returned (.tuple #[]) ∧ PlQ w' b l g b1 b2 ∧ Mf b1 fa w' ∧ Mf b2 fb w' ∧ But2 b1 b2 W w'
def hwl (y lo hi : Int) (d : Cel) : Bool := decide (d.2 = y ∧ lo ≤ d.1 ∧ d.1 < hi)
def vwl (x lo hi : Int) (d : Cel) : Bool := decide (d.1 = x ∧ lo ≤ d.2 ∧ d.2 < hi)
set_option maxRecDepth 100000 in
set_option maxHeartbeats 8000000 in
theorem cut_any (b : Nat) (l : List ByteArray) (g : Int) (b1 b2 : Nat) (fa fb : Cel → Bool) (x0 y0 x1 y1 : Int) (W : World) (h : PlQ W b l g b1 b2) (ha : Mf b1 fa W) (hb : Mf b2 fb W)
    (hx0 : 0 ≤ x0 ∧ x0 ≤ 48) (hx1 : 0 ≤ x1 ∧ x1 ≤ 48) (hy0 : 0 ≤ y0 ∧ y0 ≤ 48) (hy1 : 0 ≤ y1 ∧ y1 ≤ 48) :
    Calls Tryd.prog 108 #[.pointer (some ⟨b, 0, none⟩), .agg #[.int .i64 x0, .int .i64 y0, .int .i64 x1, .int .i64 y1]] W (RetCt W b l g b1 b2 (fun d => fa d || hwl y0 (min x0 x1) (max x0 x1) d) (fun d => fb d || vwl x0 (min y0 y1) (max y0 y1) d)) := by
  have HX := Lib.hid (ext_alloc W (.cells #[.int .i64 x0, .int .i64 y0, .int .i64 x1, .int .i64 y1] 156))
  have HC := Lib.hid (Bk.new 156 W #[.int .i64 x0, .int .i64 y0, .int .i64 x1, .int .i64 y1])
  have HP := Lib.hid (h.ext HX.out)
  have HA := Lib.hid (ha.ext HX.out)
  have HB := Lib.hid (hb.ext HX.out)
  have HLT := Lib.hid (show b1 < W.heap.size ∧ b2 < W.heap.size from ⟨ha.lt, hb.lt⟩)
  obtain ⟨hx01, hx02⟩ := hx0
  obtain ⟨hx11, hx12⟩ := hx1
  obtain ⟨hy01, hy02⟩ := hy0
  obtain ⟨hy11, hy12⟩ := hy1
  have HMX := Lib.hid (show 0 ≤ min x0 x1 ∧ min x0 x1 ≤ max x0 x1 ∧ max x0 x1 ≤ 48 ∧ 0 ≤ min y0 y1 ∧ min y0 y1 ≤ max y0 y1 ∧ max y0 y1 ≤ 48 ∧ 0 ≤ x0 ∧ x0 ≤ 48 ∧ 0 ≤ y0 ∧ y0 ≤ 48 from by omega)
  clear h ha hb
  go_enter Tryd.func108, Tryd.ntmps108
  go_upto_region 1 with (fail)
  obtain ⟨X, hX⟩ : ∃ X, X = W.alloc (.cells #[.int .i64 x0, .int .i64 y0, .int .i64 x1, .int .i64 y1] 156) := ⟨_, rfl⟩
  obtain ⟨p3, hp3⟩ : ∃ p3, p3 = W.heap.size := ⟨_, rfl⟩
  have HP3 := Lib.hid (show p3 ≠ b1 ∧ p3 ≠ b2 from by have := HLT.out; omega)
  rw [← hX] at HX HC HP HA HB ⊢
  rw [← hp3] at HC ⊢
  clear hX hp3
  obtain ⟨f1, f2, f3⟩ := HC.out.facts
  go_wp2_with (fail)
  have HX2 := Lib.hid (show But2 b1 b2 W X from But2.of HX.out)
  clear f1 f2 f3 HX
  have HX := HX2
  clear HX2
  go_loopg [4] (max x0 x1 - min x0 x1).toNat (fun gg z wr => ∃ t : Int, z = .int .i64 t ∧ min x0 x1 ≤ t ∧ t ≤ max x0 x1 ∧ gg = (max x0 x1 - t).toNat ∧ PlQ wr b l g b1 b2 ∧ Mf b1 (fun d => fa d || hwl y0 (min x0 x1) t d) wr ∧ Mf b2 fb wr ∧ Bk 156 wr p3 #[.int .i64 x0, .int .i64 y0, .int .i64 x1, .int .i64 y1] ∧ But2 b1 b2 W wr)
  case atStart => exact ⟨min x0 x1, rfl, by omega, by omega, rfl, HP.out, HA.out.congr fun e => by
    have h0 : hwl y0 (min x0 x1) (min x0 x1) e = false := decide_eq_false fun h => by omega
    rw [h0, Bool.or_false], HB.out, HC.out, HX.out⟩
  case round =>
    obtain ⟨t, rfl, ht1, ht2, hgg, hp, ha, hb, hc, hx⟩ := hrel
    have HG := Lib.hid hgg
    have HPR := Lib.hid hp
    have HAR := Lib.hid ha
    have HBR := Lib.hid hb
    have HCR := Lib.hid hc
    have HXR := Lib.hid hx
    clear hgg hp ha hb hx HP HA HB HC HX
    obtain ⟨q1, q2, q3⟩ := hc.facts
    clear hc
    by_cases hlt : t < max x0 x1
    · have hm := HPR.out.m1_
      have hq0 : p3 < wr.heap.size := q3
      have hlm : b < wr.heap.size := World.block_lt_of_cell? wr ⟨b, 3, none⟩ hm
      have hcc : IsC (t, y0) := ⟨⟨by have := HMX.out; dsimp only; omega, by have := HMX.out; dsimp only; omega⟩, ⟨by have := HMX.out; dsimp only; omega, by have := HMX.out; dsimp only; omega⟩⟩
      go_upto_region 4 with (fail)
      go_still_tail 9, (by kernel_rfl)
      have HPY := Lib.hid (HPR.out.ext (ext_drew wr))
      have HAY := Lib.hid (HAR.out.ext (ext_drew wr))
      have HBY := Lib.hid (HBR.out.ext (ext_drew wr))
      have HCY := Lib.hid (HCR.out.ext (ext_drew wr))
      have HXY := Lib.hid (HXR.out.trans (But2.of (ext_drew wr)))
      change wpList _ _ _ _ _ wr.drew
      obtain ⟨Y, hY⟩ : ∃ Y, Y = wr.drew := ⟨_, rfl⟩
      rw [← hY] at HPY HAY HBY HCY HXY ⊢
      clear hY q1 q2 q3 hm hq0 hlm HPR HAR HBR HCR HXR
      obtain ⟨Z, hrun, hmf, hbz⟩ := HAY.out.store (c := (t, y0)) hcc
      have hrun' : (Instr.mapUpdate 73 (.map (some b1)) (.agg #[.int .i64 (t), .int .i64 (y0)]) (.bool true)).run Tryd.prog Y = .ok () Z := hrun
      have HZ2 := Lib.hid (But1.two1 (h := b2) (g := b1) hbz)
      have HMZ := Lib.hid (hmf.congr (g := (fun d => fa d || hwl y0 (min x0 x1) (t + 1) d)) fun e => by
        unfold hwl
        rw [Bool.or_assoc]
        congr 1
        rw [Bool.eq_iff_iff, Bool.or_eq_true, decide_eq_true_iff, decide_eq_true_iff, decide_eq_true_iff, Prod.ext_iff]
        dsimp only
        omega)
      have HOZ := Lib.hid (HBY.out.keep (hbz.block _ HBY.out.lt (Ne.symm HPY.out.ne.2.2)))
      have HPZ := Lib.hid (HPY.out.but HZ2.out)
      have HCZ := Lib.hid (HZ2.out.bk HCY.out HP3.out.1 HP3.out.2)
      have HXZ := Lib.hid (HXY.out.trans HZ2.out)
      clear hrun hmf hbz hcc HPY HAY HBY HCY HXY HZ2
      go_wp2
      go_roundg (max x0 x1 - (t + 1)).toNat
      case measure => have := HG.out; omega
      case rel => exact ⟨t + 1, by go_num, by omega, by omega, rfl, HPZ.out, HMZ.out, HOZ.out, HCZ.out, HXZ.out⟩
    · have het : t = max x0 x1 := by omega
      have HP := Lib.hid HPR.out
      have HA := Lib.hid (show Mf b1 (fun d => fa d || hwl y0 (min x0 x1) (max x0 x1) d) wr from by rw [← het]; exact HAR.out)
      have HB := Lib.hid HBR.out
      have HC := Lib.hid HCR.out
      have HX := Lib.hid HXR.out
      clear HPR HAR HBR HCR HXR HG het
      go_upto_region 6 with (fail)
      clear q1 q2 q3 hlt ht1 ht2
      go_loopg [5] (max y0 y1 - min y0 y1).toNat (fun gg z wr => ∃ t : Int, z = .int .i64 t ∧ min y0 y1 ≤ t ∧ t ≤ max y0 y1 ∧ gg = (max y0 y1 - t).toNat ∧ PlQ wr b l g b1 b2 ∧ Mf b1 (fun d => fa d || hwl y0 (min x0 x1) (max x0 x1) d) wr ∧ Mf b2 (fun d => fb d || vwl x0 (min y0 y1) t d) wr ∧ Bk 156 wr p3 #[.int .i64 x0, .int .i64 y0, .int .i64 x1, .int .i64 y1] ∧ But2 b1 b2 W wr)
      case atStart => exact ⟨min y0 y1, rfl, by omega, by omega, rfl, HP.out, HA.out, HB.out.congr fun e => by
        have h0 : vwl x0 (min y0 y1) (min y0 y1) e = false := decide_eq_false fun h => by omega
        rw [h0, Bool.or_false], HC.out, HX.out⟩
      case round =>
        obtain ⟨t, rfl, ht1, ht2, hgg, hp, ha, hb, hc, hx⟩ := hrel
        have HG := Lib.hid hgg
        have HPR := Lib.hid hp
        have HAR := Lib.hid ha
        have HBR := Lib.hid hb
        have HCR := Lib.hid hc
        have HXR := Lib.hid hx
        clear hgg hp ha hb hx HP HA HB HC HX
        obtain ⟨q1, q2, q3⟩ := hc.facts
        clear hc
        by_cases hlt : t < max y0 y1
        · have hm := HPR.out.m2_
          have hq0 : p3 < wr.heap.size := q3
          have hlm : b < wr.heap.size := World.block_lt_of_cell? wr ⟨b, 4, none⟩ hm
          have hcc : IsC (x0, t) := ⟨⟨by have := HMX.out; dsimp only; omega, by have := HMX.out; dsimp only; omega⟩, ⟨by have := HMX.out; dsimp only; omega, by have := HMX.out; dsimp only; omega⟩⟩
          go_upto_region 8 with (fail)
          go_still_tail 9, (by kernel_rfl)
          have HPY := Lib.hid (HPR.out.ext (ext_drew wr))
          have HAY := Lib.hid (HAR.out.ext (ext_drew wr))
          have HBY := Lib.hid (HBR.out.ext (ext_drew wr))
          have HCY := Lib.hid (HCR.out.ext (ext_drew wr))
          have HXY := Lib.hid (HXR.out.trans (But2.of (ext_drew wr)))
          change wpList _ _ _ _ _ wr.drew
          obtain ⟨Y, hY⟩ : ∃ Y, Y = wr.drew := ⟨_, rfl⟩
          rw [← hY] at HPY HAY HBY HCY HXY ⊢
          clear hY q1 q2 q3 hm hq0 hlm HPR HAR HBR HCR HXR
          obtain ⟨Z, hrun, hmf, hbz⟩ := HBY.out.store (c := (x0, t)) hcc
          have hrun' : (Instr.mapUpdate 73 (.map (some b2)) (.agg #[.int .i64 (x0), .int .i64 (t)]) (.bool true)).run Tryd.prog Y = .ok () Z := hrun
          have HZ2 := Lib.hid (But1.two2 (h := b2) (g := b1) hbz)
          have HMZ := Lib.hid (hmf.congr (g := (fun d => fb d || vwl x0 (min y0 y1) (t + 1) d)) fun e => by
            unfold vwl
            rw [Bool.or_assoc]
            congr 1
            rw [Bool.eq_iff_iff, Bool.or_eq_true, decide_eq_true_iff, decide_eq_true_iff, decide_eq_true_iff, Prod.ext_iff]
            dsimp only
            omega)
          have HOZ := Lib.hid (HAY.out.keep (hbz.block _ HAY.out.lt HPY.out.ne.2.2))
          have HPZ := Lib.hid (HPY.out.but HZ2.out)
          have HCZ := Lib.hid (HZ2.out.bk HCY.out HP3.out.1 HP3.out.2)
          have HXZ := Lib.hid (HXY.out.trans HZ2.out)
          clear hrun hmf hbz hcc HPY HAY HBY HCY HXY HZ2
          go_wp2
          go_roundg (max y0 y1 - (t + 1)).toNat
          case measure => have := HG.out; omega
          case rel => exact ⟨t + 1, by go_num, by omega, by omega, rfl, HPZ.out, HOZ.out, HMZ.out, HCZ.out, HXZ.out⟩
        · have het : t = max y0 y1 := by omega
          have HAF := Lib.hid HAR.out
          have HBF := Lib.hid (show Mf b2 (fun d => fb d || vwl x0 (min y0 y1) (max y0 y1) d) wr from by rw [← het]; exact HBR.out)
          clear het
          go_wp2
          refine bodyPost_ret (v := .tuple #[]) (by simp [results, Tryd.results108, go_sem]) rfl ?_
          exact ⟨rfl, HPR.out, HAF.out, HBF.out, HXR.out⟩
end Go.Proofs.YtmgofdgbenfjmaaDoor
