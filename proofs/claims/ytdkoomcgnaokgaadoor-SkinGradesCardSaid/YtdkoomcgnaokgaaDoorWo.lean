/- Worth walked, the program's and the reference's. Conditions: each string's length is an int. -/
import Derived.Test.YtdkoomcgnaokgaaDoorGs
namespace Go.Proofs.YtdkoomcgnaokgaaDoor
open Go.RowKit

/-- the worth of the first k grades -/
def woK (l : List ByteArray) (ps : List Int) : Nat → Int
  | 0 => 0
  | k + 1 => woK l ps k + ps.getD k 0 * tlK l l.length k
def PrcOk (ps : List Int) : Prop := ∀ p ∈ ps, 0 ≤ p ∧ p ≤ 1000000
instance (ps : List Int) : Decidable (PrcOk ps) := by unfold PrcOk; infer_instance
def WoOk (l : List ByteArray) (ps : List Int) : Prop := SkOk l ∧ ps.length = 10 ∧ PrcOk ps
instance (l : List ByteArray) (ps : List Int) : Decidable (WoOk l ps) := by unfold WoOk; infer_instance
theorem woK_bd {l : List ByteArray} {ps : List Int} (hok : SkOk l) (hp : PrcOk ps) : ∀ k, 0 ≤ woK l ps k ∧ woK l ps k ≤ 2304000000 * k
  | 0 => by simp [woK]
  | k + 1 => by
    have h := woK_bd hok hp k
    have h2 := tlK_bd hok k l.length
    have h3 := hok.2.1
    have h4 : 0 ≤ ps.getD k 0 ∧ ps.getD k 0 ≤ 1000000 := by
      rw [List.getD_eq_getElem?_getD]
      by_cases hk : k < ps.length
      · rw [List.getElem?_eq_getElem hk]; exact hp _ (List.getElem_mem hk)
      · rw [List.getElem?_eq_none (by omega)]; simp
    have h5 : 0 ≤ ps.getD k 0 * tlK l l.length k := Int.mul_nonneg h4.1 h2.1
    have h6 : ps.getD k 0 * tlK l l.length k ≤ 1000000 * 2304 := Int.mul_le_mul h4.2 (by omega) h2.1 (by omega)
    unfold woK
    push_cast
    omega
/-- what Worth answers -/
def RetWo (w : World) (l : List ByteArray) (ps : List Int) (e : Ending) (w' : World) : Prop :=
  Below w.heap.size w w' ∧ e = .returned (.tuple #[.int .i64 (if WoOk l ps then woK l ps 10 else 0), .int .i64 (if WoOk l ps then 0 else 2)])
set_option maxRecDepth 100000 in
set_option maxHeartbeats 4000000 in
theorem worth_any (A : Option Addr) (cap : Nat) (l : List ByteArray) (C : Option Addr) (cc : Nat) (ps : List Int) (w : World) (hc : l.length ≤ cap) (hcm : cap ≤ 9223372036854775807) (h : TSl w A l) (hz : TSz l) (hcc : ps.length ≤ cc) (hcc2 : cc ≤ 9223372036854775807) (hp : ISl w C ps) :
    Calls Tryd.prog 23 #[.slice A l.length cap, .slice C ps.length cc] w (RetWo w l ps) := by
  have HG := Lib.hid (grades_any A cap l w hc hcm h hz)
  have HP := Lib.hid hp
  clear h hz hp
  by_cases hok : SkOk l
  · have HG2 := Lib.hid (HG.out.mono (R' := fun e w' => Below w.heap.size w w' ∧ ∃ g, e = .returned (.tuple #[.slice (some ⟨g, 0, none⟩) 10 10, .int .i64 0]) ∧ w.heap.size ≤ g ∧ ∃ T, Ow T g 10 (tlK l l.length) w') fun e w' hr => by
      obtain ⟨hb, ⟨hn, _⟩ | ⟨_, hg⟩⟩ := hr
      · exact absurd hok hn
      · exact ⟨hb, hg⟩)
    have HOK := Lib.hid hok
    clear hok HG
    by_cases h10 : ps.length = 10
    · by_cases hpr : PrcOk ps
      · have HW := Lib.hid (show WoOk l ps from ⟨HOK.out, h10, hpr⟩)
        have HPR := Lib.hid hpr
        have HBD := Lib.hid (fun k => woK_bd HOK.out hpr k)
        have h10b : ((ps.length : Int) != 10) = false := by simp [h10]
        have h10c : (ps.length : Int) = 10 := by omega
        have H10 := Lib.hid h10
        clear hpr h10
        go_enter Tryd.func23, Tryd.ntmps23
        go_upto_region 4 with (go_at_call 21; refine (HG2.out).mono ?_; rintro e w1 ⟨hb1, g, rfl, hgw, T, ho⟩)
        have HB1 := Lib.hid hb1
        have HO := Lib.hid ho
        clear hb1 ho h10b
        go_wp2
        go_loopg [27, 8] 10 (fun gg i z wr => ∃ k : Nat, i = .int .i64 k ∧ z = .int .i64 (woK l ps k) ∧ k ≤ 10 ∧ gg = 10 - k ∧ wr = w1)
        case atStart => exact ⟨0, rfl, rfl, by omega, by omega, rfl⟩
        case round =>
          obtain ⟨k, rfl, rfl, hk, hg, rfl⟩ := hrel
          have HGG := Lib.hid hg
          have hbk := HBD.out k
          obtain ⟨sv, hsv⟩ : ∃ sv, sv = woK l ps k := ⟨_, rfl⟩
          have HSV := Lib.hid hsv
          rw [← hsv] at hbk
          rw [← hsv]
          obtain ⟨hb1, hb2⟩ := hbk
          have hb3 : sv ≤ 23040000000 := by omega
          clear hg hsv
          by_cases hlt : k < 10
          · have hlp : k < ps.length := by have := H10.out; omega
            have hki : (k : Int) < 10 := by omega
            rcases HP.out with h0 | ⟨b, off, rfl, hblt, hcl⟩
            · rw [h0] at hlp; simp at hlp
            · have c1 := (HB1.out.cell (p := ⟨b, off + k, none⟩) hblt).trans (hcl k hlp)
              have hb4 := Nat.lt_of_lt_of_le hblt HB1.out.size
              have hpk := HPR.out _ (List.getElem_mem hlp)
              have HGD := Lib.hid (show ps.getD k 0 = ps[k] from by rw [List.getD_eq_getElem?_getD, List.getElem?_eq_getElem hlp]; rfl)
              obtain ⟨pv, hpv⟩ : ∃ pv, pv = ps[k] := ⟨_, rfl⟩
              rw [← hpv] at c1 hpk HGD
              obtain ⟨p1, p2⟩ := hpk
              have q1 := HO.out.cell hlt
              have q2 := HO.out.lt
              have htb := tlK_bd HOK.out k l.length
              have hl48 := HOK.out.2.1
              obtain ⟨tv, htv⟩ : ∃ tv, tv = tlK l l.length k := ⟨_, rfl⟩
              have HTV := Lib.hid htv
              rw [← htv] at q1 htb
              have t1 : 0 ≤ tv := htb.1
              have t2 : tv ≤ 2304 := by omega
              have m1 : 0 ≤ pv * tv := Int.mul_nonneg p1 t1
              have m2 : pv * tv ≤ 1000000 * 2304 := Int.mul_le_mul p2 t2 t1 (by omega)
              have m3 : IntKind.i64.wrap (pv * tv) = pv * tv := IntWalk.i64_in _ ⟨by omega, by omega⟩
              have m4 : IntKind.i64.wrap (sv + pv * tv) = sv + pv * tv := IntWalk.i64_in _ ⟨by omega, by omega⟩
              clear hcl hpv htb htv
              go_wp2
              go_roundg (10 - (k + 1))
              case measure => have := HGG.out; omega
              case rel => exact ⟨k + 1, by go_num, by rw [show woK l ps (k + 1) = woK l ps k + ps.getD k 0 * tlK l l.length k from rfl, HGD.out, ← HSV.out, ← HTV.out], by omega, rfl, rfl⟩
          · obtain rfl : k = 10 := by omega
            go_wp2
            refine bodyPost_ret (v := .tuple #[.int .i64 sv, .int .i64 0]) (by simp [results, Tryd.results23, go_sem]) rfl ?_
            exact ⟨HB1.out, by rw [if_pos HW.out, if_pos HW.out, ← HSV.out]⟩
      · have HW := Lib.hid (show ¬ WoOk l ps from fun h => hpr h.2.2)
        have h10b : ((ps.length : Int) != 10) = false := by simp [h10]
        have h10c : (ps.length : Int) = 10 := by omega
        have H10 := Lib.hid h10
        have HPN := Lib.hid hpr
        clear hpr h10
        go_enter Tryd.func23, Tryd.ntmps23
        go_upto_region 4 with (go_at_call 21; refine (HG2.out).mono ?_; rintro e w1 ⟨hb1, g, rfl, hgw, T, ho⟩)
        have HB1 := Lib.hid hb1
        have HO := Lib.hid ho
        clear hb1 ho h10b
        go_wp2
        go_loopg [27, 8] 10 (fun gg i z wr => ∃ (k : Nat) (sv : Int), i = .int .i64 k ∧ z = .int .i64 sv ∧ k ≤ 10 ∧ gg = 10 - k ∧ wr = w1 ∧ 0 ≤ sv ∧ sv ≤ 2304000000 * k ∧ ∀ j (hj : j < ps.length), j < k → 0 ≤ ps[j] ∧ ps[j] ≤ 1000000)
        case atStart => exact ⟨0, 0, rfl, rfl, by omega, by omega, rfl, by omega, by omega, fun j _ h => by omega⟩
        case round =>
          obtain ⟨k, sv, rfl, rfl, hk, hg, rfl, hb1, hb2, ha⟩ := hrel
          have HGG := Lib.hid hg
          have HA := Lib.hid ha
          have hb3 : sv ≤ 23040000000 := by omega
          clear hg ha
          by_cases hlt : k < 10
          · have hlp : k < ps.length := by have := H10.out; omega
            have hki : (k : Int) < 10 := by omega
            rcases HP.out with h0 | ⟨b, off, rfl, hblt, hcl⟩
            · rw [h0] at hlp; simp at hlp
            · have c1 := (HB1.out.cell (p := ⟨b, off + k, none⟩) hblt).trans (hcl k hlp)
              have hb4 := Nat.lt_of_lt_of_le hblt HB1.out.size
              obtain ⟨pv, hpv⟩ : ∃ pv, pv = ps[k] := ⟨_, rfl⟩
              have HPV := Lib.hid hpv
              rw [← hpv] at c1
              have q1 := HO.out.cell hlt
              have q2 := HO.out.lt
              have htb := tlK_bd HOK.out k l.length
              have hl48 := HOK.out.2.1
              obtain ⟨tv, htv⟩ : ∃ tv, tv = tlK l l.length k := ⟨_, rfl⟩
              rw [← htv] at q1 htb
              have t1 : 0 ≤ tv := htb.1
              have t2 : tv ≤ 2304 := by omega
              clear hcl hpv htb htv
              by_cases p1 : pv < 0
              · go_wp2
                refine bodyPost_ret (v := .tuple #[.int .i64 0, .int .i64 2]) (by simp [results, Tryd.results23, go_sem]) rfl ?_
                exact ⟨HB1.out, by rw [if_neg HW.out, if_neg HW.out]⟩
              · by_cases p2 : 1000000 < pv
                · go_wp2
                  refine bodyPost_ret (v := .tuple #[.int .i64 0, .int .i64 2]) (by simp [results, Tryd.results23, go_sem]) rfl ?_
                  exact ⟨HB1.out, by rw [if_neg HW.out, if_neg HW.out]⟩
                · have p3 : 0 ≤ pv := by omega
                  have p4 : pv ≤ 1000000 := by omega
                  have m1 : 0 ≤ pv * tv := Int.mul_nonneg p3 t1
                  have m2 : pv * tv ≤ 1000000 * 2304 := Int.mul_le_mul p4 t2 t1 (by omega)
                  have m3 : IntKind.i64.wrap (pv * tv) = pv * tv := IntWalk.i64_in _ ⟨by omega, by omega⟩
                  have m4 : IntKind.i64.wrap (sv + pv * tv) = sv + pv * tv := IntWalk.i64_in _ ⟨by omega, by omega⟩
                  go_wp2
                  go_roundg (10 - (k + 1))
                  case measure => have := HGG.out; omega
                  case rel => exact ⟨k + 1, sv + pv * tv, by go_num, rfl, by omega, rfl, rfl, by omega, by push_cast; omega, fun j hj h => by
                    by_cases e : j = k
                    · subst e; rw [← HPV.out]; exact ⟨p3, p4⟩
                    · exact HA.out j hj (by omega)⟩
          · exact absurd (show PrcOk ps from fun p hp => by
              obtain ⟨j, hj, rfl⟩ := List.getElem_of_mem hp
              exact HA.out j hj (by have := H10.out; omega)) HPN.out
    · have HW := Lib.hid (show ¬ WoOk l ps from fun h => h10 h.2.1)
      have h10b : ((ps.length : Int) != 10) = true := by simp; omega
      clear h10
      go_enter Tryd.func23, Tryd.ntmps23
      go_wp2_with (go_at_call 21; refine (HG2.out).mono ?_; rintro e w1 ⟨hb1, g, rfl, hgw, T, ho⟩)
      refine bodyPost_ret (v := .tuple #[.int .i64 0, .int .i64 2]) (by simp [results, Tryd.results23, go_sem]) rfl ?_
      exact ⟨hb1, by rw [if_neg HW.out, if_neg HW.out]⟩
  · have HG2 := Lib.hid (HG.out.mono (R' := fun e w' => Below w.heap.size w w' ∧ e = .returned (.tuple #[.slice none 0 0, .int .i64 2])) fun e w' hr => by
      obtain ⟨hb, ⟨_, he⟩ | ⟨hn, _⟩⟩ := hr
      · exact ⟨hb, he⟩
      · exact absurd hn hok)
    have HW := Lib.hid (show ¬ WoOk l ps from fun h => hok h.1)
    clear hok HG
    go_enter Tryd.func23, Tryd.ntmps23
    go_wp2_with (go_at_call 21; refine (HG2.out).mono ?_; rintro e w1 ⟨hb1, rfl⟩)
    refine bodyPost_ret (v := .tuple #[.int .i64 0, .int .i64 2]) (by simp [results, Tryd.results23, go_sem]) rfl ?_
    exact ⟨hb1, by rw [if_neg HW.out, if_neg HW.out]⟩
set_option maxRecDepth 100000 in
set_option maxHeartbeats 4000000 in
theorem rworth_any (A : Option Addr) (cap : Nat) (l : List ByteArray) (C : Option Addr) (cc : Nat) (ps : List Int) (w : World) (hc : l.length ≤ cap) (hcm : cap ≤ 9223372036854775807) (h : TSl w A l) (hz : TSz l) (hcc : ps.length ≤ cc) (hcc2 : cc ≤ 9223372036854775807) (hp : ISl w C ps) :
    Calls Tryd.prog 24 #[.slice A l.length cap, .slice C ps.length cc] w (RetWo w l ps) := by
  have HG := Lib.hid (rgrades_any A cap l w hc hcm h hz)
  have HP := Lib.hid hp
  clear h hz hp
  by_cases hok : SkOk l
  · have HG2 := Lib.hid (HG.out.mono (R' := fun e w' => Below w.heap.size w w' ∧ ∃ g, e = .returned (.tuple #[.slice (some ⟨g, 0, none⟩) 10 10, .int .i64 0]) ∧ w.heap.size ≤ g ∧ ∃ T, Ow T g 10 (tlK l l.length) w') fun e w' hr => by
      obtain ⟨hb, ⟨hn, _⟩ | ⟨_, hg⟩⟩ := hr
      · exact absurd hok hn
      · exact ⟨hb, hg⟩)
    have HOK := Lib.hid hok
    clear hok HG
    by_cases h10 : ps.length = 10
    · by_cases hpr : PrcOk ps
      · have HW := Lib.hid (show WoOk l ps from ⟨HOK.out, h10, hpr⟩)
        have HPR := Lib.hid hpr
        have HBD := Lib.hid (fun k => woK_bd HOK.out hpr k)
        have h10b : ((ps.length : Int) != 10) = false := by simp [h10]
        have h10c : (ps.length : Int) = 10 := by omega
        have H10 := Lib.hid h10
        clear hpr h10
        go_enter Tryd.func24, Tryd.ntmps24
        go_upto_region 4 with (go_at_call 22; refine (HG2.out).mono ?_; rintro e w1 ⟨hb1, g, rfl, hgw, T, ho⟩)
        have HB1 := Lib.hid hb1
        have HO := Lib.hid ho
        clear hb1 ho h10b
        go_wp2
        go_loopg [25, 8] 10 (fun gg i z wr => ∃ k : Nat, i = .int .i64 k ∧ z = .int .i64 (woK l ps k) ∧ k ≤ 10 ∧ gg = 10 - k ∧ wr = w1)
        case atStart => exact ⟨0, rfl, rfl, by omega, by omega, rfl⟩
        case round =>
          obtain ⟨k, rfl, rfl, hk, hg, rfl⟩ := hrel
          have HGG := Lib.hid hg
          have hbk := HBD.out k
          obtain ⟨sv, hsv⟩ : ∃ sv, sv = woK l ps k := ⟨_, rfl⟩
          have HSV := Lib.hid hsv
          rw [← hsv] at hbk
          rw [← hsv]
          obtain ⟨hb1, hb2⟩ := hbk
          have hb3 : sv ≤ 23040000000 := by omega
          clear hg hsv
          by_cases hlt : k < 10
          · have hlp : k < ps.length := by have := H10.out; omega
            have hki : (k : Int) < 10 := by omega
            rcases HP.out with h0 | ⟨b, off, rfl, hblt, hcl⟩
            · rw [h0] at hlp; simp at hlp
            · have c1 := (HB1.out.cell (p := ⟨b, off + k, none⟩) hblt).trans (hcl k hlp)
              have hb4 := Nat.lt_of_lt_of_le hblt HB1.out.size
              have hpk := HPR.out _ (List.getElem_mem hlp)
              have HGD := Lib.hid (show ps.getD k 0 = ps[k] from by rw [List.getD_eq_getElem?_getD, List.getElem?_eq_getElem hlp]; rfl)
              obtain ⟨pv, hpv⟩ : ∃ pv, pv = ps[k] := ⟨_, rfl⟩
              rw [← hpv] at c1 hpk HGD
              obtain ⟨p1, p2⟩ := hpk
              have q1 := HO.out.cell hlt
              have q2 := HO.out.lt
              have htb := tlK_bd HOK.out k l.length
              have hl48 := HOK.out.2.1
              obtain ⟨tv, htv⟩ : ∃ tv, tv = tlK l l.length k := ⟨_, rfl⟩
              have HTV := Lib.hid htv
              rw [← htv] at q1 htb
              have t1 : 0 ≤ tv := htb.1
              have t2 : tv ≤ 2304 := by omega
              have m1 : 0 ≤ pv * tv := Int.mul_nonneg p1 t1
              have m2 : pv * tv ≤ 1000000 * 2304 := Int.mul_le_mul p2 t2 t1 (by omega)
              have m3 : IntKind.i64.wrap (pv * tv) = pv * tv := IntWalk.i64_in _ ⟨by omega, by omega⟩
              have m4 : IntKind.i64.wrap (sv + pv * tv) = sv + pv * tv := IntWalk.i64_in _ ⟨by omega, by omega⟩
              clear hcl hpv htb htv
              go_wp2
              go_roundg (10 - (k + 1))
              case measure => have := HGG.out; omega
              case rel => exact ⟨k + 1, by go_num, by rw [show woK l ps (k + 1) = woK l ps k + ps.getD k 0 * tlK l l.length k from rfl, HGD.out, ← HSV.out, ← HTV.out], by omega, rfl, rfl⟩
          · obtain rfl : k = 10 := by omega
            go_wp2
            refine bodyPost_ret (v := .tuple #[.int .i64 sv, .int .i64 0]) (by simp [results, Tryd.results24, go_sem]) rfl ?_
            exact ⟨HB1.out, by rw [if_pos HW.out, if_pos HW.out, ← HSV.out]⟩
      · have HW := Lib.hid (show ¬ WoOk l ps from fun h => hpr h.2.2)
        have h10b : ((ps.length : Int) != 10) = false := by simp [h10]
        have h10c : (ps.length : Int) = 10 := by omega
        have H10 := Lib.hid h10
        have HPN := Lib.hid hpr
        clear hpr h10
        go_enter Tryd.func24, Tryd.ntmps24
        go_upto_region 4 with (go_at_call 22; refine (HG2.out).mono ?_; rintro e w1 ⟨hb1, g, rfl, hgw, T, ho⟩)
        have HB1 := Lib.hid hb1
        have HO := Lib.hid ho
        clear hb1 ho h10b
        go_wp2
        go_loopg [25, 8] 10 (fun gg i z wr => ∃ (k : Nat) (sv : Int), i = .int .i64 k ∧ z = .int .i64 sv ∧ k ≤ 10 ∧ gg = 10 - k ∧ wr = w1 ∧ 0 ≤ sv ∧ sv ≤ 2304000000 * k ∧ ∀ j (hj : j < ps.length), j < k → 0 ≤ ps[j] ∧ ps[j] ≤ 1000000)
        case atStart => exact ⟨0, 0, rfl, rfl, by omega, by omega, rfl, by omega, by omega, fun j _ h => by omega⟩
        case round =>
          obtain ⟨k, sv, rfl, rfl, hk, hg, rfl, hb1, hb2, ha⟩ := hrel
          have HGG := Lib.hid hg
          have HA := Lib.hid ha
          have hb3 : sv ≤ 23040000000 := by omega
          clear hg ha
          by_cases hlt : k < 10
          · have hlp : k < ps.length := by have := H10.out; omega
            have hki : (k : Int) < 10 := by omega
            rcases HP.out with h0 | ⟨b, off, rfl, hblt, hcl⟩
            · rw [h0] at hlp; simp at hlp
            · have c1 := (HB1.out.cell (p := ⟨b, off + k, none⟩) hblt).trans (hcl k hlp)
              have hb4 := Nat.lt_of_lt_of_le hblt HB1.out.size
              obtain ⟨pv, hpv⟩ : ∃ pv, pv = ps[k] := ⟨_, rfl⟩
              have HPV := Lib.hid hpv
              rw [← hpv] at c1
              have q1 := HO.out.cell hlt
              have q2 := HO.out.lt
              have htb := tlK_bd HOK.out k l.length
              have hl48 := HOK.out.2.1
              obtain ⟨tv, htv⟩ : ∃ tv, tv = tlK l l.length k := ⟨_, rfl⟩
              rw [← htv] at q1 htb
              have t1 : 0 ≤ tv := htb.1
              have t2 : tv ≤ 2304 := by omega
              clear hcl hpv htb htv
              by_cases p1 : pv < 0
              · go_wp2
                refine bodyPost_ret (v := .tuple #[.int .i64 0, .int .i64 2]) (by simp [results, Tryd.results24, go_sem]) rfl ?_
                exact ⟨HB1.out, by rw [if_neg HW.out, if_neg HW.out]⟩
              · by_cases p2 : 1000000 < pv
                · go_wp2
                  refine bodyPost_ret (v := .tuple #[.int .i64 0, .int .i64 2]) (by simp [results, Tryd.results24, go_sem]) rfl ?_
                  exact ⟨HB1.out, by rw [if_neg HW.out, if_neg HW.out]⟩
                · have p3 : 0 ≤ pv := by omega
                  have p4 : pv ≤ 1000000 := by omega
                  have m1 : 0 ≤ pv * tv := Int.mul_nonneg p3 t1
                  have m2 : pv * tv ≤ 1000000 * 2304 := Int.mul_le_mul p4 t2 t1 (by omega)
                  have m3 : IntKind.i64.wrap (pv * tv) = pv * tv := IntWalk.i64_in _ ⟨by omega, by omega⟩
                  have m4 : IntKind.i64.wrap (sv + pv * tv) = sv + pv * tv := IntWalk.i64_in _ ⟨by omega, by omega⟩
                  go_wp2
                  go_roundg (10 - (k + 1))
                  case measure => have := HGG.out; omega
                  case rel => exact ⟨k + 1, sv + pv * tv, by go_num, rfl, by omega, rfl, rfl, by omega, by push_cast; omega, fun j hj h => by
                    by_cases e : j = k
                    · subst e; rw [← HPV.out]; exact ⟨p3, p4⟩
                    · exact HA.out j hj (by omega)⟩
          · exact absurd (show PrcOk ps from fun p hp => by
              obtain ⟨j, hj, rfl⟩ := List.getElem_of_mem hp
              exact HA.out j hj (by have := H10.out; omega)) HPN.out
    · have HW := Lib.hid (show ¬ WoOk l ps from fun h => h10 h.2.1)
      have h10b : ((ps.length : Int) != 10) = true := by simp; omega
      clear h10
      go_enter Tryd.func24, Tryd.ntmps24
      go_wp2_with (go_at_call 22; refine (HG2.out).mono ?_; rintro e w1 ⟨hb1, g, rfl, hgw, T, ho⟩)
      refine bodyPost_ret (v := .tuple #[.int .i64 0, .int .i64 2]) (by simp [results, Tryd.results24, go_sem]) rfl ?_
      exact ⟨hb1, by rw [if_neg HW.out, if_neg HW.out]⟩
  · have HG2 := Lib.hid (HG.out.mono (R' := fun e w' => Below w.heap.size w w' ∧ e = .returned (.tuple #[.slice none 0 0, .int .i64 2])) fun e w' hr => by
      obtain ⟨hb, ⟨_, he⟩ | ⟨hn, _⟩⟩ := hr
      · exact ⟨hb, he⟩
      · exact absurd hn hok)
    have HW := Lib.hid (show ¬ WoOk l ps from fun h => hok h.1)
    clear hok HG
    go_enter Tryd.func24, Tryd.ntmps24
    go_wp2_with (go_at_call 22; refine (HG2.out).mono ?_; rintro e w1 ⟨hb1, rfl⟩)
    refine bodyPost_ret (v := .tuple #[.int .i64 0, .int .i64 2]) (by simp [results, Tryd.results24, go_sem]) rfl ?_
    exact ⟨hb1, by rw [if_neg HW.out, if_neg HW.out]⟩
end Go.Proofs.YtdkoomcgnaokgaaDoor
