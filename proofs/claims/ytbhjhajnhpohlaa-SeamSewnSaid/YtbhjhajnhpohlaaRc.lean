/- The reference's classes walked. Conditions: a valid graph. -/
import Derived.Test.YtbhjhajnhpohlaaCl
import Derived.Test.YtbhjhajnhpohlaaClQ
import Derived.Test.YtbhjhajnhpohlaaOr
namespace Go.Proofs.Ytbhjhajnhpohlaa
open Go.RowKit

/-- the seams of a thread (-1: all) but one -/
def chB (l : List Sm) (t but : Int) (k : Nat) : Bool := decide ((k : Int) ≠ but) && (match l[k]? with | some s => chR t s | none => false)
theorem rf1_at {ch : Nat → Bool} {l : List Sm} {f : Nat → Int} {q : Nat} (h : q < l.length) {s : Sm} (hs : s = l[q]) {ja jb : Nat} (ha : s.a = ja) (hb : s.b = jb) :
    rf1 ch l f q = if ch q then upd (upd f ja (min (f ja) (f jb))) jb (min (f ja) (f jb)) else f := by
  unfold rf1
  rw [List.getElem?_eq_getElem h, ← hs]
  dsimp only
  rw [ha, hb, Int.toNat_natCast, Int.toNat_natCast]
theorem upd_same2 (f : Nat → Int) (a b : Nat) (v : Int) : upd (upd f a v) b v = upd (upd f b v) a v := by
  funext k
  unfold upd
  split <;> split <;> rfl
/-- the reference's own memory -/
def RcS (w : World) (N : Int) (A : Option Addr) (m cap n : Nat) (d : Nat → Int) (wr : World) : Prop :=
  Below w.heap.size w wr ∧ Bk 24 wr w.heap.size #[.int .i64 N, .slice A m cap] ∧ Ow 3 (w.heap.size + 1) n d wr
section
variable {w : World} {N : Int} {A : Option Addr} {m cap n : Nat} {d : Nat → Int} {wr w' : World}
theorem RcS.ext (h : RcS w N A m cap n d wr) (hb : Below wr.heap.size wr w') : RcS w N A m cap n d w' := ⟨bext h.1 hb h.1.size, h.2.1.ext hb, h.2.2.ext hb⟩
theorem RcS.set (h : RcS w N A m cap n d wr) (i : Nat) (x : Int) : RcS w N A m cap n (upd d i x) (wr.setCell ⟨w.heap.size + 1, i, none⟩ (.int .i64 x)) :=
  ⟨h.1.setCell (by show w.heap.size ≤ w.heap.size + 1; omega) _, h.2.1.set_ne (by omega) _, h.2.2.set i x⟩
theorem RcS.start (w : World) (N : Int) (A : Option Addr) (m cap n : Nat) : RcS w N A m cap n (fun _ => 0) ((w.alloc (.cells #[.int .i64 N, .slice A m cap] 24)).alloc (.cells (cellsOf n fun _ => 0) 3)) := by
  have h2 := Ow.new 3 (w.alloc (.cells #[.int .i64 N, .slice A m cap] 24)) n (fun _ => 0)
  simp only [World.size_alloc] at h2
  exact ⟨((Below.refl _ _).alloc (Nat.le_refl _) _).alloc (by simp) _, (Bk.new _ w _).alloc _, h2⟩
end

set_option maxRecDepth 100000 in
set_option maxHeartbeats 4000000 in
theorem rclasses_any (n : Nat) (A : Option Addr) (cap : Nat) (l : List Sm) (t but : Int) (w : World) (hok : GOk n l) (_hc : l.length ≤ cap) (_hcm : cap ≤ 9223372036854775807) (h : SSl w A l) :
    Calls Try.prog 76 #[.agg #[.int .i64 (n : Int), .slice A l.length cap], .int .i64 t, .int .i64 but] w fun e w' => ∃ b, e = .returned (.slice (some ⟨b, 0, none⟩) n n) ∧ Ow 3 b n (cls (chB l t but) l l.length) w' ∧ w.heap.size ≤ b ∧ Below w.heap.size w w' := by
  have H := Lib.hid h
  have HOK := Lib.hid hok
  have HS0 := Lib.hid (RcS.start w n A l.length cap n)
  have l64 := hok.2.2.1
  have n1 : 1 ≤ n := by have := hok.1; omega
  have n2 : n ≤ 16 := by have := hok.2.1; omega
  have hmk := run_zeros n (by omega)
  clear h hok
  go_enter Try.func76, Try.ntmps76
  go_wp2
  go_loopg [17] n (fun g i wr => ∃ k : Nat, i = .int .i64 k ∧ k ≤ n ∧ g = n - k ∧ RcS w n A l.length cap n (pin (fun _ => 0) (fun j => j) k) wr)
  case atStart => exact ⟨0, rfl, by omega, by omega, by rw [pin_zero]; exact HS0.out⟩
  case round =>
    obtain ⟨k, rfl, hk, hg, hs⟩ := hrel
    have HG := Lib.hid hg
    have HS := Lib.hid hs
    obtain ⟨f1, f2, f3⟩ := hs.2.1.facts
    have hb := hs.1
    clear hg hs HS0
    by_cases hlt : k < n
    · have q1 := HS.out.2.2.cell hlt
      have q2 := HS.out.2.2.frozen k
      have hset := HS.out.set k k
      rw [pin_set _ (fun j => (j : Int)) k rfl] at hset
      have HSET := Lib.hid hset
      clear hset
      go_wp2
      go_roundg (n - (k + 1))
      case measure => have := HG.out; omega
      case rel => exact ⟨k + 1, by go_num, by omega, rfl, HSET.out⟩
    · obtain rfl : k = n := by omega
      have HS1 := Lib.hid (show RcS w k A l.length cap k (rfR (chB l t but) l 0) wr from ⟨HS.out.1, HS.out.2.1, HS.out.2.2.congr (fun i hi => by unfold pin; rw [if_pos hi]; rfl)⟩)
      clear HS hmk HG
      obtain ⟨n, rfl⟩ : ∃ n, n = k := ⟨_, rfl⟩
      go_wp2
      go_loopg [27] n (fun g i wr => ∃ r : Nat, i = .int .i64 r ∧ r ≤ n ∧ g = n - r ∧ RcS w n A l.length cap n (rfR (chB l t but) l r) wr)
      case atStart => exact ⟨0, rfl, by omega, by omega, HS1.out⟩
      case round =>
        obtain ⟨r, rfl, hr, hg, hs⟩ := hrel
        have HGr := Lib.hid hg
        have HSr := Lib.hid hs
        obtain ⟨f1, f2, f3⟩ := hs.2.1.facts
        clear hg hs HS1
        by_cases hlr : r < n
        · have HNr := Lib.hid (show rfR (chB l t but) l (r + 1) = rfQ (chB l t but) l (rfR (chB l t but) l r) l.length from rfl)
          have hri := rfR_inv (n := n) (c := cls (chB l t but) l l.length) (fun s hs => HOK.out.2.2.2 s hs) (cls_inv (chB l t but) l n (fun s hs => HOK.out.2.2.2 s hs) l.length (Nat.le_refl _)) r
          have HRI := Lib.hid (fun q => rfQ_inv (fun s hs => HOK.out.2.2.2 s hs) (cls_inv (chB l t but) l n (fun s hs => HOK.out.2.2.2 s hs) l.length (Nat.le_refl _)) hri q)
          clear hri
          obtain ⟨fr, hfr⟩ : ∃ fr, fr = rfR (chB l t but) l r := ⟨_, rfl⟩
          rw [← hfr] at HSr HNr HRI
          clear hfr
          go_wp2
          go_loopg [32] l.length (fun g i wr => ∃ q : Nat, i = .int .i64 q ∧ q ≤ l.length ∧ g = l.length - q ∧ RcS w n A l.length cap n (rfQ (chB l t but) l fr q) wr)
          case atStart => exact ⟨0, rfl, by omega, by omega, HSr.out⟩
          case round =>
            obtain ⟨q, rfl, hq, hg, hs⟩ := hrel
            have HGq := Lib.hid hg
            have HSq := Lib.hid hs
            obtain ⟨f1, f2, f3⟩ := hs.2.1.facts
            have hb := hs.1
            clear hg hs HSr
            by_cases hlq : q < l.length
            · have hf := H.out.ext hb
              rcases hf with hf | ⟨b, off, rfl, hblt, hcl⟩
              · rw [hf] at hlq; simp at hlq
              · obtain ⟨c1, c2, c3, c4⟩ := hcl q hlq
                have hso := HOK.out.2.2.2 _ (List.getElem_mem hlq)
                obtain ⟨s, hs⟩ : ∃ s, s = l[q] := ⟨_, rfl⟩
                have hch : chB l t but q = (decide ((q : Int) ≠ but) && chR t s) := by unfold chB; rw [List.getElem?_eq_getElem hlq, ← hs]
                rw [← hs] at c1 c2 c3 c4 hso
                have HSK := Lib.hid hs
                obtain ⟨a, b', m, t'⟩ := s
                dsimp only at c1 c2 c3 c4
                obtain ⟨o1, o2, o3, o4, -, -, -, -⟩ := hso
                dsimp only at o1 o2 o3 o4
                obtain ⟨ja, rfl⟩ := Int.eq_ofNat_of_zero_le o1
                obtain ⟨jb, rfl⟩ := Int.eq_ofNat_of_zero_le o3
                have HN := Lib.hid (show rfQ (chB l t but) l fr (q + 1) = _ from rf1_at (ch := chB l t but) (f := rfQ (chB l t but) l fr q) hlq HSK.out rfl rfl)
                have HCH := Lib.hid hch
                have HS1 := Lib.hid (HSq.out.ext (ext_alloc wr (.cells #[.int .i64 (ja : Int), .int .i64 (jb : Int), .int .i64 m, .int .i64 t'] 69)))
                have HB1 := Lib.hid (Bk.new 69 wr #[.int .i64 (ja : Int), .int .i64 (jb : Int), .int .i64 m, .int .i64 t'])
                have hlo : w.heap.size + 1 < wr.heap.size := HSq.out.2.2.lt
                clear hs hcl hch
                go_upto_region 12 with (fail)
                go_cut [49] (fun z wx => z = .bool (chB l t but q) ∧ wx = wr.alloc (.cells #[.int .i64 (ja : Int), .int .i64 (jb : Int), .int .i64 m, .int .i64 t'] 69))
                case first =>
                  have HCB := Lib.hid (show ∀ x, (decide ((q : Int) ≠ but) && chR t ⟨ja, jb, m, t'⟩) = x → chB l t but q = x from fun x hx => HCH.out.trans hx)
                  by_cases hqb : (q : Int) = but
                  · have e1 : ((q : Int) != but) = false := by simpa using hqb
                    have HV := Lib.hid (HCB.out false (by rw [decide_eq_false (fun h => h hqb)]; rfl))
                    clear hqb
                    go_wp2
                    go_meet
                    exact ⟨by rw [HV.out], rfl⟩
                  · have e1 : ((q : Int) != but) = true := by simpa using hqb
                    by_cases htn : t < 0
                    · have HV := Lib.hid (HCB.out true (by rw [decide_eq_true hqb]; unfold chR; simp; exact .inl htn))
                      clear hqb
                      go_wp2
                      go_meet
                      exact ⟨by rw [HV.out], rfl⟩
                    · by_cases htt : t' = t
                      · have e2 : (t' == t) = true := by simpa using htt
                        have HV := Lib.hid (HCB.out true (by rw [decide_eq_true hqb]; unfold chR; simp; exact .inr htt))
                        clear hqb htt
                        go_wp2
                        go_meet
                        exact ⟨by rw [HV.out], rfl⟩
                      · have e2 : (t' == t) = false := by simpa using htt
                        have HV := Lib.hid (HCB.out false (by rw [decide_eq_true hqb]; unfold chR; simp; exact ⟨by omega, htt⟩))
                        clear hqb htt
                        go_wp2
                        go_meet
                        exact ⟨by rw [HV.out], rfl⟩
                case rest =>
                  obtain ⟨rfl, rfl⟩ := hcut
                  cases hcq : chB l t but q
                  · have HQ := Lib.hid (show RcS w n (some ⟨b, off, none⟩) l.length cap n (rfQ (chB l t but) l fr (q + 1)) _ from by rw [HN.out, hcq]; exact HS1.out)
                    clear hcq
                    go_wp2
                    go_roundg (l.length - (q + 1))
                    case measure => have := HGq.out; omega
                    case rel => exact ⟨q + 1, by go_num, by omega, rfl, HQ.out⟩
                  · have hn := HN.out
                    rw [hcq, if_pos rfl] at hn
                    have HN3 := Lib.hid hn
                    obtain ⟨e1, e2, e3⟩ := HB1.out.facts
                    have q1 := HS1.out.2.2.cell (i := ja) (by omega)
                    have q2 := HS1.out.2.2.cell (i := jb) (by omega)
                    have q3 := HS1.out.2.2.frozen ja
                    have q4 := HS1.out.2.2.frozen jb
                    have q5 := HS1.out.2.2.lt
                    have ra := (HRI.out q).1 ja (by omega)
                    have rb := (HRI.out q).1 jb (by omega)
                    clear hcq hn HN
                    obtain ⟨f, hf⟩ : ∃ f, f = rfQ (chB l t but) l fr q := ⟨_, rfl⟩
                    rw [← hf] at HN3 HS1 q1 q2 ra rb HSq
                    obtain ⟨-, -, ra, -⟩ := ra
                    obtain ⟨-, -, rb, -⟩ := rb
                    clear hf
                    obtain ⟨x, hx⟩ : ∃ x, x = f ja := ⟨_, rfl⟩
                    obtain ⟨y, hy⟩ : ∃ y, y = f jb := ⟨_, rfl⟩
                    rw [← hx] at q1 HN3
                    rw [← hy] at q2 HN3
                    have HXY := Lib.hid (show ja = jb → x = y from fun h => by rw [hx, hy, h])
                    clear hx hy
                    obtain ⟨v, hv⟩ : ∃ v, v = min x y := ⟨_, rfl⟩
                    rw [← hv] at HN3
                    have HQ := Lib.hid (show ∀ W, RcS w n (some ⟨b, off, none⟩) l.length cap n (upd (upd f ja v) jb v) W → RcS w n (some ⟨b, off, none⟩) l.length cap n (rfQ (chB l t but) l fr (q + 1)) W from fun W h => by rw [HN3.out]; exact h)
                    have HQ1 := Lib.hid (show ∀ W, RcS w n (some ⟨b, off, none⟩) l.length cap n f W → RcS w n (some ⟨b, off, none⟩) l.length cap n (rfQ (chB l t but) l fr (q + 1)) ((W.setCell ⟨w.heap.size + 1, ja, none⟩ (.int .i64 v)).setCell ⟨w.heap.size + 1, jb, none⟩ (.int .i64 v)) from fun W h => HQ.out _ ((h.set ja v).set jb v))
                    have HQ2 := Lib.hid (show ∀ W, RcS w n (some ⟨b, off, none⟩) l.length cap n f W → RcS w n (some ⟨b, off, none⟩) l.length cap n (rfQ (chB l t but) l fr (q + 1)) ((W.setCell ⟨w.heap.size + 1, jb, none⟩ (.int .i64 v)).setCell ⟨w.heap.size + 1, ja, none⟩ (.int .i64 v)) from fun W h => HQ.out _ (by rw [upd_same2]; exact (h.set jb v).set ja v))
                    have hcase : (x ≤ y ∧ v = x) ∨ (y < x ∧ v = y) := by omega
                    clear hv HN3
                    by_cases hab : ja = jb
                    · have hxy := HXY.out hab
                      subst hab
                      subst hxy
                      obtain rfl : v = x := by omega
                      clear hcase
                      go_wp2
                      go_quiet (fail)
                      rename_i nq
                      go_wp2
                      go_region
                      all_goals
                        go_wp2
                        go_roundg (l.length - (q + 1))
                        case measure => have := HGq.out; omega
                        case rel => exact ⟨q + 1, by go_num, by omega, rfl, HQ1.out _ (HS1.out.ext (ext_drewN _ _))⟩
                    · have hba : ¬ jb = ja := fun h => hab h.symm
                      rcases hcase with ⟨hle, rfl⟩ | ⟨hle, rfl⟩
                      all_goals
                        go_wp2
                        go_quiet (fail)
                        go_wp2
                        go_region
                      all_goals
                        go_wp2
                        go_roundg (l.length - (q + 1))
                        case measure => have := HGq.out; omega
                        case rel => exact ⟨q + 1, by go_num, by omega, rfl, by first | exact HQ1.out _ (HS1.out.ext (ext_drewN _ _)) | exact HQ2.out _ (HS1.out.ext (ext_drewN _ _))⟩
            · obtain rfl : q = l.length := by omega
              have HN2 := Lib.hid (show RcS w n A l.length cap n (rfR (chB l t but) l (r + 1)) wr from by rw [HNr.out]; exact HSq.out)
              go_wp2
              go_roundg (n - (r + 1))
              case measure => have := HGr.out; omega
              case rel => exact ⟨r + 1, by go_num, by omega, rfl, HN2.out⟩
        · obtain rfl : r = n := by omega
          go_wp2
          go_ret
          exact ⟨w.heap.size + 1, rfl, HSr.out.2.2.congr (rf_cls (fun s hs => HOK.out.2.2.2 s hs)), by omega, HSr.out.1⟩
end Go.Proofs.Ytbhjhajnhpohlaa
