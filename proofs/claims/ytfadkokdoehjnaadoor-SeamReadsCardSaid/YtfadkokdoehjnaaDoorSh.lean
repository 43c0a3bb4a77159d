/- shortest walked. Conditions: a valid graph. -/
import Derived.Test.YtfadkokdoehjnaaDoorOd
import Derived.Test.YtfadkokdoehjnaaDoorShP
namespace Go.Proofs.YtfadkokdoehjnaaDoor
open Go.RowKit

theorem zero512 : Tryd.zeroCells108 = cellsOf 512 fun _ => 0 := by kernel_rfl
/-- shortest's own memory -/
def ShS (w : World) (N : Int) (A : Option Addr) (m cap : Nat) (L F : Mx) (wr : World) : Prop :=
  Below w.heap.size w wr ∧ Bk 46 wr w.heap.size #[.int .i64 N, .slice A m cap] ∧ Ow 108 (w.heap.size + 1) 512 (pk L F) wr
section
variable {w : World} {N : Int} {A : Option Addr} {m cap : Nat} {L F : Mx} {wr w' : World}
theorem ShS.ext (h : ShS w N A m cap L F wr) (hb : Below wr.heap.size wr w') : ShS w N A m cap L F w' := ⟨bext h.1 hb h.1.size, h.2.1.ext hb, h.2.2.ext hb⟩
theorem ShS.setL (h : ShS w N A m cap L F wr) {a b : Nat} (ha : a < 16) (hb : b < 16) (x : Int) : ShS w N A m cap (set2 L a b x) F (wr.setCell ⟨w.heap.size + 1, a * 16 + b, none⟩ (.int .i64 x)) := by
  have h3 := h.2.2.set (a * 16 + b) x
  rw [pk_setL L F ha hb] at h3
  exact ⟨h.1.setCell (by show w.heap.size ≤ w.heap.size + 1; omega) _, h.2.1.set_ne (by omega) _, h3⟩
theorem ShS.setF (h : ShS w N A m cap L F wr) {a b : Nat} (ha : a < 16) (hb : b < 16) (x : Int) : ShS w N A m cap L (set2 F a b x) (wr.setCell ⟨w.heap.size + 1, 256 + a * 16 + b, none⟩ (.int .i64 x)) := by
  have h3 := h.2.2.set (256 + a * 16 + b) x
  rw [pk_setF L F ha hb] at h3
  exact ⟨h.1.setCell (by show w.heap.size ≤ w.heap.size + 1; omega) _, h.2.1.set_ne (by omega) _, h3⟩
theorem ShS.atL (h : ShS w N A m cap L F wr) {a b : Nat} (ha : a < 16) (hb : b < 16) : wr.cell? ⟨w.heap.size + 1, a * 16 + b, none⟩ = some (.int .i64 (L a b)) := by
  rw [h.2.2.cell (by omega), pk_L L F ha hb]
theorem ShS.atF (h : ShS w N A m cap L F wr) {a b : Nat} (ha : a < 16) (hb : b < 16) : wr.cell? ⟨w.heap.size + 1, 256 + a * 16 + b, none⟩ = some (.int .i64 (F a b)) := by
  rw [h.2.2.cell (by omega), pk_F L F ha hb]
theorem ShS.frz (h : ShS w N A m cap L F wr) (i : Nat) : wr.frozen? ⟨w.heap.size + 1, i, none⟩ = false := h.2.2.frozen i
theorem ShS.congr {L' F' : Mx} (h : ShS w N A m cap L F wr) (h1 : ∀ i j, i < 16 → j < 16 → L i j = L' i j) (h2 : ∀ i j, i < 16 → j < 16 → F i j = F' i j) : ShS w N A m cap L' F' wr :=
  ⟨h.1, h.2.1, h.2.2.congr (pk_congr h1 h2)⟩
theorem ShS.start (w : World) (N : Int) (A : Option Addr) (m cap : Nat) : ShS w N A m cap (iniL 0 0) (fun _ _ => 0) ((w.alloc (.cells #[.int .i64 N, .slice A m cap] 46)).alloc (.cells Tryd.zeroCells108 108)) := by
  have h2 := Ow.new 108 (w.alloc (.cells #[.int .i64 N, .slice A m cap] 46)) 512 (fun _ => 0)
  simp only [World.size_alloc] at h2
  rw [zero512]
  refine ⟨((Below.refl _ _).alloc (Nat.le_refl _) _).alloc (by simp) _, (Bk.new _ w _).alloc _, h2.congr (fun i hi => ?_)⟩
  unfold pk iniL
  split
  · rw [if_neg (by omega)]
  · rfl
end

set_option maxRecDepth 100000 in
set_option maxHeartbeats 4000000 in
theorem shortest_any (n : Nat) (A : Option Addr) (cap : Nat) (l : List Sm) (w : World) (hok : GOk n l) (_hc : l.length ≤ cap) (_hcm : cap ≤ 9223372036854775807) (h : SSl w A l) :
    Calls Tryd.prog 58 #[.agg #[.int .i64 (n : Int), .slice A l.length cap]] w fun e w' => e = .returned (.pointer (some ⟨w.heap.size + 1, 0, none⟩)) ∧ ShS w n A l.length cap (tbl n l).L (tbl n l).F w' := by
  have H := Lib.hid h
  have HOK := Lib.hid hok
  have HS0 := Lib.hid (ShS.start w n A l.length cap)
  have l64 := hok.2.2.1
  have n1 : 1 ≤ n := by have := hok.1; omega
  have n2 : n ≤ 16 := by have := hok.2.1; omega
  have hsz : w.heap.size + 1 < ((w.alloc (.cells #[.int .i64 (n : Int), .slice A l.length cap] 46)).alloc (.cells Tryd.zeroCells108 108)).heap.size := HS0.out.2.2.lt
  clear h hok
  go_enter Tryd.func58, Tryd.ntmps58
  go_wp2
  go_loopg [14] 16 (fun g i wr => ∃ a : Nat, i = .int .i64 a ∧ a ≤ 16 ∧ g = 16 - a ∧ ShS w n A l.length cap (iniL a 0) (fun _ _ => 0) wr)
  case atStart => exact ⟨0, rfl, by omega, by omega, HS0.out⟩
  case round =>
    obtain ⟨a, rfl, ha, hg, hs⟩ := hrel
    have HGa := Lib.hid hg
    have HSa := Lib.hid hs
    clear hg hs HS0
    by_cases hlt : a < 16
    · go_wp2
      go_loopg [17] 16 (fun g i wr => ∃ b : Nat, i = .int .i64 b ∧ b ≤ 16 ∧ g = 16 - b ∧ ShS w n A l.length cap (iniL a b) (fun _ _ => 0) wr)
      case atStart => exact ⟨0, rfl, by omega, by omega, HSa.out⟩
      case round =>
        obtain ⟨b, rfl, hb, hg, hs⟩ := hrel
        have HGb := Lib.hid hg
        have HSb := Lib.hid hs
        clear hg hs HSa
        by_cases hlb : b < 16
        · by_cases hab : a = b
          · subst hab
            have HN := Lib.hid (HSb.out.congr (L' := iniL a (a + 1)) (F' := fun _ _ => 0) (fun i j _ _ => by unfold iniL; repeat' split; all_goals first | omega | rfl) (fun _ _ _ _ => rfl))
            go_wp2
            go_roundg (16 - (a + 1))
            case measure => have := HGb.out; omega
            case rel => exact ⟨a + 1, by go_num, by omega, rfl, HN.out⟩
          · have q1 := HSb.out.atL hlt hlb
            have q2 := HSb.out.frz (a * 16 + b)
            have q3 := HSb.out.2.2.lt
            have HN := Lib.hid ((HSb.out.setL hlt hlb 1099511627776).congr (L' := iniL a (b + 1)) (F' := fun _ _ => 0) (fun i j _ _ => by unfold set2 iniL far; repeat' split; all_goals first | omega | rfl) (fun _ _ _ _ => rfl))
            have hab2 : ((a : Int) == (b : Int)) = false := by simp; omega
            have hab3 : ((a : Int) != (b : Int)) = true := by simp; omega
            go_wp2
            go_roundg (16 - (b + 1))
            case measure => have := HGb.out; omega
            case rel => exact ⟨b + 1, by go_num, by omega, rfl, HN.out⟩
        · obtain rfl : b = 16 := by omega
          have HN := Lib.hid (HSb.out.congr (L' := iniL (a + 1) 0) (F' := fun _ _ => 0) (fun i j _ _ => by unfold iniL; repeat' split; all_goals first | omega | rfl) (fun _ _ _ _ => rfl))
          go_wp2
          go_roundg (16 - (a + 1))
          case measure => have := HGa.out; omega
          case rel => exact ⟨a + 1, by go_num, by omega, rfl, HN.out⟩
    · obtain rfl : a = 16 := by omega
      have HS1 := Lib.hid (HSa.out.congr (L' := (tbB l 0).L) (F' := (tbB l 0).F) (fun i j hi hj => by show iniL 16 0 i j = if i = j then 0 else far; unfold iniL; repeat' split; all_goals first | omega | rfl) (fun _ _ _ _ => rfl))
      obtain ⟨f1, f2, f3⟩ := HSa.out.2.1.facts
      clear HSa HGa
      go_wp2
      go_loopg [35] l.length (fun g i wr => ∃ k : Nat, i = .int .i64 k ∧ k ≤ l.length ∧ g = l.length - k ∧ ShS w n A l.length cap (tbB l k).L (tbB l k).F wr)
      case atStart => exact ⟨0, rfl, by omega, by omega, HS1.out⟩
      case round =>
        obtain ⟨k, rfl, hk, hg, hs⟩ := hrel
        have HG := Lib.hid hg
        have HS := Lib.hid hs
        obtain ⟨f1, f2, f3⟩ := hs.2.1.facts
        have hb := hs.1
        clear hg hs HS1
        by_cases hlt : k < l.length
        · have hf := H.out.ext hb
          rcases hf with hf | ⟨b, off, rfl, hblt, hcl⟩
          · rw [hf] at hlt; simp at hlt
          · obtain ⟨c1, c2, c3, c4⟩ := hcl k hlt
            have hso := HOK.out.2.2.2 _ (List.getElem_mem hlt)
            obtain ⟨s, hs⟩ : ∃ s, s = l[k] := ⟨_, rfl⟩
            rw [← hs] at c1 c2 c3 c4 hso
            have HSK := Lib.hid hs
            obtain ⟨a, b', m, t⟩ := s
            dsimp only at c1 c2 c3 c4
            obtain ⟨o1, o2, o3, o4, o5, o6, -, -⟩ := hso
            dsimp only at o1 o2 o3 o4 o5 o6
            obtain ⟨ja, rfl⟩ := Int.eq_ofNat_of_zero_le o1
            obtain ⟨jb, rfl⟩ := Int.eq_ofNat_of_zero_le o3
            have HS2 := Lib.hid (HS.out.ext (ext_alloc wr (.cells #[.int .i64 (ja : Int), .int .i64 (jb : Int), .int .i64 m, .int .i64 t] 43)))
            have HB2 := Lib.hid (Bk.new 43 wr #[.int .i64 (ja : Int), .int .i64 (jb : Int), .int .i64 m, .int .i64 t])
            have hlo : w.heap.size + 1 < wr.heap.size := HS.out.2.2.lt
            have hja : ja < 16 := by omega
            have hjb : jb < 16 := by omega
            have q1 := HS.out.atL hja hjb
            have HNO := Lib.hid (fun h => tbB_no hlt HSK.out (a := ja) (b := jb) rfl rfl h)
            have HYES := Lib.hid (fun h => tbB_yes hlt HSK.out (a := ja) (b := jb) rfl rfl h)
            clear hs hcl
            by_cases hab : ja = jb
            · subst hab
              have hne : ((ja : Int) != (ja : Int)) = false := by simp
              have HN := Lib.hid (HNO.out (fun h => h.1 rfl))
              clear HNO HYES
              go_wp2
              go_quiet (fail)
              go_wp2
              go_roundg (l.length - (k + 1))
              case measure => have := HG.out; omega
              case rel => exact ⟨k + 1, by go_num, by omega, rfl, by rw [HN.out]; exact HS2.out.ext (ext_drewN _ _)⟩
            · have hne : ((ja : Int) != (jb : Int)) = true := by simp; omega
              have hne2 : ¬ (ja : Int) = (jb : Int) := by omega
              by_cases hm : m < (tbB l k).L ja jb
              · have hmd : decide (m < (tbB l k).L ja jb) = true := decide_eq_true hm
                have HN := Lib.hid (HYES.out ⟨hab, hm⟩)
                clear HNO HYES
                clear hmd
                have hmd : decide (m < (tbB l k).L ja jb) = true := decide_eq_true hm
                go_wp2
                go_quiet (fail)
                rename_i nq
                obtain ⟨e1, e2, e3⟩ := HB2.out.facts
                have q2 := HS2.out.atL hja hjb
                have q3 := HS2.out.atL hjb hja
                have q4 := HS2.out.frz (ja * 16 + jb)
                have q5 := HS2.out.frz (jb * 16 + ja)
                have q6 := HS2.out.2.2.lt
                have x1 : ¬ ja * 16 + jb = jb * 16 + ja := by omega
                have x2 : ¬ jb * 16 + ja = ja * 16 + jb := by omega
                go_upto_region 16 with (fail)
                go_cut [] (fun wx => ShS w n (some ⟨b, off, none⟩) l.length cap (set2 (set2 (tbB l k).L ja jb m) jb ja m) (tbB l k).F wx ∧ Bk 43 wx wr.heap.size #[.int .i64 (ja : Int), .int .i64 (jb : Int), .int .i64 m, .int .i64 t])
                case first =>
                  go_region
                  all_goals
                    go_wp2
                    go_meet
                    exact ⟨((HS2.out.ext (ext_drewN _ _)).setL hja hjb m).setL hjb hja m, ((HB2.out.ext (ext_drewN _ _)).set_ne (by omega) _).set_ne (by omega) _⟩
                case rest =>
                  obtain ⟨hs3, hb3⟩ := hcut
                  have HS3 := Lib.hid hs3
                  obtain ⟨g1, g2, g3⟩ := hs3.2.1.facts
                  obtain ⟨e1, e2, e3⟩ := hb3.facts
                  have q2 := hs3.atF hja hjb
                  have q3 := hs3.atF hjb hja
                  have q4 := hs3.frz (256 + ja * 16 + jb)
                  have q5 := hs3.frz (256 + jb * 16 + ja)
                  have q6 := hs3.2.2.lt
                  have x1 : ¬ 256 + ja * 16 + jb = 256 + jb * 16 + ja := by omega
                  have x2 : ¬ 256 + jb * 16 + ja = 256 + ja * 16 + jb := by omega
                  clear hs3 hb3 HS2 HB2 q1
                  go_upto_region 17 with (fail)
                  go_region
                  all_goals
                    have HS4 := Lib.hid (show ShS w n (some ⟨b, off, none⟩) l.length cap (tbB l (k + 1)).L (tbB l (k + 1)).F _ from by rw [HN.out]; exact ((HS3.out.ext (ext_drew _)).setF hja hjb k).setF hjb hja k)
                    go_wp2
                    go_roundg (l.length - (k + 1))
                    case measure => have := HG.out; omega
                    case rel => exact ⟨k + 1, by go_num, by omega, rfl, HS4.out⟩
              · have hmd : decide (m < (tbB l k).L ja jb) = false := decide_eq_false hm
                have HN := Lib.hid (HNO.out (fun h => hm h.2))
                clear HNO HYES
                go_wp2
                go_quiet (fail)
                go_wp2
                go_roundg (l.length - (k + 1))
                case measure => have := HG.out; omega
                case rel => exact ⟨k + 1, by go_num, by omega, rfl, by rw [HN.out]; exact HS2.out.ext (ext_drewN _ _)⟩
        · obtain rfl : k = l.length := by omega
          have HBD := Lib.hid (Bd.B (fun s hs => HOK.out.2.2.2 s hs) l.length)
          clear HG
          go_wp2
          go_loopg [105] n (fun g i wr => ∃ c : Nat, i = .int .i64 c ∧ c ≤ n ∧ g = n - c ∧ ShS w n A l.length cap (stC (tbB l l.length) n c).L (stC (tbB l l.length) n c).F wr)
          case atStart => exact ⟨0, rfl, by omega, by omega, HS.out⟩
          case round =>
            obtain ⟨c, rfl, hcn, hg, hs⟩ := hrel
            have HGc := Lib.hid hg
            have HSc := Lib.hid hs
            obtain ⟨f1, f2, f3⟩ := hs.2.1.facts
            clear hg hs HS
            by_cases hlc : c < n
            · have HBDc := Lib.hid (HBD.out.stC n c)
              have HNc := Lib.hid (show stC (tbB l l.length) n (c + 1) = stA (stC (tbB l l.length) n c) c n n from rfl)
              obtain ⟨tc, htc⟩ : ∃ tc, tc = stC (tbB l l.length) n c := ⟨_, rfl⟩
              rw [← htc] at HSc HBDc HNc
              clear htc
              go_wp2
              go_loopg [110] n (fun g i wr => ∃ a : Nat, i = .int .i64 a ∧ a ≤ n ∧ g = n - a ∧ ShS w n A l.length cap (stA tc c n a).L (stA tc c n a).F wr)
              case atStart => exact ⟨0, rfl, by omega, by omega, HSc.out⟩
              case round =>
                obtain ⟨a, rfl, han, hg, hs⟩ := hrel
                have HGa := Lib.hid hg
                have HSa := Lib.hid hs
                obtain ⟨f1, f2, f3⟩ := hs.2.1.facts
                clear hg hs HSc
                by_cases hla : a < n
                · have HBDa := Lib.hid (HBDc.out.stA c n a)
                  have HNa := Lib.hid (show stA tc c n (a + 1) = stB (stA tc c n a) c a n from rfl)
                  obtain ⟨ta, hta⟩ : ∃ ta, ta = stA tc c n a := ⟨_, rfl⟩
                  rw [← hta] at HSa HBDa HNa
                  clear hta
                  go_wp2
                  go_loopg [115] n (fun g i wr => ∃ b : Nat, i = .int .i64 b ∧ b ≤ n ∧ g = n - b ∧ ShS w n A l.length cap (stB ta c a b).L (stB ta c a b).F wr)
                  case atStart => exact ⟨0, rfl, by omega, by omega, HSa.out⟩
                  case round =>
                    obtain ⟨b, rfl, hbn, hg, hs⟩ := hrel
                    have HGb := Lib.hid hg
                    have HSb := Lib.hid hs
                    obtain ⟨f1, f2, f3⟩ := hs.2.1.facts
                    clear hg hs HSa
                    by_cases hlb : b < n
                    · have HBDb := Lib.hid (HBDa.out.stB c a b)
                      have HNb := Lib.hid (show stB ta c a (b + 1) = st1 (stB ta c a b) c a b from rfl)
                      obtain ⟨tb, htb⟩ : ∃ tb, tb = stB ta c a b := ⟨_, rfl⟩
                      rw [← htb] at HSb HBDb HNb
                      clear htb
                      have y1 : c < 16 := by omega
                      have y2 : a < 16 := by omega
                      have y3 : b < 16 := by omega
                      have q1 := HSb.out.atL y2 y1
                      have q2 := HSb.out.atL y1 y3
                      have q3 := HSb.out.atL y2 y3
                      have q4 := HSb.out.atF y2 y1
                      have q5 := HSb.out.atF y2 y3
                      have b1 := HBDb.out a c
                      have b2 := HBDb.out c b
                      unfold far at b1 b2
                      have q6 := HSb.out.frz (a * 16 + b)
                      have q7 := HSb.out.frz (256 + a * 16 + b)
                      have q8 := HSb.out.2.2.lt
                      have z1 : IntKind.i64.wrap (tb.L a c + tb.L c b) = tb.L a c + tb.L c b := IntWalk.i64_in _ ⟨by omega, by omega⟩
                      by_cases hm : tb.L a c + tb.L c b < tb.L a b
                      · have HN := Lib.hid (show st1 tb c a b = ⟨set2 tb.L a b (tb.L a c + tb.L c b), set2 tb.F a b (tb.F a c)⟩ from if_pos hm)
                        have x1 : ¬ 256 + a * 16 + b = a * 16 + b := by omega
                        have x2 : ¬ 256 + a * 16 + c = a * 16 + b := by omega
                        have x3 : ¬ a * 16 + b = 256 + a * 16 + b := by omega
                        have x4 : ¬ a * 16 + b = 256 + a * 16 + c := by omega
                        go_wp2
                        go_quiet (fail)
                        go_wp2
                        go_region
                        all_goals
                          go_wp2
                          go_roundg (n - (b + 1))
                          case measure => have := HGb.out; omega
                          case rel => exact ⟨b + 1, by go_num, by omega, rfl, by rw [HNb.out, HN.out]; first | exact ((HSb.out.ext (ext_drewN _ _)).setL y2 y3 _).setF y2 y3 _ | exact ((HSb.out.ext (ext_drewN _ _)).setF y2 y3 _).setL y2 y3 _⟩
                      · have HN := Lib.hid (show st1 tb c a b = tb from if_neg hm)
                        go_wp2
                        go_quiet (fail)
                        go_wp2
                        go_roundg (n - (b + 1))
                        case measure => have := HGb.out; omega
                        case rel => exact ⟨b + 1, by go_num, by omega, rfl, by rw [HNb.out, HN.out]; exact HSb.out.ext (ext_drewN _ _)⟩
                    · obtain rfl : b = n := by omega
                      have HN := Lib.hid (show ShS w b A l.length cap (stA tc c b (a + 1)).L (stA tc c b (a + 1)).F wr from by rw [HNa.out]; exact HSb.out)
                      go_wp2
                      go_roundg (b - (a + 1))
                      case measure => have := HGa.out; omega
                      case rel => exact ⟨a + 1, by go_num, by omega, rfl, HN.out⟩
                · obtain rfl : a = n := by omega
                  have HN := Lib.hid (show ShS w a A l.length cap (stC (tbB l l.length) a (c + 1)).L (stC (tbB l l.length) a (c + 1)).F wr from by rw [HNc.out]; exact HSa.out)
                  go_wp2
                  go_roundg (a - (c + 1))
                  case measure => have := HGc.out; omega
                  case rel => exact ⟨c + 1, by go_num, by omega, rfl, HN.out⟩
            · obtain rfl : c = n := by omega
              go_wp2
              go_ret
              exact ⟨rfl, HSc.out⟩
end Go.Proofs.YtfadkokdoehjnaaDoor
