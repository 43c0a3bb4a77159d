/- The reference's ways walked. Conditions: a valid graph. -/
import Derived.Test.YtbhjhajnhpohlaaRc
import Derived.Test.YtbhjhajnhpohlaaWyP
import Derived.StillTailTactics
namespace Go.Proofs.Ytbhjhajnhpohlaa
open Go.RowKit

def cellsV (n : Nat) (f : Nat → Value) : Array Value := ((List.range n).map f).toArray
theorem cellsV_get {n : Nat} {f : Nat → Value} {i : Nat} (h : i < n) : (cellsV n f)[i]? = some (f i) := by
  simp [cellsV, h]
theorem cellsV_set {n : Nat} {f g : Nat → Value} {i : Nat} {v : Value} (h1 : g i = v) (h2 : ∀ j, j ≠ i → g j = f j) : (cellsV n f).setIfInBounds i v = cellsV n g := by
  unfold cellsV
  rw [List.setIfInBounds_toArray]
  congr 1
  apply List.ext_getElem
  · simp
  · intro k h1' h2'
    rw [List.getElem_set]
    simp only [List.getElem_map, List.getElem_range]
    by_cases hk : i = k
    · subst hk; simp [h1]
    · rw [if_neg hk, h2 k (fun h => hk h.symm)]
theorem nil_cells (n : Nat) : madeCells #[Value.slice none 0 0] n = cellsV n fun _ => .slice none 0 0 := by
  apply Array.ext'
  rw [toList_madeCells_one]
  simp [cellsV]
  apply List.ext_getElem <;> simp
theorem run_nils (n : Nat) (h : n ≤ 1000000) (W : World) : (Instr.makeSlice 107 (.int .i64 (n : Int)) (.int .i64 (n : Int))).run Try.prog W = .ok (.slice (some ⟨W.heap.size, 0, none⟩) n n) (W.alloc (.cells (cellsV n fun _ => .slice none 0 0) 35)) := by
  obtain ⟨i, hi, hz, hsz, hby⟩ := info_parts (show (Try.prog.info? 35).map (fun i => (i.zero, i.size, i.bytes)) = some (some (.slice none 0 0), 1, 24) from by kernel_rfl)
  have hr := run_make (P := Try.prog) W 107 35 i (.slice none 0 0) Try.underlying107 hi hz .i64 .i64 n n (by omega) (by omega) (by rw [hby]; omega) (by omega)
  rw [hr, hsz, Nat.mul_one, Int.toNat_natCast]
  rw [show (Value.slice none 0 0).cells = #[Value.slice none 0 0] from rfl, nil_cells]
/-- the first k rows are made -/
def rowV (n k : Nat) (B : Nat → Nat) (i : Nat) : Value := if i < k then .slice (some ⟨B i, 0, none⟩) n n else .slice none 0 0
/-- the reference's own memory -/
def WyS (w : World) (N : Int) (A : Option Addr) (m cap n k : Nat) (B : Nat → Nat) (R : Nat → Nat → Int) (wr : World) : Prop :=
  Below w.heap.size w wr ∧ Bk 24 wr w.heap.size #[.int .i64 N, .slice A m cap] ∧ Bk 35 wr (w.heap.size + 1) (cellsV n (rowV n k B)) ∧
    (∀ i, i < k → w.heap.size + 1 < B i ∧ Ow 3 (B i) n (R i) wr) ∧ (∀ i j, i < k → j < k → i ≠ j → B i ≠ B j)
def setR (R : Nat → Nat → Int) (a : Nat) (f : Nat → Int) : Nat → Nat → Int := fun i => if i = a then f else R i
section
variable {w : World} {N : Int} {A : Option Addr} {m cap n k : Nat} {B : Nat → Nat} {R R' : Nat → Nat → Int} {wr w' : World}
theorem WyS.ext (h : WyS w N A m cap n k B R wr) (hb : Below wr.heap.size wr w') : WyS w N A m cap n k B R w' :=
  ⟨bext h.1 hb h.1.size, h.2.1.ext hb, h.2.2.1.ext hb, fun i hi => ⟨(h.2.2.2.1 i hi).1, (h.2.2.2.1 i hi).2.ext hb⟩, h.2.2.2.2⟩
theorem WyS.congr (h : WyS w N A m cap n k B R wr) (hr : ∀ i j, i < k → j < n → R i j = R' i j) : WyS w N A m cap n k B R' wr :=
  ⟨h.1, h.2.1, h.2.2.1, fun i hi => ⟨(h.2.2.2.1 i hi).1, (h.2.2.2.1 i hi).2.congr (fun j hj => hr i j hi hj)⟩, h.2.2.2.2⟩
theorem WyS.set (h : WyS w N A m cap n k B R wr) {a : Nat} (ha : a < k) (b : Nat) (x : Int) : WyS w N A m cap n k B (setR R a (upd (R a) b x)) (wr.setCell ⟨B a, b, none⟩ (.int .i64 x)) := by
  obtain ⟨h1, h2, h3, h4, h5⟩ := h
  have ha' := h4 a ha
  refine ⟨h1.setCell (by show w.heap.size ≤ B a; omega) _, h2.set_ne (by omega) _, h3.set_ne (by omega) _, fun i hi => ⟨(h4 i hi).1, ?_⟩, h5⟩
  unfold setR
  by_cases hia : i = a
  · rw [if_pos hia, hia]; exact ha'.2.set b x
  · rw [if_neg hia]
    exact (h4 i hi).2.set_ne (h5 i a hi ha hia) _
theorem WyS.start (w : World) (N : Int) (A : Option Addr) (m cap n : Nat) (R : Nat → Nat → Int) : WyS w N A m cap n 0 (fun _ => 0) R ((w.alloc (.cells #[.int .i64 N, .slice A m cap] 24)).alloc (.cells (cellsV n fun _ => .slice none 0 0) 35)) := by
  have h2 := Bk.new 35 (w.alloc (.cells #[.int .i64 N, .slice A m cap] 24)) (cellsV n fun _ => .slice none 0 0)
  rw [World.size_alloc] at h2
  refine ⟨((Below.refl _ _).alloc (Nat.le_refl _) _).alloc (by simp) _, (Bk.new _ w _).alloc _, ?_, fun i hi => by omega, fun i j hi => by omega⟩
  have e : rowV n 0 (fun _ => 0) = fun _ => .slice none 0 0 := by funext i; unfold rowV; rw [if_neg (by omega)]
  rw [e]; exact h2
/-- a row more -/
theorem WyS.row (h : WyS w N A m cap n k B R wr) : WyS w N A m cap n (k + 1) (fun i => if i = k then wr.heap.size else B i) (setR R k fun _ => 0) ((wr.alloc (.cells (cellsOf n fun _ => 0) 3)).setCell ⟨w.heap.size + 1, k, none⟩ (.slice (some ⟨wr.heap.size, 0, none⟩) n n)) := by
  obtain ⟨h1, h2, h3, h4, h5⟩ := h
  have hlt := h3.lt
  have hnew := Ow.new 3 wr n (fun _ => 0)
  refine ⟨(h1.alloc h1.size _).setCell (by show w.heap.size ≤ w.heap.size + 1; omega) _, (h2.alloc _).set_ne (by omega) _, ?_, fun i hi => ?_, fun i j hi hj hij => ?_⟩
  · have h6 := (h3.alloc (.cells (cellsOf n fun _ => 0) 3)).set k (.slice (some ⟨wr.heap.size, 0, none⟩) n n)
    rw [cellsV_set (g := rowV n (k + 1) fun i => if i = k then wr.heap.size else B i) (by unfold rowV; rw [if_pos (by omega)]; dsimp only; rw [if_pos rfl]) (fun j hj => by
      unfold rowV
      by_cases hjk : j < k
      · rw [if_pos (by omega), if_pos hjk]; dsimp only; rw [if_neg hj]
      · rw [if_neg (by omega), if_neg hjk])] at h6
    exact h6
  · dsimp only
    unfold setR
    by_cases hik : i = k
    · rw [if_pos hik, if_pos hik]
      exact ⟨hlt, Ow.set_ne hnew (by omega) _⟩
    · rw [if_neg hik, if_neg hik]
      have := h4 i (by omega)
      exact ⟨this.1, (this.2.ext (ext_alloc _ _)).set_ne (by omega) _⟩
  · dsimp only
    have hlt' : ∀ i, i < k → B i < wr.heap.size := fun i hi => (h4 i hi).2.lt
    by_cases hik : i = k
    · rw [if_pos hik, if_neg (by omega)]
      have := hlt' j (by omega); omega
    · by_cases hjk : j = k
      · rw [if_neg hik, if_pos hjk]
        have := hlt' i (by omega); omega
      · rw [if_neg hik, if_neg hjk]
        exact h5 i j (by omega) (by omega) hij
theorem WyS.out (h : WyS w N A m cap n k B R wr) {i : Nat} (hi : i < k) (hn : i < n) : wr.cell? ⟨w.heap.size + 1, i, none⟩ = some (.slice (some ⟨B i, 0, none⟩) n n) := by
  rw [h.2.2.1.cell i, cellsV_get hn]
  unfold rowV
  rw [if_pos hi]
end
def iniR (a b : Nat) : Nat → Int := fun j => if j < b ∧ a ≠ j then far else 0

set_option maxRecDepth 100000 in
set_option maxHeartbeats 4000000 in
theorem ways_any (n : Nat) (A : Option Addr) (cap : Nat) (l : List Sm) (w : World) (hok : GOk n l) (_hc : l.length ≤ cap) (_hcm : cap ≤ 9223372036854775807) (h : SSl w A l) :
    Calls Try.prog 57 #[.agg #[.int .i64 (n : Int), .slice A l.length cap]] w fun e w' => e = .returned (.slice (some ⟨w.heap.size + 1, 0, none⟩) n n) ∧ ∃ B, WyS w n A l.length cap n n B (tbl n l).L w' := by
  have H := Lib.hid h
  have HOK := Lib.hid hok
  have HS0 := Lib.hid (WyS.start w n A l.length cap n (fun a => rxR l a 0))
  have l64 := hok.2.2.1
  have n1 : 1 ≤ n := by have := hok.1; omega
  have n2 : n ≤ 16 := by have := hok.2.1; omega
  have hmk := run_zeros n (by omega)
  have hmn := run_nils n (by omega)
  clear h hok
  go_enter Try.func57, Try.ntmps57
  go_wp2
  go_loopg [14] n (fun g i wr => ∃ (k : Nat) (B : Nat → Nat), i = .int .i64 k ∧ k ≤ n ∧ g = n - k ∧ WyS w n A l.length cap n k B (fun a => rxR l a 0) wr)
  case atStart => exact ⟨0, _, rfl, by omega, by omega, HS0.out⟩
  case round =>
    obtain ⟨a, B, rfl, ha, hg, hs⟩ := hrel
    have HGa := Lib.hid hg
    have HSa := Lib.hid hs
    obtain ⟨f1, f2, f3⟩ := hs.2.1.facts
    have g3 := hs.2.2.1.lt
    have g2 := hs.2.2.1.frozen a
    clear hg HS0
    by_cases hlt : a < n
    · have q1 := (hs.2.2.1.cell a).trans (cellsV_get hlt)
      unfold rowV at q1
      rw [if_neg (by omega)] at q1
      have hs2 := hs.row
      rw [World.setCell_alloc_past _ _ _ _ g3] at hs2
      obtain ⟨B', hB'⟩ : ∃ B', B' = fun i => if i = a then wr.heap.size else B i := ⟨_, rfl⟩
      have hba : B' a = wr.heap.size := by rw [hB']; simp
      rw [← hB'] at hs2
      have hs3 := hs2.congr (R' := setR (fun a => rxR l a 0) a (iniR a 0)) (fun i j _ _ => by unfold setR iniR; split <;> simp)
      have HS2 := Lib.hid hs3
      have q2 := hs2.out (i := a) (by omega) hlt
      rw [hba] at q2
      have HBA := Lib.hid hba
      clear hs hs2 hs3 hB' hba
      obtain ⟨wo, rfl⟩ : ∃ wo : World, wo = wr := ⟨_, rfl⟩
      go_wp2
      go_loopg [28] n (fun g i wr => ∃ b : Nat, i = .int .i64 b ∧ b ≤ n ∧ g = n - b ∧ WyS w n A l.length cap n (a + 1) B' (setR (fun a => rxR l a 0) a (iniR a b)) wr)
      case atStart => exact ⟨0, rfl, by omega, by omega, HS2.out⟩
      case round =>
        obtain ⟨b, rfl, hb, hg, hs⟩ := hrel
        have HGb := Lib.hid hg
        have HSb := Lib.hid hs
        clear hg hs HS2 q1 q2
        by_cases hlb : b < n
        · by_cases hab : a = b
          · subst hab
            have HN := Lib.hid (HSb.out.congr (R' := setR (fun a => rxR l a 0) a (iniR a (a + 1))) (fun i j _ _ => by unfold setR; split; (unfold iniR; repeat' split; all_goals first | omega | rfl); rfl))
            go_wp2
            go_roundg (n - (a + 1))
            case measure => have := HGb.out; omega
            case rel => exact ⟨a + 1, by go_num, by omega, rfl, HN.out⟩
          · have q1 := HSb.out.out (i := a) (by omega) hlt
            have q2 := (HSb.out.2.2.2.1 a (by omega)).2.cell hlb
            have q3 := (HSb.out.2.2.2.1 a (by omega)).2.frozen b
            have q4 := (HSb.out.2.2.2.1 a (by omega)).2.lt
            have hset := HSb.out.set (a := a) (by omega) b 1099511627776
            have HN := Lib.hid (hset.congr (R' := setR (fun a => rxR l a 0) a (iniR a (b + 1))) (fun i j _ _ => by
              unfold setR
              split
              · rw [if_pos rfl]; unfold upd iniR far; repeat' split
                all_goals first | omega | rfl
              · rfl))
            rw [HBA.out] at q1 q2 q3 q4
            have HN2 := Lib.hid (show WyS w n A l.length cap n (a + 1) B' (setR (fun a => rxR l a 0) a (iniR a (b + 1))) (wr.setCell ⟨wo.heap.size, b, none⟩ (.int .i64 1099511627776)) from by have h := HN.out; rw [HBA.out] at h; exact h)
            have hab2 : ((a : Int) == (b : Int)) = false := by simp; omega
            have hab3 : ((a : Int) != (b : Int)) = true := by simp; omega
            clear hset HN
            go_wp2
            go_roundg (n - (b + 1))
            case measure => have := HGb.out; omega
            case rel => exact ⟨b + 1, by go_num, by omega, rfl, HN2.out⟩
        · obtain rfl : b = n := by omega
          have HN := Lib.hid (HSb.out.congr (R' := fun a => rxR l a 0) (fun i j _ hj => by
            unfold setR
            split
            · rename_i hi; subst hi
              show iniR i b j = if i = j then 0 else far
              unfold iniR
              repeat' split
              all_goals first | omega | rfl
            · rfl))
          go_wp2
          go_roundg (b - (a + 1))
          case measure => have := HGa.out; omega
          case rel => exact ⟨a + 1, B', by go_num, by omega, rfl, HN.out⟩
    · obtain rfl : a = n := by omega
      clear HGa hs
      obtain ⟨n, rfl⟩ : ∃ n, n = a := ⟨_, rfl⟩
      go_wp2
      go_loopg [44] n (fun g i wr => ∃ r : Nat, i = .int .i64 r ∧ r ≤ n ∧ g = n - r ∧ WyS w n A l.length cap n n B (fun a => rxR l a r) wr)
      case atStart => exact ⟨0, rfl, by omega, by omega, HSa.out⟩
      case round =>
        obtain ⟨r, rfl, hr, hg, hs⟩ := hrel
        have HGr := Lib.hid hg
        have HSr := Lib.hid hs
        obtain ⟨f1, f2, f3⟩ := hs.2.1.facts
        clear hg hs HSa
        by_cases hlr : r < n
        · go_wp2
          go_loopg [48] n (fun g i wr => ∃ a : Nat, i = .int .i64 a ∧ a ≤ n ∧ g = n - a ∧ WyS w n A l.length cap n n B (fun i => if i < a then rxR l i (r + 1) else rxR l i r) wr)
          case atStart => exact ⟨0, rfl, by omega, by omega, HSr.out.congr (fun i j _ _ => by rw [if_neg (by omega)])⟩
          case round =>
            obtain ⟨a, rfl, ha, hg, hs⟩ := hrel
            have HGa := Lib.hid hg
            have HSa := Lib.hid hs
            obtain ⟨f1, f2, f3⟩ := hs.2.1.facts
            clear hg hs HSr
            by_cases hla : a < n
            · obtain ⟨Ra, hRa⟩ : ∃ Ra, Ra = (fun i => if i < a then rxR l i (r + 1) else rxR l i r) := ⟨_, rfl⟩
              rw [← hRa] at HSa
              have HS1 := Lib.hid (HSa.out.congr (R' := setR Ra a (rxQ l (rxR l a r) 0)) (fun i j _ _ => by
                unfold setR
                split
                · rename_i hi; subst hi; rw [hRa]; dsimp only; rw [if_neg (by omega)]; rfl
                · rfl))
              have HRA := Lib.hid hRa
              have HINV := Lib.hid (fun q => (rxQ_inv (n := n) (fun s hs => HOK.out.2.2.2 s hs) hla (rxR_inv (n := n) (fun s hs => HOK.out.2.2.2 s hs) hla r).1 q).1)
              have HTS := Lib.hid (tbl_snd (n := n) (fun s hs => HOK.out.2.2.2 s hs))
              clear hRa HSa
              go_wp2
              go_loopg [54] l.length (fun g i wr => ∃ q : Nat, i = .int .i64 q ∧ q ≤ l.length ∧ g = l.length - q ∧ WyS w n A l.length cap n n B (setR Ra a (rxQ l (rxR l a r) q)) wr)
              case atStart => exact ⟨0, rfl, by omega, by omega, HS1.out⟩
              case round =>
                obtain ⟨q, rfl, hq, hg, hs⟩ := hrel
                have HGq := Lib.hid hg
                have HSq := Lib.hid hs
                obtain ⟨f1, f2, f3⟩ := hs.2.1.facts
                have hb := hs.1
                clear hg hs HS1
                by_cases hlq : q < l.length
                · have hf := H.out.ext hb
                  rcases hf with hf | ⟨b, off, rfl, hblt, hcl⟩
                  · rw [hf] at hlq; simp at hlq
                  · obtain ⟨c1, c2, c3, c4⟩ := hcl q hlq
                    have hso := HOK.out.2.2.2 _ (List.getElem_mem hlq)
                    have hn := rx1_at (d := rxQ l (rxR l a r) q) hlq
                    have hinv := HINV.out q
                    obtain ⟨s, hs⟩ : ∃ s, s = l[q] := ⟨_, rfl⟩
                    rw [← hs] at c1 c2 c3 c4 hso hn
                    obtain ⟨sa, sb, m, t'⟩ := s
                    dsimp only at c1 c2 c3 c4 hn
                    obtain ⟨o1, o2, o3, o4, o5, o6, -, -⟩ := hso
                    dsimp only at o1 o2 o3 o4 o5 o6
                    obtain ⟨ja, rfl⟩ := Int.eq_ofNat_of_zero_le o1
                    obtain ⟨jb, rfl⟩ := Int.eq_ofNat_of_zero_le o3
                    rw [Int.toNat_natCast, Int.toNat_natCast] at hn
                    have hnq : rxQ l (rxR l a r) (q + 1) = rx1 l (rxQ l (rxR l a r) q) q := rfl
                    rw [hn] at hnq
                    obtain ⟨d, hd⟩ : ∃ d, d = rxQ l (rxR l a r) q := ⟨_, rfl⟩
                    rw [← hd] at hnq hinv
                    have HNQ := Lib.hid hnq
                    have hda : 0 ≤ d ja ∧ d ja ≤ far := by have := hinv ja (by omega); have := HTS.out.rng a ja; omega
                    have hdb : 0 ≤ d jb ∧ d jb ≤ far := by have := hinv jb (by omega); have := HTS.out.rng a jb; omega
                    unfold far at hda hdb
                    rw [← hd] at HSq
                    have HS1 := Lib.hid (HSq.out.ext (ext_alloc wr (.cells #[.int .i64 (ja : Int), .int .i64 (jb : Int), .int .i64 m, .int .i64 t'] 69)))
                    have HB1 := Lib.hid (Bk.new 69 wr #[.int .i64 (ja : Int), .int .i64 (jb : Int), .int .i64 m, .int .i64 t'])
                    obtain ⟨e1, e2, e3⟩ := HB1.out.facts
                    have q1 := HS1.out.out hla hla
                    have hrow := (HS1.out.2.2.2.1 a hla).2
                    have hgt := (HS1.out.2.2.2.1 a hla).1
                    have hob := HS1.out.2.2.1.lt
                    have hbne : B a ≠ wr.heap.size := by have := (HSq.out.2.2.2.1 a hla).2.lt; omega
                    have es : setR Ra a d a = d := by unfold setR; rw [if_pos rfl]
                    rw [es] at hrow
                    have q2 := hrow.cell (i := ja) (by omega)
                    have q3 := hrow.cell (i := jb) (by omega)
                    have q4 := hrow.frozen jb
                    have q5 := hrow.lt
                    obtain ⟨v1, hv1⟩ : ∃ v1, v1 = min (d jb) (d ja + m) := ⟨_, rfl⟩
                    have hset := HS1.out.set (a := a) hla jb v1
                    rw [es] at hset
                    have hs1 := HB1.out.set_ne (k := B a) (j := jb) (Ne.symm hbne) (.int .i64 v1)
                    have HSB1 := Lib.hid hs1
                    have HSET1 := Lib.hid (hset.congr (R' := setR Ra a (upd d jb v1)) (fun i j _ _ => by unfold setR; split <;> rfl))
                    rw [← hv1] at hnq
                    have HNQ := Lib.hid hnq
                    have hcase : (d jb ≤ d ja + m ∧ v1 = d jb) ∨ (d ja + m < d jb ∧ v1 = d ja + m) := by omega
                    have y1 : IntKind.i64.wrap (d ja + m) = d ja + m := IntWalk.i64_in _ ⟨by omega, by omega⟩
                    have i1 : (0 : Int) ≤ (a : Int) := by omega
                    have i2 : (a : Int) < (n : Int) := by omega
                    clear hd hs hcl hn hinv hset hs1 hv1 hnq hrow es
                    obtain ⟨g, hg⟩ : ∃ g, g = B a := ⟨_, rfl⟩
                    rw [← hg] at q1 q2 q3 q4 q5 hgt hbne HSET1 HSB1
                    have HGA := Lib.hid hg
                    clear hg
                    go_upto_region 21 with (fail)
                    obtain ⟨f1, f2, f3⟩ := HS1.out.2.1.facts
                    obtain ⟨W, hW⟩ : ∃ W, W = wr.alloc (.cells #[.int .i64 (ja : Int), .int .i64 (jb : Int), .int .i64 m, .int .i64 t'] 69) := ⟨_, rfl⟩
                    rw [← hW] at q1 q2 q3 q4 q5 e1 e2 e3 f1 f2 f3 hob HSET1 HSB1 ⊢
                    clear hW HS1 HB1 c1 c2 c3 c4
                    go_cut [] (fun wx => WyS w n (some ⟨b, off, none⟩) l.length cap n n B (setR Ra a (upd d jb v1)) wx ∧ Bk 69 wx wr.heap.size #[.int .i64 (ja : Int), .int .i64 (jb : Int), .int .i64 m, .int .i64 t'])
                    case first =>
                      rcases hcase with ⟨hle, rfl⟩ | ⟨hle, rfl⟩
                      all_goals
                        go_still_tail 27, (by kernel_rfl)
                        go_wp2
                        go_meet
                        first
                          | exact ⟨HSET1.out, HSB1.out⟩
                          | exact ⟨HSET1.out.ext (ext_drewN _ _), HSB1.out.ext (ext_drewN _ _)⟩
                          | exact ⟨HSET1.out.ext (ext_drew _), HSB1.out.ext (ext_drew _)⟩
                    case rest =>
                      obtain ⟨hs3, hb3⟩ := hcut
                      have HS3 := Lib.hid hs3
                      have HGA2 := Lib.hid HGA.out.symm
                      obtain ⟨f1, f2, f3⟩ := hs3.2.1.facts
                      obtain ⟨e1, e2, e3⟩ := hb3.facts
                      have q1 := hs3.out hla hla
                      have hrow := (hs3.2.2.2.1 a hla).2
                      rw [HGA2.out] at q1 hrow
                      have es : setR Ra a (upd d jb v1) a = upd d jb v1 := by unfold setR; rw [if_pos rfl]
                      rw [es] at hrow
                      have ev1 : 0 ≤ v1 ∧ v1 ≤ 1099511627776 := by omega
                      have hd1 : ∀ j, j = ja ∨ j = jb → 0 ≤ upd d jb v1 j ∧ upd d jb v1 j ≤ 1099511627776 := fun j hj => by
                        unfold upd
                        split
                        · exact ev1
                        · rcases hj with rfl | rfl
                          · exact hda
                          · exact hdb
                      have hd1a := hd1 ja (.inl rfl)
                      have hd1b := hd1 jb (.inr rfl)
                      have q2 := hrow.cell (i := ja) (by omega)
                      have q3 := hrow.cell (i := jb) (by omega)
                      have q4 := hrow.frozen ja
                      have q5 := hrow.lt
                      have hob := hs3.2.2.1.lt
                      obtain ⟨d1, hdd⟩ : ∃ d1, d1 = upd d jb v1 := ⟨_, rfl⟩
                      have hnq := HNQ.out
                      rw [← hdd] at q2 q3 hd1a hd1b hs3 hnq es
                      obtain ⟨v2, hv2⟩ : ∃ v2, v2 = min (d1 ja) (d1 jb + m) := ⟨_, rfl⟩
                      rw [← hv2] at hnq
                      have HNQ2 := Lib.hid hnq
                      have hset := hs3.set (a := a) hla ja v2
                      rw [es, HGA2.out] at hset
                      have HSET2 := Lib.hid (hset.congr (R' := setR Ra a (rxQ l (rxR l a r) (q + 1))) (fun i j _ _ => by rw [hnq]; unfold setR; split <;> rfl))
                      have hcase2 : (d1 ja ≤ d1 jb + m ∧ v2 = d1 ja) ∨ (d1 jb + m < d1 ja ∧ v2 = d1 jb + m) := by omega
                      have y2 : IntKind.i64.wrap (d1 jb + m) = d1 jb + m := IntWalk.i64_in _ ⟨by omega, by omega⟩
                      clear hs3 hb3 hrow es hd1 hdd hnq hv2 hset HSET1 HSB1 HSq hcase y1 HNQ
                      rcases hcase2 with ⟨hle, rfl⟩ | ⟨hle, rfl⟩
                      all_goals
                        go_upto_region 22 with (fail)
                        go_still_tail 27, (by kernel_rfl)
                        go_wp2
                        go_roundg (l.length - (q + 1))
                        case measure => have := HGq.out; omega
                        case rel => exact ⟨q + 1, by go_num, by omega, rfl, by first | exact HSET2.out | exact HSET2.out.ext (ext_drewN _ _) | exact HSET2.out.ext (ext_drew _)⟩
                · obtain rfl : q = l.length := by omega
                  have HN := Lib.hid (HSq.out.congr (R' := fun i => if i < a + 1 then rxR l i (r + 1) else rxR l i r) (fun i j _ _ => by
                    unfold setR
                    split
                    · rename_i hi; subst hi; rw [if_pos (by omega)]; rfl
                    · rename_i hi
                      rw [HRA.out]
                      dsimp only
                      by_cases h1 : i < a
                      · rw [if_pos h1, if_pos (by omega)]
                      · rw [if_neg h1, if_neg (by omega)]))
                  go_wp2
                  go_roundg (n - (a + 1))
                  case measure => have := HGa.out; omega
                  case rel => exact ⟨a + 1, by go_num, by omega, rfl, HN.out⟩
            · obtain rfl : a = n := by omega
              have HN := Lib.hid (HSa.out.congr (R' := fun i => rxR l i (r + 1)) (fun i j hi _ => by rw [if_pos hi]))
              go_wp2
              go_roundg (a - (r + 1))
              case measure => have := HGr.out; omega
              case rel => exact ⟨r + 1, by go_num, by omega, rfl, HN.out⟩
        · obtain rfl : r = n := by omega
          have HN := Lib.hid (HSr.out.congr (R' := (tbl r l).L) (fun i j hi hj => rx_tbl (fun s hs => HOK.out.2.2.2 s hs) hi j hj))
          go_wp2
          go_ret
          exact ⟨rfl, B, HN.out⟩
end Go.Proofs.Ytbhjhajnhpohlaa
