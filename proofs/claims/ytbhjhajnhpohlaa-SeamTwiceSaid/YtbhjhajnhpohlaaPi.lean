/- pieces, Pieces and Bridges walked, the program's and the reference's. Conditions: the slice reads as a list of seams. -/
import Derived.Test.YtbhjhajnhpohlaaRc
namespace Go.Proofs.Ytbhjhajnhpohlaa
open Go.RowKit

/-- all seams but one -/
def chP (but : Int) (k : Nat) : Bool := decide ((k : Int) ≠ but)
theorem cls_congr {ch ch' : Nat → Bool} {l : List Sm} (h : ∀ k, k < l.length → ch k = ch' k) : ∀ k, k ≤ l.length → cls ch l k = cls ch' l k
  | 0, _ => rfl
  | k + 1, hk => by
    have hlt : k < l.length := by omega
    rw [cls_succ hlt, cls_succ hlt, cls_congr h k (by omega), h k hlt]
theorem chB_chP {l : List Sm} {but : Int} {k : Nat} (h : k < l.length) : chB l (-1) but k = chP but k := by
  unfold chB chP chR
  rw [List.getElem?_eq_getElem h]
  simp
/-- the number of pieces without one seam -/
def pcs (n : Nat) (l : List Sm) (but : Int) : Nat := cnt (fun j => decide ((j : Int) = cls (chP but) l l.length j)) n
theorem pcs_le (n : Nat) (l : List Sm) (but : Int) : pcs n l but ≤ n := cnt_le _ _
/-- the bridges among the first k seams -/
def brd (n : Nat) (l : List Sm) : Nat → List Int
  | 0 => []
  | k + 1 => if pcs n l (-1) < pcs n l k then brd n l k ++ [(k : Int)] else brd n l k
theorem brd_len (n : Nat) (l : List Sm) : ∀ k, (brd n l k).length ≤ k
  | 0 => by simp [brd]
  | k + 1 => by
    have := brd_len n l k
    unfold brd
    split
    · simp; omega
    · omega

theorem enters75 : Enters 75 := fun _ _ => by kernel_rfl
set_option maxHeartbeats 1000000 in
theorem pieces1_any (k : Int) (s : Sm) (g : Nat) (but : Int) (W : World) (h : W.cell? ⟨g, 0, none⟩ = some (.int .i64 but)) :
    Calls Try.prog 75 (#[.int .i64 k, s.val] ++ #[.pointer (some ⟨g, 0, none⟩)]) W fun e w' => e = .returned (.bool (k != but)) ∧ Below W.heap.size W w' := by
  obtain ⟨a, b, n, t'⟩ := s
  have hg := World.block_lt_of_cell? W ⟨g, 0, none⟩ h
  show Calls Try.prog 75 #[.int .i64 k, .agg #[.int .i64 a, .int .i64 b, .int .i64 n, .int .i64 t'], .pointer (some ⟨g, 0, none⟩)] W _
  dsimp only at hg
  go_enter Try.func75, Try.ntmps75
  go_wp2
  go_ret
  exact ⟨rfl, ext_alloc _ _⟩
theorem chk_pieces (l : List Sm) (w : World) (g : Nat) (but : Int) (h : w.cell? ⟨g, 0, none⟩ = some (.int .i64 but)) : ChK w 75 #[.pointer (some ⟨g, 0, none⟩)] l (chP but) :=
  ⟨enters75, fun W hW k hk => (pieces1_any k l[k] g but W ((hW.cell (p := ⟨g, 0, none⟩) (World.block_lt_of_cell? w ⟨g, 0, none⟩ h)).trans h)).mono fun e w' ⟨h1, h2⟩ => ⟨by
    rw [h1]
    refine ret_bool ?_
    unfold chP
    rw [Bool.eq_iff_iff]
    simp, h2⟩⟩

set_option maxRecDepth 100000 in
set_option maxHeartbeats 4000000 in
theorem pieces_any (n : Nat) (A : Option Addr) (cap : Nat) (l : List Sm) (but : Int) (w : World) (hok : GOk n l) (hc : l.length ≤ cap) (hcm : cap ≤ 9223372036854775807) (h : SSl w A l) :
    Calls Try.prog 62 #[.agg #[.int .i64 (n : Int), .slice A l.length cap], .int .i64 but] w fun e w' => e = .returned (.int .i64 (pcs n l but : Nat)) ∧ Below w.heap.size w w' := by
  have HCL := Lib.hid (fun W g (hg : W.cell? ⟨g, 0, none⟩ = some (.int .i64 but)) (h : SSl W A l) => classes_any n A cap l _ _ (chP but) W hok hc hcm h (chk_pieces l W g but hg))
  have n2 : n ≤ 16 := by have := hok.2.1; omega
  have hx := ((Below.refl w.heap.size w).alloc (Nat.le_refl _) (.cells #[.int .i64 (n : Int), .slice A l.length cap] 30)).alloc (by simp) (.cells #[.int .i64 but] 3)
  have HX := Lib.hid hx
  have hb2 := Bk.new 3 (w.alloc (.cells #[.int .i64 (n : Int), .slice A l.length cap] 30)) #[.int .i64 but]
  rw [World.size_alloc] at hb2
  have HB2 := Lib.hid hb2
  have H2 := Lib.hid (h.ext hx)
  clear h hok hx hb2
  go_enter Try.func62, Try.ntmps62
  go_wp2_with (go_at_call 74; refine (HCL.out _ _ (HB2.out.cell 0) H2.out).mono ?_; rintro e w1 ⟨bc, rfl, hoc, hbc, hx1⟩; have HO := Lib.hid hoc; have HX1 := Lib.hid (bext HX.out hx1 HX.out.size); clear hoc hbc hx1)
  go_loopg [12, 5] n (fun g i z wr => ∃ k : Nat, i = .int .i64 k ∧ z = .int .i64 (cnt (fun j => decide ((j : Int) = cls (chP but) l l.length j)) k : Nat) ∧ k ≤ n ∧ g = n - k ∧ wr = w1)
  case atStart => exact ⟨0, rfl, rfl, by omega, by omega, rfl⟩
  case round =>
    obtain ⟨k, rfl, rfl, hk, hg, rfl⟩ := hrel
    have HG := Lib.hid hg
    clear hg
    by_cases hlt : k < n
    · have q1 := HO.out.cell hlt
      have q2 := HO.out.lt
      have hcl := cnt_le (fun j => decide ((j : Int) = cls (chP but) l l.length j)) k
      have hstep : cnt (fun j => decide ((j : Int) = cls (chP but) l l.length j)) (k + 1) = cnt (fun j => decide ((j : Int) = cls (chP but) l l.length j)) k + if decide ((k : Int) = cls (chP but) l l.length k) then 1 else 0 := rfl
      have HST := Lib.hid hstep
      clear hstep
      generalize cnt (fun j => decide ((j : Int) = cls (chP but) l l.length j)) k = m at *
      by_cases he : (k : Int) = cls (chP but) l l.length k
      · have he2 : ((k : Int) == cls (chP but) l l.length k) = true := by simpa using he
        have hst := HST.out
        rw [decide_eq_true he, if_pos rfl] at hst
        have HST2 := Lib.hid hst
        clear he hst HST
        go_wp2
        go_roundg (n - (k + 1))
        case measure => have := HG.out; omega
        case rel => exact ⟨k + 1, by go_num, by rw [HST2.out]; go_num, by omega, rfl, rfl⟩
      · have he2 : ((k : Int) == cls (chP but) l l.length k) = false := by simpa using he
        have hst := HST.out
        rw [decide_eq_false he, if_neg (by simp), Nat.add_zero] at hst
        have HST2 := Lib.hid hst
        clear he hst HST
        go_wp2
        go_roundg (n - (k + 1))
        case measure => have := HG.out; omega
        case rel => exact ⟨k + 1, by go_num, by rw [HST2.out]; rfl, by omega, rfl, rfl⟩
    · obtain rfl : k = n := by omega
      go_wp2
      go_ret
      exact ⟨rfl, HX1.out⟩

set_option maxRecDepth 100000 in
set_option maxHeartbeats 4000000 in
theorem rpieces_any (n : Nat) (A : Option Addr) (cap : Nat) (l : List Sm) (but : Int) (w : World) (hok : GOk n l) (hc : l.length ≤ cap) (hcm : cap ≤ 9223372036854775807) (h : SSl w A l) :
    Calls Try.prog 63 #[.agg #[.int .i64 (n : Int), .slice A l.length cap], .int .i64 but] w fun e w' => e = .returned (.int .i64 (pcs n l but : Nat)) ∧ Below w.heap.size w w' := by
  have hcl := fun W (h : SSl W A l) => rclasses_any n A cap l (-1) but W hok hc hcm h
  rw [cls_congr (ch := chB l (-1) but) (ch' := chP but) (fun k hk => chB_chP hk) l.length (Nat.le_refl _)] at hcl
  have HCL := Lib.hid hcl
  clear hcl
  have n2 : n ≤ 16 := by have := hok.2.1; omega
  have HX := Lib.hid (ext_alloc w (.cells #[.int .i64 (n : Int), .slice A l.length cap] 24))
  have H2 := Lib.hid (h.ext HX.out)
  clear h hok
  go_enter Try.func63, Try.ntmps63
  go_wp2_with (go_at_call 76; refine (HCL.out _ H2.out).mono ?_; rintro e w1 ⟨bc, rfl, hoc, hbc, hx1⟩; have HO := Lib.hid hoc; have HX1 := Lib.hid (bext HX.out hx1 HX.out.size); clear hoc hbc hx1)
  go_loopg [12, 5] n (fun g i z wr => ∃ k : Nat, i = .int .i64 k ∧ z = .int .i64 (cnt (fun j => decide ((j : Int) = cls (chP but) l l.length j)) k : Nat) ∧ k ≤ n ∧ g = n - k ∧ wr = w1)
  case atStart => exact ⟨0, rfl, rfl, by omega, by omega, rfl⟩
  case round =>
    obtain ⟨k, rfl, rfl, hk, hg, rfl⟩ := hrel
    have HG := Lib.hid hg
    clear hg
    by_cases hlt : k < n
    · have q1 := HO.out.cell hlt
      have q2 := HO.out.lt
      have hcl := cnt_le (fun j => decide ((j : Int) = cls (chP but) l l.length j)) k
      have hstep : cnt (fun j => decide ((j : Int) = cls (chP but) l l.length j)) (k + 1) = cnt (fun j => decide ((j : Int) = cls (chP but) l l.length j)) k + if decide ((k : Int) = cls (chP but) l l.length k) then 1 else 0 := rfl
      have HST := Lib.hid hstep
      clear hstep
      generalize cnt (fun j => decide ((j : Int) = cls (chP but) l l.length j)) k = m at *
      by_cases he : (k : Int) = cls (chP but) l l.length k
      · have he2 : (cls (chP but) l l.length k == (k : Int)) = true := by simpa using he.symm
        have hst := HST.out
        rw [decide_eq_true he, if_pos rfl] at hst
        have HST2 := Lib.hid hst
        clear he hst HST
        go_wp2
        go_roundg (n - (k + 1))
        case measure => have := HG.out; omega
        case rel => exact ⟨k + 1, by go_num, by rw [HST2.out]; go_num, by omega, rfl, rfl⟩
      · have he2 : (cls (chP but) l l.length k == (k : Int)) = false := by simpa using fun h => he h.symm
        have hst := HST.out
        rw [decide_eq_false he, if_neg (by simp), Nat.add_zero] at hst
        have HST2 := Lib.hid hst
        clear he hst HST
        go_wp2
        go_roundg (n - (k + 1))
        case measure => have := HG.out; omega
        case rel => exact ⟨k + 1, by go_num, by rw [HST2.out]; rfl, by omega, rfl, rfl⟩
    · obtain rfl : k = n := by omega
      go_wp2
      go_ret
      exact ⟨rfl, HX1.out⟩
end Go.Proofs.Ytbhjhajnhpohlaa
