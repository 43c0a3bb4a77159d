/- rounds, Round and Tour walked, the program's. Conditions: the slice reads as a list of seams. -/
import Derived.Test.YtbhjhajnhpohlaaRdn
import Derived.Test.YtbhjhajnhpohlaaTl
import Derived.Test.YtbhjhajnhpohlaaFr
namespace Go.Proofs.Ytbhjhajnhpohlaa
open Go.RowKit

/-- the least length of a round -/
def rndN (n : Nat) (l : List Sm) : Int := sumN l l.length + (dpv (fun i j => (tbl n l).L (jt (oddN allS l 16) i) (jt (oddN allS l 16) j)) 17592186044416 (oddN allS l 16).length (2 ^ (oddN allS l 16).length - 1)).1
def ROk (N f : Int) (l : List Sm) : Prop := GOk N l ∧ 0 ≤ f ∧ f < N
instance (N f : Int) (l : List Sm) : Decidable (ROk N f l) := by unfold ROk; infer_instance
/-- what rounds answers -/
def RetRs (w : World) (N f : Int) (l : List Sm) (e : Ending) (w' : World) : Prop :=
  Below w.heap.size w w' ∧ ((¬ ROk N f l ∧ e = .returned (.tuple #[.slice none 0 0, .int .i64 2])) ∨ (ROk N f l ∧ ¬ Conn l f.toNat ∧ e = .returned (.tuple #[.slice none 0 0, .int .i64 7])) ∨
    (ROk N f l ∧ Conn l f.toNat ∧ ∃ Y A' c', RnL N.toNat f.toNat l Y ∧ e = .returned (.tuple #[.slice A' (List.length Y) c', .int .i64 0]) ∧ Y.length ≤ c' ∧ c' ≤ maxLen ∧ LSl w' A' Y))
set_option maxRecDepth 100000 in
set_option maxHeartbeats 4000000 in
theorem rounds_any (N f : Int) (A : Option Addr) (cap : Nat) (l : List Sm) (w : World) (hc : l.length ≤ cap) (hcm : cap ≤ 9223372036854775807) (h : SSl w A l) :
    Calls Try.prog 64 #[.agg #[.int .i64 N, .slice A l.length cap], .int .i64 f] w (RetRs w N f l) := by
  have HV := Lib.hid (fun W (h : SSl W A l) => valid_any N A cap l W hc hcm h)
  have H := Lib.hid h
  have HB0 := Lib.hid (Bk.new 30 w #[.int .i64 N, .slice A l.length cap])
  have HE0 := Lib.hid (ext_alloc w (.cells #[.int .i64 N, .slice A l.length cap] 30))
  clear h
  by_cases hok : GOk N l
  · rw [vldG_yes hok] at HV
    by_cases hab : 0 ≤ f ∧ f < N
    · have HOK := Lib.hid (show ROk N f l from ⟨hok, hab⟩)
      obtain ⟨n, hn⟩ := Int.eq_ofNat_of_zero_le (show 0 ≤ N by have := hok.1; omega)
      subst hn
      obtain ⟨a1, a2⟩ := hab
      obtain ⟨j, rfl⟩ := Int.eq_ofNat_of_zero_le a1
      have hj : j < n := by omega
      have hn16 : n ≤ 16 := by have := hok.2.1; omega
      by_cases hcn : Conn l j
      · have HR := Lib.hid (fun W (h : SSl W A l) => round_any n j A cap l W hok hj hcn (lo_rng hok.2.2.2) (lo_con hok.2.2.2 hn16 hcn) (lo_even hok.2.2.2 hn16) hc hcm h)
        have HRL := Lib.hid (fun X ps he hx hl => rnl_of (X := X) (ps := ps) hok hj hcn he hx hl)
        have HCN := Lib.hid hcn
        clear hok hcn
        go_enter Try.func64, Try.ntmps64
        go_wp2_with (first
          | (go_at_call 21; refine (HV.out _ (H.out.ext HE0.out)).mono ?_; rintro e w1 ⟨rfl, hx1⟩; have B1 := ext_trans HE0.out hx1; obtain ⟨f1, f2, f3⟩ := (HB0.out.ext hx1).facts)
          | (go_at_call 77; refine (HR.out _ (H.out.ext B1)).mono ?_; rintro e w2 ⟨X, ps, A2, c2, he, hx, hxl, rfl, h2, h3, hls, hx2⟩; have B2 := bext B1 hx2 B1.size; have RL := Lib.hid (HRL.out X ps he hx hxl); clear he hx hxl))
        go_ret2
        exact ⟨B2, .inr (.inr ⟨HOK.out, HCN.out, _, A2, c2, RL.out, by simp only [List.length_append]; rfl, h2, h3, hls⟩)⟩
      · have HR := Lib.hid (fun W (h : SSl W A l) => round_none n j A cap l W hok hj hcn hc hcm h)
        have HCN := Lib.hid hcn
        clear hok hcn
        go_enter Try.func64, Try.ntmps64
        go_wp2_with (first
          | (go_at_call 21; refine (HV.out _ (H.out.ext HE0.out)).mono ?_; rintro e w1 ⟨rfl, hx1⟩; have B1 := ext_trans HE0.out hx1; obtain ⟨f1, f2, f3⟩ := (HB0.out.ext hx1).facts)
          | (go_at_call 77; refine (HR.out _ (H.out.ext B1)).mono ?_; rintro e w2 ⟨rfl, hx2⟩; have B2 := bext B1 hx2 B1.size))
        go_ret2
        exact ⟨B2, .inr (.inl ⟨HOK.out, HCN.out, rfl⟩)⟩
    · have HOK := Lib.hid (show ¬ ROk N f l from fun h => hab h.2)
      clear hok
      have hcs : f < 0 ∨ N ≤ f := by omega
      clear hab
      go_enter Try.func64, Try.ntmps64
      go_wp2_with (go_at_call 21; refine (HV.out _ (H.out.ext HE0.out)).mono ?_; rintro e w1 ⟨rfl, hx1⟩; have B1 := ext_trans HE0.out hx1; obtain ⟨f1, f2, f3⟩ := (HB0.out.ext hx1).facts)
      all_goals
        first
          | (exfalso; omega)
          | (go_ret2; exact ⟨B1, .inl ⟨HOK.out, rfl⟩⟩)
  · rw [vldG_no hok] at HV
    have HOK := Lib.hid (show ¬ ROk N f l from fun h => hok h.1)
    clear hok
    go_enter Try.func64, Try.ntmps64
    go_wp2_with (go_at_call 21; refine (HV.out _ (H.out.ext HE0.out)).mono ?_; rintro e w1 ⟨rfl, hx1⟩; have B1 := ext_trans HE0.out hx1; obtain ⟨f1, f2, f3⟩ := (HB0.out.ext hx1).facts)
    go_ret2
    exact ⟨B1, .inl ⟨HOK.out, rfl⟩⟩
theorem lnLen_bd {N : Int} {l : List Sm} (h : ∀ s ∈ l, SmOk N s) {s : Ln} (hs : IsLn l s) : 1 ≤ lnLen l s ∧ lnLen l s ≤ 10000 := by
  obtain ⟨q, hq, rfl⟩ := hs
  have := h _ (List.getElem_mem hq)
  unfold SmOk at this
  have e : lnLen l ⟨q, l[q].a, l[q].b⟩ = l[q].n := by simp [lnLen, List.getD_eq_getElem?_getD, hq]
  rw [e]
  omega
theorem lnSum_bd {N : Int} {l : List Sm} (h : ∀ s ∈ l, SmOk N s) : ∀ (Y : List Ln), (∀ s ∈ Y, IsLn l s) → 0 ≤ lnSum l Y ∧ lnSum l Y ≤ Y.length * 10000
  | [], _ => by simp [lnSum]
  | s :: Y, hY => by
    have ih := lnSum_bd h Y (fun t ht => hY t (by simp [ht]))
    have h1 := lnLen_bd h (hY s (by simp))
    have e : lnSum l (s :: Y) = lnLen l s + lnSum l Y := by simp [lnSum]
    rw [e, List.length_cons]
    push_cast
    omega
/-- what Round answers -/
def RetRd (w : World) (N f : Int) (l : List Sm) (e : Ending) (w' : World) : Prop :=
  Below w.heap.size w w' ∧ ((¬ ROk N f l ∧ e = .returned (.tuple #[.int .i64 0, .int .i64 2])) ∨ (ROk N f l ∧ ¬ Conn l f.toNat ∧ e = .returned (.tuple #[.int .i64 0, .int .i64 7])) ∨
    (ROk N f l ∧ Conn l f.toNat ∧ e = .returned (.tuple #[.int .i64 (rndN N.toNat l), .int .i64 0])))
set_option maxRecDepth 100000 in
set_option maxHeartbeats 4000000 in
theorem Round_any (N f : Int) (A : Option Addr) (cap : Nat) (l : List Sm) (w : World) (hc : l.length ≤ cap) (hcm : cap ≤ 9223372036854775807) (h : SSl w A l) :
    Calls Try.prog 32 #[.agg #[.int .i64 N, .slice A l.length cap], .int .i64 f] w (RetRd w N f l) := by
  have HR := Lib.hid (fun W (h : SSl W A l) => rounds_any N f A cap l W hc hcm h)
  have H := Lib.hid h
  have HB0 := Lib.hid (Bk.new 30 w #[.int .i64 N, .slice A l.length cap])
  have HE0 := Lib.hid (ext_alloc w (.cells #[.int .i64 N, .slice A l.length cap] 30))
  clear h
  go_enter Try.func32, Try.ntmps32
  go_wp2_with (go_at_call 64; refine (HR.out _ (H.out.ext HE0.out)).mono ?_; rintro e w1 ⟨hx1, hd⟩; have B1 := Lib.hid (ext_trans HE0.out hx1); have HG1 := Lib.hid (HB0.out.ext hx1); clear hx1; rcases hd with ⟨hno, rfl⟩ | ⟨hyes, hcn, rfl⟩ | ⟨hyes, hcn, Y, A', c', hrl, rfl, hy1, hy2, hls⟩)
  · go_loopg [19, 8] 0 (fun g i z wr => i = .int .i64 0 ∧ z = .int .i64 0 ∧ wr = w1)
    case atStart => exact ⟨rfl, rfl, rfl⟩
    case round =>
      obtain ⟨rfl, rfl, rfl⟩ := hrel
      go_wp2
      go_ret2
      exact ⟨B1.out, .inl ⟨hno, rfl⟩⟩
  · go_loopg [19, 8] 0 (fun g i z wr => i = .int .i64 0 ∧ z = .int .i64 0 ∧ wr = w1)
    case atStart => exact ⟨rfl, rfl, rfl⟩
    case round =>
      obtain ⟨rfl, rfl, rfl⟩ := hrel
      go_wp2
      go_ret2
      exact ⟨B1.out, .inr (.inl ⟨hyes, hcn, rfl⟩)⟩
  · have HY := Lib.hid hyes
    have HCN := Lib.hid hcn
    have HRL := Lib.hid hrl
    have HLS := Lib.hid hls
    have hl1000 := hrl.len
    unfold maxLen at hy2
    clear hyes hcn hrl hls
    go_loopg [19, 8] Y.length (fun g i z wr => ∃ k : Nat, i = .int .i64 k ∧ z = .int .i64 (lnSum l (Y.take k)) ∧ k ≤ Y.length ∧ g = Y.length - k ∧ Below w1.heap.size w1 wr)
    case atStart => exact ⟨0, rfl, rfl, by omega, by omega, Below.refl _ _⟩
    case round =>
      obtain ⟨k, rfl, rfl, hk, hg, hb⟩ := hrel
      have HG := Lib.hid hg
      have hbw := bext B1.out hb B1.out.size
      obtain ⟨f1, f2, f3⟩ := (HG1.out.ext hb).facts
      clear hg
      by_cases hlt : k < Y.length
      · obtain ⟨q, hq, hYk⟩ := HRL.out.ln _ (List.getElem_mem hlt)
        rcases H.out.ext hbw with hf' | ⟨b, off, rfl, hblt, hcl⟩
        · rw [hf'] at hq; simp at hq
        · rcases HLS.out.ext hb with hl2 | ⟨b2, off2, rfl, hblt2, hcl2⟩
          · rw [hl2] at hlt; simp at hlt
          · obtain ⟨c1, c2, c3, c4⟩ := hcl q hq
            obtain ⟨d1, d2, d3⟩ := hcl2 k hlt
            have hbd := lnSum_bd HY.out.1.2.2.2 (Y.take k) (fun s hs => HRL.out.ln s (List.mem_of_mem_take hs))
            have hl64 := HY.out.1.2.2.1
            rw [List.length_take] at hbd
            have hsn : lnSum l (Y.take (k + 1)) = lnSum l (Y.take k) + l[q].n := by
              rw [List.take_succ_eq_append_getElem hlt, lnSum_append, hYk]
              congr 1
              simp [lnSum, lnLen, List.getD_eq_getElem?_getD, hq]
            have hso := HY.out.1.2.2.2 _ (List.getElem_mem hq)
            rw [hYk] at d1 d2 d3
            unfold SmOk at hso
            obtain ⟨s, hs⟩ : ∃ s, s = l[q] := ⟨_, rfl⟩
            rw [← hs] at c1 c2 c3 c4 d2 d3 hsn hso
            obtain ⟨a, b', m, t⟩ := s
            dsimp only at c1 c2 c3 c4 d1 d2 d3 hso hsn
            obtain ⟨-, -, -, -, o5, o6, -, -⟩ := hso
            have HSN := Lib.hid hsn
            have hx0 : 0 ≤ lnSum l (Y.take k) ∧ lnSum l (Y.take k) ≤ 10000000 := by omega
            clear hs hcl hcl2 hYk hsn hbd
            generalize lnSum l (Y.take k) = x at *
            go_wp2
            go_roundg (Y.length - (k + 1))
            case measure => have := HG.out; omega
            case rel => exact ⟨k + 1, by go_num, by rw [HSN.out], by omega, rfl, hb.alloc hb.size _⟩
      · obtain rfl : k = Y.length := by omega
        go_wp2
        go_ret2
        exact ⟨hbw, .inr (.inr ⟨HY.out, HCN.out, by rw [List.take_length, HRL.out.sum]; rfl⟩)⟩
/-- what Tour answers -/
def RetTo (w : World) (N f : Int) (l : List Sm) (e : Ending) (w' : World) : Prop :=
  Below w.heap.size w w' ∧ ((¬ ROk N f l ∧ e = .returned (.tuple #[.slice none 0 0, .int .i64 2])) ∨ (ROk N f l ∧ ¬ Conn l f.toNat ∧ e = .returned (.tuple #[.slice none 0 0, .int .i64 7])) ∨
    (ROk N f l ∧ Conn l f.toNat ∧ ∃ Y hs A' c', RnL N.toNat f.toNat l Y ∧ Tour Y f hs ∧ e = .returned (.tuple #[.slice A' (List.length hs) c', .int .i64 0]) ∧ hs.length ≤ c' ∧ c' ≤ maxLen ∧ MSl w' A' (hs.map (Hop.mv Y))))
theorem lnOk_of {N : Int} {l : List Sm} (h : GOk N l) {Y : List Ln} (hY : ∀ s ∈ Y, IsLn l s) : ∀ s ∈ Y, LnOk s := by
  intro s hs
  obtain ⟨q, hq, rfl⟩ := hY s hs
  have := h.2.2.2 _ (List.getElem_mem hq)
  unfold SmOk at this
  have h16 := h.2.1
  exact ⟨by show 0 ≤ l[q].a; omega, by show l[q].a < 16; omega, by show 0 ≤ l[q].b; omega, by show l[q].b < 16; omega⟩
set_option maxRecDepth 100000 in
set_option maxHeartbeats 4000000 in
theorem Tour_any (N f : Int) (A : Option Addr) (cap : Nat) (l : List Sm) (w : World) (hc : l.length ≤ cap) (hcm : cap ≤ 9223372036854775807) (h : SSl w A l) :
    Calls Try.prog 34 #[.agg #[.int .i64 N, .slice A l.length cap], .int .i64 f] w (RetTo w N f l) := by
  have HR := Lib.hid (fun W (h : SSl W A l) => rounds_any N f A cap l W hc hcm h)
  have H := Lib.hid h
  have HB0 := Lib.hid (Bk.new 30 w #[.int .i64 N, .slice A l.length cap])
  have HE0 := Lib.hid (ext_alloc w (.cells #[.int .i64 N, .slice A l.length cap] 30))
  clear h
  go_enter Try.func34, Try.ntmps34
  go_wp2_with (first
    | (go_at_call 64; refine (HR.out _ (H.out.ext HE0.out)).mono ?_; rintro e w1 ⟨hx1, hd⟩; have B1 := Lib.hid (ext_trans HE0.out hx1); have HG1 := Lib.hid (HB0.out.ext hx1); clear hx1; rcases hd with ⟨hno, rfl⟩ | ⟨hyes, hcn, rfl⟩ | ⟨hyes, hcn, Y, A', c', hrl, rfl, hy1, hy2, hls⟩)
    | (go_at_call 65; refine (trail_any A' c' Y f _ (lnOk_of hyes.1 hrl.ln) hrl.len hy1 (by unfold maxLen at hy2; exact hy2) hls ⟨hyes.2.1, by have := hyes.1.2.1; have := hyes.2.2; omega⟩ hrl.ev (by have h := hrl.hg; rw [Int.toNat_of_nonneg hyes.2.1] at h; exact h)).mono ?_; rintro e w2 ⟨hs, A2, c2, ht, rfl, h2, h3, hms, hx2⟩; have B2 := bext B1.out hx2 B1.out.size))
  · go_ret2
    exact ⟨B1.out, .inl ⟨hno, rfl⟩⟩
  · go_ret2
    exact ⟨B1.out, .inr (.inl ⟨hyes, hcn, rfl⟩)⟩
  · go_ret2
    exact ⟨B2, .inr (.inr ⟨hyes, hcn, Y, hs, A2, c2, hrl, ht, rfl, h2, h3, hms⟩)⟩
end Go.Proofs.Ytbhjhajnhpohlaa
