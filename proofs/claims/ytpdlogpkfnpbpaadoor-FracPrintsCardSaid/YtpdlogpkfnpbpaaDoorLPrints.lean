/- FracPrints walked. Conditions: the parts are within int, the table of powers of ten is laid. -/
import Derived.Test.YtpdlogpkfnpbpaaDoorPw
import Derived.Test.YtpdlogpkfnpbpaaDoorPq
import Derived.Test.YtpdlogpkfnpbpaaDoorFf
namespace Go.Proofs.YtpdlogpkfnpbpaaDoor
open Go.RowKit

/-- a valid fraction's string parses to it -/
theorem paR_print {a d : Int} (h : vldB a d = true) {t : Int × Int × Int} (ht : PaR (prS a d) t) : t = (a, d, 0) := by
  have hv : Vld a d := of_decide_eq_true h
  obtain ⟨e1, e2⟩ := rat_one hv.1 hv.2.2.2.2
  have hq : InQ (rat a d) := by
    obtain ⟨h1, h2, h3, h4, _⟩ := hv
    exact rat_inq h1 h2 h3 h4
  refine paR_uniq ht (.inl ⟨rat a d, hq, ?_, ?_⟩)
  · unfold prS
    rw [if_pos h, e1]
    congr 1
    omega
  · rw [e1, e2]
theorem prS_len (a d : Int) : (prS a d).length ≤ 1000 := by
  unfold prS
  split
  · rename_i h
    have hv : Vld a d := of_decide_eq_true h
    obtain ⟨h1, h2, h3, h4, _⟩ := hv
    unfold printP absP
    have l1 := dec_len 9 (a.natAbs / d.toNat) (by have := Nat.div_le_self a.natAbs d.toNat; omega)
    have l2 := dec_len 9 (a.natAbs % d.toNat) (by have := Nat.mod_le a.natAbs d.toNat; omega)
    have l3 := dec_len 9 d.toNat (by omega)
    have l4 : (if a < 0 then [45] else ([] : List UInt8)).length ≤ 1 := by split <;> simp
    obtain ⟨s, hs⟩ : ∃ s, s = (if a < 0 then [45] else ([] : List UInt8)) := ⟨_, rfl⟩
    rw [← hs] at l4 ⊢
    rw [List.length_append]
    split
    · omega
    · split
      · rw [List.length_append, List.length_cons]; omega
      · rw [List.length_append, List.length_cons, List.length_append, List.length_cons]; omega
  · simp
set_option maxRecDepth 100000 in
set_option maxHeartbeats 4000000 in
theorem law_prints (a d : Int) (w : World) (hn : IsI a) (hd : IsI d) (ht : P10 w) :
    Calls Tryd.prog 3 #[.agg #[.int .i64 a, .int .i64 d]] w fun e w' => e = .returned (.bool true) ∧ Below w.heap.size w w' := by
  have hx0 := pext_alloc w (.cells #[.int .i64 a, .int .i64 d] 23)
  obtain ⟨W0, hW0⟩ : ∃ W0, W0 = w.alloc (.cells #[.int .i64 a, .int .i64 d] 23) := ⟨_, rfl⟩
  rw [← hW0] at hx0
  have HX0 := Lib.hid hx0
  have hS : ∀ w', Below W0.heap.size W0 w' → w'.cell? ⟨w.heap.size, 0, none⟩ = some (.int .i64 a) ∧ w'.cell? ⟨w.heap.size, 1, none⟩ = some (.int .i64 d) := by
    intro w' h
    have hlt : w.heap.size < W0.heap.size := by rw [hW0]; simp
    refine ⟨?_, ?_⟩ <;> (rw [h.cell hlt, hW0]; simp [go_sem])
  have HSS := Lib.hid hS
  have HP := Lib.hid (fun W (h : Below W0.heap.size W0 W) => print_any a d W hn hd (ht.ext (ext_trans hx0 h)))
  have HR := Lib.hid (fun W (h : Below W0.heap.size W0 W) => rprint_any a d W hn hd (ht.ext (ext_trans hx0 h)))
  have HPA := Lib.hid (fun W (h : Below W0.heap.size W0 W) => parse_any (prS a d) W (by have := prS_len a d; omega) (ht.ext (ext_trans hx0 h)))
  unfold RetP at HPA
  have HSE := Lib.hid (str_beq (prS a d) (prS a d))
  rw [decide_eq_true rfl] at HSE
  have HW0 := Lib.hid hW0
  have HB0 := Lib.hid (Below.refl W0.heap.size W0)
  obtain ⟨s, hs⟩ : ∃ s, s = BS (prS a d) := ⟨_, rfl⟩
  rw [← hs] at HP HR HPA HSE
  have hse := HSE.out
  have hbw : Below W0.heap.size W0 W0 := HB0.out
  obtain ⟨c0, c1⟩ := HSS.out _ hbw
  cases hv : vldB a d
  · rw [hv] at HP HR
    clear hn hd ht hx0 hS hW0 hs hv HSE
    go_enter Tryd.func3, Tryd.ntmps3
    go_upto_region 1 with (fail)
    rw [← HW0.out]
    go_wp2_with (first
      | (go_at_call 5; refine (HP.out _ hbw).mono ?_; rintro e w1 ⟨rfl, hx1⟩; clear c0 c1; have h1 := ext_trans hbw hx1; obtain ⟨c0, c1⟩ := HSS.out _ h1)
      | (go_at_call 6; refine (HR.out _ h1).mono ?_; rintro e w2 ⟨rfl, hx2⟩; clear c0 c1; have h2 := ext_trans h1 hx2; obtain ⟨c0, c1⟩ := HSS.out _ h2)
      | (go_at_call 7; refine (awake_any _).mono ?_; rintro e w3 ⟨rfl, hx3⟩; clear c0 c1; have h3 := ext_trans h2 hx3; obtain ⟨c0, c1⟩ := HSS.out _ h3)
      | (go_at_call 8; refine (HPA.out _ h3).mono ?_; rintro e w4 ⟨t, _, rfl, hx4⟩; clear c0 c1; have h4 := ext_trans (ext_trans h3 hx4) (pext_alloc w4 (.cells #[.int .i64 t.1, .int .i64 t.2.1] 23)); obtain ⟨c0, c1⟩ := HSS.out _ h4))
    go_ret
    exact ⟨rfl, ext_trans HX0.out h4⟩
  · rw [hv] at HP HR
    have HU := Lib.hid (fun t (ht : PaR (prS a d) t) => paR_print hv ht)
    have hse2 : (a == a) = true := by simp
    clear hn hd ht hx0 hS hW0 hs hv HSE
    go_enter Tryd.func3, Tryd.ntmps3
    go_upto_region 1 with (fail)
    rw [← HW0.out]
    go_wp2_with (first
      | (go_at_call 5; refine (HP.out _ hbw).mono ?_; rintro e w1 ⟨rfl, hx1⟩; clear c0 c1; have h1 := ext_trans hbw hx1; obtain ⟨c0, c1⟩ := HSS.out _ h1)
      | (go_at_call 6; refine (HR.out _ h1).mono ?_; rintro e w2 ⟨rfl, hx2⟩; clear c0 c1; have h2 := ext_trans h1 hx2; obtain ⟨c0, c1⟩ := HSS.out _ h2)
      | (go_at_call 7; refine (awake_any _).mono ?_; rintro e w3 ⟨rfl, hx3⟩; clear c0 c1; have h3 := ext_trans h2 hx3; obtain ⟨c0, c1⟩ := HSS.out _ h3)
      | (go_at_call 8; refine (HPA.out _ h3).mono ?_; rintro e w4 ⟨t, htp, rfl, hx4⟩; obtain rfl := HU.out t htp; clear c0 c1; have h4 := ext_trans (ext_trans h3 hx4) (pext_alloc w4 (.cells #[.int .i64 a, .int .i64 d] 23)); obtain ⟨c0, c1⟩ := HSS.out _ h4; obtain ⟨k0, k1, k2⟩ := new_cell (Below.refl (w4.alloc (.cells #[.int .i64 a, .int .i64 d] 23)).heap.size (w4.alloc (.cells #[.int .i64 a, .int .i64 d] 23)))))
    go_ret
    exact ⟨rfl, ext_trans HX0.out h4⟩
end Go.Proofs.YtpdlogpkfnpbpaaDoor
