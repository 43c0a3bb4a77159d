/- Do at the line 'money', walked. Conditions: a house in memory; the library's variables are laid. -/
import Derived.Test.YtjadbipbidghdaaGreatDoorHw
namespace Go.Proofs.YtjadbipbidghdaaGreatDoor
open Go.RowKit

theorem nf_nil (W : World) : (binOp .eql 40 .nilFunc .nilFunc).run Tryz.prog W = .ok (.bool true) W := by kernel_rfl
theorem nf_kind (W : World) (p : Nat) : (binOp .eql 40 (.func (.func 124) #[] #[.pointer (some ⟨p, 0, none⟩)]) .nilFunc).run Tryz.prog W = .ok (.bool false) W := by kernel_rfl
theorem Hs.cells {w : World} {h s L : Nat} {ls : Value} (hh : Hs w h s L ls) : Bk 27 w h #[.pointer (some ⟨s, 0, none⟩), .pointer (some ⟨L, 0, none⟩), ls, .bool false] := hh
set_option maxRecDepth 100000 in
set_option maxHeartbeats 16000000 in
theorem domoney_any (h s L b : Nat) (ls ks : Value) (w : World) (hh : Hs w h s L ls) (hs : St w s ks b) (ht : P10 w) (hm : MxI w) :
    Calls Tryz.prog 4 #[.pointer (some ⟨h, 0, none⟩), .string ⟨#[109, 111, 110, 101, 121]⟩] w fun e w' => e = .returned (.tuple #[.string ⟨#[109, 111, 110, 101, 121, 32, 48]⟩, .int .i64 0]) ∧ Below w.heap.size w w' := by
  have HN := Lib.hid (none_any h s L ls w hh)
  have HPA := Lib.hid (parse_money w ht hm)
  obtain ⟨f1, f2, f3⟩ := hh.cells.facts
  have HHW := Lib.hid hh.cells
  have HSW := Lib.hid hs
  have HTW := Lib.hid ht
  have hnf := nf_nil
  clear hh hs ht hm
  go_enter Tryz.func4, Tryz.ntmps4
  go_upto_region 6 with (first
    | (go_at_call 12; refine (HN.out).mono ?_; rintro e w1 ⟨rfl, rfl⟩)
    | (go_at_call 13; refine (HPA.out).mono ?_; rintro e w2 ⟨rfl, hx2⟩; have HX2 := Lib.hid hx2; clear hx2))
  have HX := Lib.hid (ext_trans HX2.out (ext_alloc w2 (.cells #[.nilFunc, .func (.func 148) #[] #[]] 42)))
  have HQ := Lib.hid (Bk.new 42 w2 #[.nilFunc, .func (.func 148) #[] #[]])
  obtain ⟨V, hV⟩ : ∃ V, V = w2.alloc (.cells #[.nilFunc, .func (.func 148) #[] #[]] 42) := ⟨_, rfl⟩
  obtain ⟨q, hq⟩ : ∃ q, q = w2.heap.size := ⟨_, rfl⟩
  rw [← hV] at HX HQ ⊢
  rw [← hq] at HQ ⊢
  have HH := Lib.hid (HHW.out.ext HX.out)
  have HS := Lib.hid (HSW.out.ext HX.out)
  have HT := Lib.hid (HTW.out.ext HX.out)
  clear hV hq f1 f2 f3 HPA HN HHW HSW HTW
  obtain ⟨q1, q2, q3⟩ := HQ.out.facts
  go_upto_region 9 with (fail)
  refine wp_region_T (S := (fun W => Below V.heap.size V W)) 10 (by kernel_rfl) (ext_drew _) (fun hHeld => ?_)
  refine wpAnyT_take (i := 0) (v := ?v1) [] rfl (by kernel_rfl) (fun _ _ _ h => h) (Or.inl ⟨by rfl, ?hy1⟩) hHeld ?rst1
  case hy1 => (intro wx hSw; obtain ⟨a1, a2, a3⟩ := Bk.facts (HH.out.ext hSw); obtain ⟨q1, q2, q3⟩ := (HQ.out.ext hSw).facts; go_simp; try (with_reducible rfl))
  try simp only [List.getElem_toArray, List.getElem_cons_zero, Act.put, List.setIfInBounds_toArray, List.set_cons_zero, List.set_cons_succ]
  refine wpAnyT_take (i := 1) (v := ?v2) [] rfl (by kernel_rfl) (fun _ _ _ h => h) (Or.inl ⟨by rfl, ?hy2⟩) hHeld ?rst2
  case hy2 => (intro wx hSw; obtain ⟨a1, a2, a3⟩ := Bk.facts (HH.out.ext hSw); obtain ⟨q1, q2, q3⟩ := (HQ.out.ext hSw).facts; go_simp; try (with_reducible rfl))
  try simp only [List.getElem_toArray, List.getElem_cons_zero, List.getElem_cons_succ, Act.put, List.setIfInBounds_toArray, List.set_cons_zero, List.set_cons_succ]
  refine wpAnyT_take (i := 2) (v := ?v3) [] rfl (by kernel_rfl) (fun _ _ _ h => h) (Or.inl ⟨by rfl, ?hy3⟩) hHeld ?rst3
  case hy3 => (intro wx hSw; obtain ⟨a1, a2, a3⟩ := Bk.facts (HH.out.ext hSw); obtain ⟨q1, q2, q3⟩ := (HQ.out.ext hSw).facts; go_simp; try (with_reducible rfl))
  try simp only [List.getElem_toArray, List.getElem_cons_zero, List.getElem_cons_succ, Act.put, List.setIfInBounds_toArray, List.set_cons_zero, List.set_cons_succ]
  refine wpAnyT_take (i := 3) (v := ?v4) [] rfl (by kernel_rfl) (fun _ _ _ h => h) (Or.inl ⟨by rfl, ?hy4⟩) hHeld ?rst4
  case hy4 => (intro wx hSw; obtain ⟨a1, a2, a3⟩ := Bk.facts (HH.out.ext hSw); obtain ⟨q1, q2, q3⟩ := (HQ.out.ext hSw).facts; go_simp; try (with_reducible rfl))
  try simp only [List.getElem_toArray, List.getElem_cons_zero, List.getElem_cons_succ, Act.put, List.setIfInBounds_toArray, List.set_cons_zero, List.set_cons_succ]
  refine wpAnyT_take (i := 4) (v := ?v5) [] rfl (by kernel_rfl) (fun _ _ _ h => h) (Or.inl ⟨by rfl, ?hy5⟩) hHeld ?rst5
  case hy5 => (intro wx hSw; obtain ⟨a1, a2, a3⟩ := Bk.facts (HH.out.ext hSw); obtain ⟨q1, q2, q3⟩ := (HQ.out.ext hSw).facts; go_simp; try (with_reducible rfl))
  try simp only [List.getElem_toArray, List.getElem_cons_zero, List.getElem_cons_succ, Act.put, List.setIfInBounds_toArray, List.set_cons_zero, List.set_cons_succ]
  refine wpAnyT_take (i := 5) (v := ?v6) [] rfl (by kernel_rfl) (fun _ _ _ h => h) (Or.inl ⟨by rfl, ?hy6⟩) hHeld ?rst6
  case hy6 => (intro wx hSw; obtain ⟨a1, a2, a3⟩ := Bk.facts (HH.out.ext hSw); obtain ⟨q1, q2, q3⟩ := (HQ.out.ext hSw).facts; go_simp; try (with_reducible rfl))
  try simp only [List.getElem_toArray, List.getElem_cons_zero, List.getElem_cons_succ, Act.put, List.setIfInBounds_toArray, List.set_cons_zero, List.set_cons_succ]
  refine wpAnyT_one (i := 6) (by kernel_rfl) rfl (fun K hK => ?_)
  go_simp
  go_at_call 148
  refine (askmoney_any s b ks _ (HS.out.ext (ext_drew _)) (HT.out.ext (ext_drew _))).mono ?_
  rintro e8 w8 ⟨rfl, hx8⟩
  have B8 := ext_trans (ext_drew V) hx8
  clear hx8
  refine hK.out _ _ (B8) (fun hHeld => ?_)
  clear hK K
  try simp only [List.getElem_toArray, List.getElem_cons_zero, List.getElem_cons_succ, Act.put, List.setIfInBounds_toArray, List.set_cons_zero, List.set_cons_succ]
  refine wpAnyT_take (i := 7) (v := ?v7) [] rfl (by kernel_rfl) (fun _ _ _ h => h) (Or.inl ⟨by rfl, ?hy7⟩) hHeld ?rst7
  case hy7 => (intro wx hSw; obtain ⟨a1, a2, a3⟩ := Bk.facts (HH.out.ext hSw); obtain ⟨q1, q2, q3⟩ := (HQ.out.ext hSw).facts; go_simp; try (with_reducible rfl))
  try simp only [List.getElem_toArray, List.getElem_cons_zero, List.getElem_cons_succ, Act.put, List.setIfInBounds_toArray, List.set_cons_zero, List.set_cons_succ]
  refine wpAnyT_take (i := 8) (v := ?v8) [] rfl (by kernel_rfl) (fun _ _ _ h => h) (Or.inl ⟨by rfl, ?hy8⟩) hHeld ?rst8
  case hy8 => (intro wx hSw; obtain ⟨a1, a2, a3⟩ := Bk.facts (HH.out.ext hSw); obtain ⟨q1, q2, q3⟩ := (HQ.out.ext hSw).facts; go_simp; try (with_reducible rfl))
  try simp only [List.getElem_toArray, List.getElem_cons_zero, List.getElem_cons_succ, Act.put, List.setIfInBounds_toArray, List.set_cons_zero, List.set_cons_succ]
  refine wpAnyT_take (i := 9) (v := ?v9) [] rfl (by kernel_rfl) (fun _ _ _ h => h) (Or.inl ⟨by rfl, ?hy9⟩) hHeld ?rst9
  case hy9 => (intro wx hSw; obtain ⟨a1, a2, a3⟩ := Bk.facts (HH.out.ext hSw); obtain ⟨q1, q2, q3⟩ := (HQ.out.ext hSw).facts; go_simp; try (with_reducible rfl))
  try simp only [List.getElem_toArray, List.getElem_cons_zero, List.getElem_cons_succ, Act.put, List.setIfInBounds_toArray, List.set_cons_zero, List.set_cons_succ]
  refine wpAnyT_last (by kernel_rfl) (by kernel_rfl) rfl (fun K hK => ?_)
  have HX9 := Lib.hid hHeld
  go_simp
  refine hK.out _ _ ?_
  clear hK K
  go_wp2
  refine bodyPost_ret (v := .tuple #[.string ⟨#[109, 111, 110, 101, 121, 32, 48]⟩, .int .i64 0]) (by simp [results, Tryz.results4, go_sem]) rfl ?_
  exact ⟨rfl, ext_trans HX.out HX9.out⟩
end Go.Proofs.YtjadbipbidghdaaGreatDoor
