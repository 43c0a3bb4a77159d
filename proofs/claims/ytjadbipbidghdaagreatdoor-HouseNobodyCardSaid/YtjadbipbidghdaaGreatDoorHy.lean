/- Do at the line 'kind 2 1 1 5 0', walked. Conditions: a house without lines in memory on a disk with power; the library's variables are laid. -/
import Derived.Test.YtjadbipbidghdaaGreatDoorHx
import Derived.Lib.ConvBytes
namespace Go.Proofs.YtjadbipbidghdaaGreatDoor
open Go.RowKit

theorem info_str : (Tryz.prog.info? 9).map (fun i => (i.zero, i.size, i.bytes)) = some (some (.string ⟨#[]⟩), 1, 16) := by kernel_rfl
theorem bw_rd (w : World) (s : ByteArray) (c : Nat) : Rd (Lib.bytesWorld w 5 s).heap.size (Lib.bytesWorld w 5 s) (.slice (some ⟨w.heap.size, 0, none⟩) s.size c) s.size :=
  .inr ⟨w.heap.size, 0, c, rfl, by rw [Lib.bytesWorld_size]; omega, by rw [Lib.bytesWorld_size]; omega, fun j hj => ⟨_, by rw [Nat.zero_add]; exact Lib.bytesWorld_cell w 5 s j hj⟩⟩
set_option maxRecDepth 100000 in
set_option maxHeartbeats 16000000 in
theorem dokind_any (h s L D b0 B n0 : Nat) (v0 : Value) (w : World) (hh : Hs w h s L (.slice none 0 0)) (hs : St w s (.slice none 0 0) b0) (hb : Bo w b0) (hl : Lg w L (.slice none 0 0) D) (hd : Dk w D v0 (n0 : Int)) (hv : By B w v0 n0) (hn : n0 ≤ 100)
    (hBh : B ≤ h) (hBL : B ≤ L) (hBD : B ≤ D) (hBw : B ≤ w.heap.size) (ht : P10 w) (hm : MxI w) :
    Calls Tryz.prog 4 #[.pointer (some ⟨h, 0, none⟩), .string ⟨#[107, 105, 110, 100, 32, 50, 32, 49, 32, 49, 32, 53, 32, 48]⟩] w fun e w' => ∃ s' b' ls ks, e = .returned (.tuple #[.string ⟨#[107, 105, 110, 100, 32, 48]⟩, .int .i64 0]) ∧ Hs w' h s' L ls ∧ St w' s' ks b' ∧ Below B w w' := by
  have HN := Lib.hid (none_any h s L _ w hh)
  have HPA := Lib.hid (parse_kind w ht hm)
  obtain ⟨f1, f2, f3⟩ := hh.cells.facts
  have HHW := Lib.hid hh.cells
  have HSW := Lib.hid hs
  have HTW := Lib.hid ht
  have HBO := Lib.hid hb
  have HLW := Lib.hid hl
  have HDW := Lib.hid hd
  have HVW := Lib.hid hv
  have HBH := Lib.hid hBh
  have HBL := Lib.hid hBL
  have HBD := Lib.hid hBD
  have HBW := Lib.hid hBw
  have HN0 := Lib.hid hn
  have hnf := nf_kind
  clear hh hs ht hm hb hl hd hv hBh hBL hBD hBw hn
  go_enter Tryz.func4, Tryz.ntmps4
  go_upto_region 6 with (first
    | (go_at_call 12; refine (HN.out).mono ?_; rintro e w1 ⟨rfl, rfl⟩)
    | (go_at_call 13; refine (HPA.out).mono ?_; rintro e w2 ⟨p, g, cap, rfl, hk2, _, _, hx2⟩; have HX2 := Lib.hid hx2; have HK2 := Lib.hid hk2; clear hx2 hk2))
  have hxq := ext_alloc w2 (.cells #[.func (.func 124) #[] #[.pointer (some ⟨p, 0, none⟩)], .nilFunc] 42)
  have HX := Lib.hid (ext_trans HX2.out hxq)
  have HKV := Lib.hid (HK2.out.ext hxq)
  have HQ := Lib.hid (Bk.new 42 w2 #[.func (.func 124) #[] #[.pointer (some ⟨p, 0, none⟩)], .nilFunc])
  obtain ⟨V, hV⟩ : ∃ V, V = w2.alloc (.cells #[.func (.func 124) #[] #[.pointer (some ⟨p, 0, none⟩)], .nilFunc] 42) := ⟨_, rfl⟩
  obtain ⟨q, hq⟩ : ∃ q, q = w2.heap.size := ⟨_, rfl⟩
  rw [← hV] at HX HQ HKV ⊢
  rw [← hq] at HQ ⊢
  have HH := Lib.hid (HHW.out.ext HX.out)
  have HS := Lib.hid (HSW.out.ext HX.out)
  have HCP := Lib.hid (copied_any s b0 V HS.out (HBO.out.ext HX.out))
  clear hV hq f1 f2 f3 HPA HN HSW hxq HX2 HK2
  obtain ⟨q1, q2, q3⟩ := HQ.out.facts
  obtain ⟨f1, f2, f3⟩ := HH.out.facts
  go_upto_region 12 with (first
    | (go_at_call 14; refine (HCP.out).mono ?_; rintro e w3 ⟨s', b', rfl, hws, hs3, _, hx3⟩; have HX3 := Lib.hid (ext_trans HX.out hx3); have HS3 := Lib.hid hs3; have HK3 := Lib.hid (HKV.out.ext hx3); have HQ3 := Lib.hid (HQ.out.ext hx3); have HWS := Lib.hid (Nat.le_trans HX.out.size hws); clear hx3 hs3 hws q1 q2 q3 f1 f2 f3; obtain ⟨q1, q2, q3⟩ := HQ3.out.facts)
    | (go_at_call 124; refine (kind1_any s' b' p g cap _ HS3.out HK3.out (HTW.out.ext HX3.out)).mono ?_; rintro e w4 ⟨rfl, ks, hs4, hc4⟩; have HS4 := Lib.hid hs4; have HX4 := Lib.hid (HX3.out.trans (hc4.below HX3.out.size fun k hk e => by have := HWS.out; omega)); clear hs4 hc4 q1 q2 q3))
  clear HS3 HK3 HQ3 HCP HX3 HKV HQ HS HH HX hnf
  have HH4 := Lib.hid (HHW.out.ext HX4.out)
  have HL4 := Lib.hid (show Lg w4 L (.slice none 0 0) D from Bk.ext HLW.out HX4.out)
  have HD4 := Lib.hid (show Dk w4 D v0 (n0 : Int) from Bk.ext HDW.out HX4.out)
  have HV4 := Lib.hid (HVW.out.ext HX4.out)
  have HB4 := Lib.hid (below_mono HX4.out HBW.out)
  have HZ4 := Lib.hid (Nat.le_trans HBW.out HX4.out.size)
  obtain ⟨W4, hW4⟩ : ∃ W4, W4 = w4 := ⟨_, rfl⟩
  rw [← hW4] at HS4 HX4 HH4 HL4 HD4 HV4 HB4 HZ4 ⊢
  clear hW4 HHW HLW HDW HVW HBO HTW
  obtain ⟨f1, f2, f3⟩ := HH4.out.facts
  obtain ⟨cap, hcv⟩ : ∃ cap : World → Nat, ∀ W, (convert 9 47 (.string ⟨#[107, 105, 110, 100, 32, 50, 32, 49, 32, 49, 32, 53, 32, 48]⟩)).run Tryz.prog W = .ok (.slice (some ⟨W.heap.size, 0, none⟩) 14 (cap W)) (Lib.bytesWorld W 5 ⟨#[107, 105, 110, 100, 32, 50, 32, 49, 32, 49, 32, 53, 32, 48]⟩) := ⟨fun W => _, fun W => Lib.run_convert_string_bytes W 9 47 5 ⟨#[107, 105, 110, 100, 32, 50, 32, 49, 32, 49, 32, 53, 32, 48]⟩ (u := .string) Tryz.underlying9 Tryz.underlying47 Tryz.underlying5⟩
  have HW5 := Lib.hid (Lib.bytesWorld_below W4 5 ⟨#[107, 105, 110, 100, 32, 50, 32, 49, 32, 49, 32, 53, 32, 48]⟩)
  have HAD := Lib.hid (add_any L D v0 n0 n0 B ⟨W4.heap.size, 0, none⟩ 14 (cap W4) (Lib.bytesWorld W4 5 ⟨#[107, 105, 110, 100, 32, 50, 32, 49, 32, 49, 32, 53, 32, 48]⟩) (Bk.ext HL4.out HW5.out) (Bk.ext HD4.out HW5.out) (HV4.out.ext HW5.out) (Nat.le_trans HZ4.out HW5.out.size) (bw_rd W4 ⟨#[107, 105, 110, 100, 32, 50, 32, 49, 32, 49, 32, 53, 32, 48]⟩ (cap W4)) (by have := HN0.out; omega) (by omega)
    ⟨fun e => by have h1 := Bk.lt HD4.out; have h2 : W4.heap.size = D := e; omega, fun e => by obtain ⟨xs, hx, _⟩ := HV4.out; have := (own_lt hx _ e).2; have h2 : W4.heap.size < W4.heap.size := this; omega⟩)
  go_upto_region 15 with (go_at_call 15; refine (HAD.out).mono ?_; rintro e w5 ⟨rfl, hc5⟩; have HC5 := Lib.hid ((Chg.of (S := fun k => k = L ∨ k = D ∨ v0.ownBlock = some k) HW5.out).trans hc5 fun k _ e => e); clear hc5)
  have HN1 := Lib.hid (bk_ne HH4.out HL4.out (by decide))
  have HN2 := Lib.hid (bk_ne HH4.out HD4.out (by decide))
  have HN3 := Lib.hid (bk_ne HS4.out HL4.out (by decide))
  have HN4 := Lib.hid (bk_ne HS4.out HD4.out (by decide))
  have HN5 := Lib.hid (bk_ne HS4.out HH4.out (by decide))
  have HN6 := Lib.hid (show ¬ v0.ownBlock = some h from fun e => by obtain ⟨xs, hx, _⟩ := HV4.out; exact own_ne hx HH4.out (by decide) e.symm)
  have HN7 := Lib.hid (show ¬ v0.ownBlock = some s' from fun e => by obtain ⟨xs, hx, _⟩ := HV4.out; exact own_ne hx HS4.out (by decide) e.symm)
  have HH5 := Lib.hid (HC5.out.bk HH4.out (fun e => by rcases e with e | e | e; exact HN1.out e; exact HN2.out e; exact HN6.out e))
  have HS5 := Lib.hid (HC5.out.bk HS4.out (fun e => by rcases e with e | e | e; exact HN3.out e; exact HN4.out e; exact HN7.out e))
  have HB5 := Lib.hid (HB4.out.trans (HC5.out.below HZ4.out (fun k hk e => by
    rcases e with e | e | e
    · have := HBL.out; omega
    · have := HBD.out; omega
    · obtain ⟨xs, hx, _⟩ := HV4.out; have := (own_lt hx _ e).1; omega)))
  have HZ5 := Lib.hid (Nat.le_trans HZ4.out HC5.out.size)
  obtain ⟨W5, hW5⟩ : ∃ W5, W5 = w5 := ⟨_, rfl⟩
  rw [← hW5] at HH5 HS5 HB5 HZ5 ⊢
  clear hW5 f1 f2 f3 hcv HAD HW5 HC5 HS4 HH4 HL4 HD4 HV4 HB4 HZ4 HX4 HN1 HN2 HN3 HN4 HN6 HN7
  have HH6 := Lib.hid (Bk.set HH5.out 0 (.pointer (some ⟨s', 0, none⟩)))
  have HS6 := Lib.hid ((Chg.set (fun k => k = h) W5 rfl (j := 0) (.pointer (some ⟨s', 0, none⟩))).bk HS5.out HN5.out)
  have HB6 := Lib.hid (HB5.out.setCell (p := ⟨h, 0, none⟩) HBH.out (.pointer (some ⟨s', 0, none⟩)))
  have HZ6 := Lib.hid (show B ≤ (W5.setCell ⟨h, 0, none⟩ (.pointer (some ⟨s', 0, none⟩))).heap.size from Nat.le_trans HZ5.out (Chg.set (fun k => k = h) W5 rfl (j := 0) (.pointer (some ⟨s', 0, none⟩))).size)
  obtain ⟨f1, f2, f3⟩ := HH5.out.facts
  go_upto_region 19 with (fail)
  obtain ⟨W6, hW6⟩ : ∃ W6, W6 = W5.setCell ⟨h, 0, none⟩ (.pointer (some ⟨s', 0, none⟩)) := ⟨_, rfl⟩
  rw [← hW6] at HH6 HS6 HB6 HZ6 ⊢
  clear hW6 f1 f2 f3 HH5 HS5 HB5 HZ5
  obtain ⟨f1, f2, f3⟩ := HH6.out.facts
  go_wp2_with (at_builtin; refine wpList_push _ rfl _ _ 25 rfl W6.heap.size 9 _ 1 16 Tryz.underlying25 info_str rfl (by decide) (own_nil _ _ _ _) (by rfl) (news := [.string ⟨#[107, 105, 110, 100, 32, 50, 32, 49, 32, 49, 32, 53, 32, 48]⟩]) (by rfl) rfl rfl (by intro x hx; simp at hx; subst hx; rfl) (by decide) (by unfold maxLen; omega) (by omega) (Nat.le_refl _) ?_; intro v7 w7 hv7 hb7 _ _ _ _; obtain ⟨A7, c7, he7, _⟩ := own_cells hv7; subst he7; have HH7 := Lib.hid (Bk.ext HH6.out hb7); have HS7 := Lib.hid (Bk.ext HS6.out hb7); have HB7 := Lib.hid (HB6.out.trans (hb7.mono HZ6.out)); clear hv7 hb7 f1 f2 f3; obtain ⟨f1, f2, f3⟩ := HH7.out.facts)
  refine bodyPost_ret (v := .tuple #[.string ⟨#[107, 105, 110, 100, 32, 48]⟩, .int .i64 0]) (by simp [results, Tryz.results4, go_sem]) rfl ?_
  exact ⟨s', b', .slice A7 1 c7, ks, rfl, Bk.set HH7.out 2 _, (Chg.set (fun k => k = h) w7 rfl (j := 2) (.slice A7 1 c7)).bk HS7.out HN5.out, HB7.out.setCell (p := ⟨h, 2, none⟩) HBH.out _⟩
end Go.Proofs.YtjadbipbidghdaaGreatDoor
