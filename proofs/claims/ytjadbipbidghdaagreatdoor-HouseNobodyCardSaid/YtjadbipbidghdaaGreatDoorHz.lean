/- Run of both lines, walked. Conditions: the two lines in memory; the library's variables are laid. -/
import Derived.Test.YtjadbipbidghdaaGreatDoorHy
import Derived.Test.YtjadbipbidghdaaGreatDoorHg
namespace Go.Proofs.YtjadbipbidghdaaGreatDoor
open Go.RowKit

theorem info_ans : (Tryz.prog.info? 110).map (fun i => (i.zero, i.size, i.bytes)) = some (some (.agg #[.string ⟨#[]⟩, .int .i64 0]), 2, 24) := by kernel_rfl
/-- the answers so far -/
def An (B : Nat) (w : World) (v : Value) (n : Nat) (xs : List Value) : Prop := w.ownsRow B 110 2 v n xs
theorem An.sl {B : Nat} {w : World} {v : Value} {n : Nat} {xs : List Value} (h : An B w v n xs) : ∃ A c, v = .slice A n c := by
  obtain ⟨A, c, rfl, _, _, _⟩ := own_cells h
  exact ⟨A, c, rfl⟩
set_option maxRecDepth 100000 in
set_option maxHeartbeats 16000000 in
theorem run_any (g : Nat) (w : World) (hg : Bk 9 w g #[.string ⟨#[107, 105, 110, 100, 32, 50, 32, 49, 32, 49, 32, 53, 32, 48]⟩, .string ⟨#[109, 111, 110, 101, 121]⟩]) (ht : P10 w) (hm : MxI w) :
    Calls Tryz.prog 35 #[.slice (some ⟨g, 0, none⟩) 2 2] w fun e w' => ∃ v, e = .returned v ∧ An w.heap.size w' v 2 [.string ⟨#[107, 105, 110, 100, 32, 48]⟩, .int .i64 0, .string ⟨#[109, 111, 110, 101, 121, 32, 48]⟩, .int .i64 0] ∧ Below w.heap.size w w' := by
  have HGW := Lib.hid hg
  have HTW := Lib.hid ht
  have HMW := Lib.hid hm
  clear hg ht hm
  go_enter Tryz.func35, Tryz.ntmps35
  go_upto_region 5 with (first
    | (go_at_call 71; refine (newdisk_any _).mono ?_; rintro e w1 ⟨rfl, hd1, hx1⟩; have HD1 := Lib.hid hd1; have HX1 := Lib.hid hx1; clear hd1 hx1)
    | (go_at_call 10; refine (open_any w.heap.size w1 HD1.out).mono ?_; rintro e w2 ⟨h, s, L, b, v, n, rfl, q1, q2, q3, q4, q5, q6, q7, q8, q9, q10⟩; have Q1 := Lib.hid (Nat.le_trans HX1.out.size q1); have Q2 := Lib.hid (Nat.le_trans HX1.out.size q2); have Q3 := Lib.hid q3; have Q4 := Lib.hid q4; have Q5 := Lib.hid q5; have Q6 := Lib.hid q6; have Q7 := Lib.hid q7; have Q8 := Lib.hid (q8.base HX1.out.size); have Q9 := Lib.hid q9; have Q10 := Lib.hid (HX1.out.trans (q10.below HX1.out.size fun k hk e => by omega)); clear q1 q2 q3 q4 q5 q6 q7 q8 q9 q10 HX1 HD1))
  obtain ⟨V, hV⟩ : ∃ V, V = w2 := ⟨_, rfl⟩
  rw [← hV] at Q3 Q4 Q5 Q6 Q7 Q8 Q10 ⊢
  clear hV
  go_loopg [23, 7] 2 (fun gg z o wr => (gg = 2 ∧ z = .int .i64 0 ∧ o = .slice none 0 0 ∧ wr = V) ∨ (gg = 1 ∧ z = .int .i64 1 ∧ ∃ s' b' ls ks, An w.heap.size wr o 1 [.string ⟨#[107, 105, 110, 100, 32, 48]⟩, .int .i64 0] ∧ Hs wr h s' L ls ∧ St wr s' ks b' ∧ Below w.heap.size w wr) ∨ (gg = 0 ∧ z = .int .i64 2 ∧ An w.heap.size wr o 2 [.string ⟨#[107, 105, 110, 100, 32, 48]⟩, .int .i64 0, .string ⟨#[109, 111, 110, 101, 121, 32, 48]⟩, .int .i64 0] ∧ Below w.heap.size w wr))
  case atStart => exact .inl ⟨rfl, rfl, rfl, rfl⟩
  case round =>
    rcases hrel with ⟨rfl, rfl, rfl, rfl⟩ | ⟨rfl, rfl, s', b', ls, ks, ho, hh1, hs1, hx1⟩ | ⟨rfl, rfl, ho, hx1⟩
    · obtain ⟨f1, f2, f3⟩ := (HGW.out.ext Q10.out).facts
      have c0 := f1 0
      have c1 := f1 1
      clear f1
      go_wp2_with (first
        | (go_at_call 4; refine (dokind_any h s L w.heap.size b w.heap.size n v _ Q3.out Q4.out Q5.out Q6.out Q7.out Q8.out Q9.out Q1.out Q2.out (Nat.le_refl _) Q10.out.size (HTW.out.ext Q10.out) (HMW.out.ext Q10.out)).mono ?_; rintro e w3 ⟨s', b', ls, ks, rfl, hh3, hs3, hx3⟩; have HH3 := Lib.hid hh3; have HS3 := Lib.hid hs3; have HX3 := Lib.hid (Q10.out.trans hx3); clear hh3 hs3 hx3)
        | (at_builtin; refine wpList_push _ rfl _ _ 107 rfl w3.heap.size 110 _ 2 24 Tryz.underlying107 info_ans rfl (by decide) (own_nil _ _ _ _) (by rfl) (news := [.string ⟨#[107, 105, 110, 100, 32, 48]⟩, .int .i64 0]) (by rfl) rfl rfl (by intro x hx; simp at hx; rcases hx with rfl | rfl <;> rfl) (by decide) (by unfold maxLen; omega) (by omega) (Nat.le_refl _) ?_; intro v5 w5 hv5 hb5 _ _ _ _; have HV5 := Lib.hid (show An w.heap.size w5 v5 1 _ from own_base hv5 HX3.out.size); obtain ⟨A5, c5, he5⟩ := HV5.out.sl; subst he5; have HB5 := Lib.hid hb5; clear hv5 hb5))
      go_roundg 1
      case measure => omega
      case rel => exact .inr (.inl ⟨rfl, rfl, s', b', ls, ks, HV5.out, Bk.ext HH3.out HB5.out, HS3.out.ext HB5.out, ext_trans HX3.out HB5.out⟩)
    · have HO1 := Lib.hid ho
      have HH1 := Lib.hid hh1
      have HS1 := Lib.hid hs1
      have HX1 := Lib.hid hx1
      obtain ⟨A1, c1', he1⟩ := ho.sl
      subst he1
      clear ho hh1 hs1 hx1
      obtain ⟨f1, f2, f3⟩ := (HGW.out.ext HX1.out).facts
      have c0 := f1 0
      have c1 := f1 1
      clear f1
      go_wp2_with (first
        | (go_at_call 4; refine (domoney_any h s' L b' ls ks _ HH1.out HS1.out (HTW.out.ext HX1.out) (HMW.out.ext HX1.out)).mono ?_; rintro e w3 ⟨rfl, hx3⟩; have HX3 := Lib.hid (ext_trans HX1.out hx3); have HO3 := Lib.hid (own_ext HO1.out hx3); clear hx3)
        | (at_builtin; refine wpList_push _ rfl _ _ 107 rfl w.heap.size 110 _ 2 24 Tryz.underlying107 info_ans rfl (by decide) HO3.out (by rfl) (news := [.string ⟨#[109, 111, 110, 101, 121, 32, 48]⟩, .int .i64 0]) (by rfl) rfl rfl (by intro x hx; simp at hx; rcases hx with rfl | rfl <;> rfl) (by decide) (by unfold maxLen; omega) (by omega) HX3.out.size ?_; intro v5 w5 hv5 hb5 _ _ _ _; have HV5 := Lib.hid (show An w.heap.size w5 v5 2 _ from hv5); obtain ⟨A5, c5, he5⟩ := HV5.out.sl; subst he5; have HB5 := Lib.hid (HX3.out.trans hb5); clear hv5 hb5))
      go_roundg 0
      case measure => omega
      case rel => exact .inr (.inr ⟨rfl, rfl, HV5.out, HB5.out⟩)
    · have HO1 := Lib.hid ho
      have HX1 := Lib.hid hx1
      obtain ⟨A1, c1', he1⟩ := ho.sl
      subst he1
      clear ho hx1
      go_wp2
      go_ret
      exact ⟨_, rfl, HO1.out, HX1.out⟩
end Go.Proofs.YtjadbipbidghdaaGreatDoor
