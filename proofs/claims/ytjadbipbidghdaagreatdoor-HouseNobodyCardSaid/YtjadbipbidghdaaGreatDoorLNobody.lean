/- HouseNobody's law, walked: it returns true and changes no block that stood before. Conditions: the library's variables are laid. -/
import Derived.Test.YtjadbipbidghdaaGreatDoorIa
import Derived.Test.YtjadbipbidghdaaGreatDoorIb
namespace Go.Proofs.YtjadbipbidghdaaGreatDoor
open Go.RowKit

set_option maxRecDepth 100000 in
set_option maxHeartbeats 16000000 in
theorem law_nobody (s : ByteArray) (w : World) (_hl : s.size ≤ 9223372036854775807) (ht : P10 w) (hm : MxI w) : Calls Tryz.prog 3 #[.string s] w fun e w' => e = .returned (.bool true) ∧ Below w.heap.size w w' := by
  have HT := Lib.hid ht
  have HM := Lib.hid hm
  clear ht hm _hl
  have hcat : (⟨#[]⟩ : ByteArray) ++ ⟨#[]⟩ = ⟨#[]⟩ := by rfl
  have hcl : (⟨#[]⟩ : ByteArray).toList = [] := by simp [ByteArray.toList, ByteArray.toList.loop, ByteArray.size]
  go_enter Tryz.func3, Tryz.ntmps3
  have HXV := Lib.hid (ext_trans (ext_alloc w (.cells #[.pointer none, .pointer none, .slice none 0 0, .bool false] 27)) (ext_alloc (w.alloc (.cells #[.pointer none, .pointer none, .slice none 0 0, .bool false] 27)) (.cells #[.pointer none, .pointer (some ⟨w.heap.size, 0, none⟩)] 22)))
  have HB1 := Lib.hid ((Bk.new 27 w #[.pointer none, .pointer none, .slice none 0 0, .bool false]).ext (ext_alloc (w.alloc (.cells #[.pointer none, .pointer none, .slice none 0 0, .bool false] 27)) (.cells #[.pointer none, .pointer (some ⟨w.heap.size, 0, none⟩)] 22)))
  have HB2 := Lib.hid (show Bk 22 ((w.alloc (.cells #[.pointer none, .pointer none, .slice none 0 0, .bool false] 27)).alloc (.cells #[.pointer none, .pointer (some ⟨w.heap.size, 0, none⟩)] 22)) (w.heap.size + 1) #[.pointer none, .pointer (some ⟨w.heap.size, 0, none⟩)] from by
    have h := Bk.new 22 (w.alloc (.cells #[.pointer none, .pointer none, .slice none 0 0, .bool false] 27)) #[.pointer none, .pointer (some ⟨w.heap.size, 0, none⟩)]
    rwa [show (w.alloc (.cells #[.pointer none, .pointer none, .slice none 0 0, .bool false] 27)).heap.size = w.heap.size + 1 by simp] at h)
  go_upto_region 2 with (fail)
  obtain ⟨V, hV⟩ : ∃ V, V = (w.alloc (.cells #[.pointer none, .pointer none, .slice none 0 0, .bool false] 27)).alloc (.cells #[.pointer none, .pointer (some ⟨w.heap.size, 0, none⟩)] 22) := ⟨_, rfl⟩
  obtain ⟨q, hq⟩ : ∃ q, q = w.heap.size := ⟨_, rfl⟩
  rw [← hV] at HXV HB1 HB2 ⊢
  rw [← hq] at HB1 HB2 ⊢
  have HTV := Lib.hid (HT.out.ext HXV.out)
  have HMV := Lib.hid (HM.out.ext HXV.out)
  clear hV hq HT HM
  go_loopg [15] 2 (fun gg z wr => wr = V ∧ ((gg = 2 ∧ z = .int .i64 0) ∨ (gg = 1 ∧ z = .int .i64 1) ∨ (gg = 0 ∧ z = .int .i64 2)))
  case atStart => exact ⟨rfl, .inl ⟨rfl, rfl⟩⟩
  case round =>
    obtain ⟨rfl, ⟨rfl, rfl⟩ | ⟨rfl, rfl⟩ | ⟨rfl, rfl⟩⟩ := hrel
    · obtain ⟨f1, f2, f3⟩ := HB2.out.facts
      have c0 := f1 0
      have c1 := f1 1
      have HNB := Lib.hid (show Nob (.pointer none) wr from .inl rfl)
      clear f1 f2
      go_wp2_with (first
        | (go_at_call 4; refine (do_nob _ s _ HNB.out).mono ?_; rintro e w1 ⟨rfl, rfl⟩)
        | (go_at_call 5; refine (what_nob _ s _ HNB.out).mono ?_; rintro e w1 ⟨rfl, rfl⟩)
        | (go_at_call 6; refine (state_nob _ _ HNB.out).mono ?_; rintro e w1 ⟨rfl, rfl⟩)
        | (go_at_call 7; refine (lines_nob _ _ HNB.out).mono ?_; rintro e w1 ⟨rfl, rfl⟩)
        | (go_at_call 8; refine (pack_nob _ _ HNB.out).mono ?_; rintro e w1 ⟨rfl, rfl⟩)
        | (go_at_call 9; refine (audit_nob _ _ HNB.out).mono ?_; rintro e w1 ⟨rfl, rfl⟩))
      go_roundg 1
      case measure => omega
      case rel => exact ⟨rfl, .inr (.inl ⟨rfl, rfl⟩)⟩
    · obtain ⟨f1, f2, f3⟩ := HB2.out.facts
      have c0 := f1 0
      have c1 := f1 1
      have HNB := Lib.hid (show Nob (.pointer (some ⟨q, 0, none⟩)) wr from .inr ⟨q, rfl, HB1.out.cell 0⟩)
      clear f1 f2
      go_wp2_with (first
        | (go_at_call 4; refine (do_nob _ s _ HNB.out).mono ?_; rintro e w1 ⟨rfl, rfl⟩)
        | (go_at_call 5; refine (what_nob _ s _ HNB.out).mono ?_; rintro e w1 ⟨rfl, rfl⟩)
        | (go_at_call 6; refine (state_nob _ _ HNB.out).mono ?_; rintro e w1 ⟨rfl, rfl⟩)
        | (go_at_call 7; refine (lines_nob _ _ HNB.out).mono ?_; rintro e w1 ⟨rfl, rfl⟩)
        | (go_at_call 8; refine (pack_nob _ _ HNB.out).mono ?_; rintro e w1 ⟨rfl, rfl⟩)
        | (go_at_call 9; refine (audit_nob _ _ HNB.out).mono ?_; rintro e w1 ⟨rfl, rfl⟩))
      go_roundg 0
      case measure => omega
      case rel => exact ⟨rfl, .inr (.inr ⟨rfl, rfl⟩)⟩
    · have HON := Lib.hid (opennil_any wr)
      have HAW := Lib.hid (awake_any wr HTV.out HMV.out)
      go_wp2_with (first
        | (go_at_call 10; refine (HON.out).mono ?_; rintro e w1 ⟨rfl, rfl⟩)
        | (go_at_call 11; refine (HAW.out).mono ?_; rintro e w2 ⟨rfl, hx2⟩; have HX2 := Lib.hid (ext_trans HXV.out hx2); clear hx2))
      go_ret
      exact ⟨rfl, HX2.out⟩
end Go.Proofs.YtjadbipbidghdaaGreatDoor
