/- Both Reads answer alike: one list and one error for a string. No conditions. -/
import Derived.Test.YtfadkokdoehjnaaDoorRdP
namespace Go.Proofs.YtfadkokdoehjnaaDoor
open Go.RowKit

def OneRd (s : ByteArray) (l : List Opr) (er : Int) : Prop := ∀ w e w', RetRd w s e w' → Below w.heap.size w w' ∧ ∃ A cap, e = .returned (.tuple #[.slice A l.length cap, .int .i64 er]) ∧ l.length ≤ cap ∧ cap ≤ 9223372036854775807 ∧ OSl w' A l
theorem bs_inj {a b : List UInt8} (h : BS a = BS b) : a = b := by
  have := congrArg (fun x : ByteArray => x.data.toList) h
  simpa [BS_list] using this
theorem one_rd (s : ByteArray) : ∃ (l : List Opr) (er : Int), l.length ≤ 4096 ∧ OneRd s l er ∧ ∀ m, TxOk m → BS (txtL m) = s → l = m ∧ er = 0 := by
  by_cases h : ∃ l, TxOk l ∧ BS (txtL l) = s
  · obtain ⟨l, hl, hs⟩ := h
    have one : ∀ m, TxOk m → BS (txtL m) = s → l = m := fun m hm e => tx_inj hl hm (bs_inj (hs.trans e.symm))
    refine ⟨l, 0, hl.1, ?_, fun m hm e => ⟨one m hm e, rfl⟩⟩
    rintro w e w' ⟨hb, ⟨A, cap, m, hm, hms, rfl, h1, h2, h3⟩ | ⟨hno, _⟩⟩
    · obtain rfl := one m hm hms
      exact ⟨hb, A, cap, rfl, h1, h2, h3⟩
    · exact absurd hs (hno l hl)
  · refine ⟨[], 6, by simp, ?_, fun m hm e => absurd ⟨m, hm, e⟩ h⟩
    rintro w e w' ⟨hb, ⟨A, cap, m, hm, hms, rfl, h1, h2, h3⟩ | ⟨_, rfl⟩⟩
    · exact absurd ⟨m, hm, hms⟩ h
    · exact ⟨hb, none, 0, rfl, by simp, by simp, .inl rfl⟩
end Go.Proofs.YtfadkokdoehjnaaDoor
