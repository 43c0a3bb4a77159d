/- The reference's does walked. Conditions: a valid op that is no repeat, the report's blocks apart from the graph's. -/
import Derived.Test.YtbhjhajnhpohlaaMst
import Derived.Test.YtbhjhajnhpohlaaRs
namespace Go.Proofs.Ytbhjhajnhpohlaa
open Go.RowKit

/-- the report's own blocks -/
def RmS (g bs bu n : Nat) (f : Int) (m : Mc) (w : World) : Prop :=
  Bk 81 w g #[.int .i64 f, .int .i64 m.s, .int .i64 m.a, .int .i64 m.h, .int .i64 m.k, .slice (some ⟨bs, 0, none⟩) n n, .slice (some ⟨bu, 0, none⟩) 8 8] ∧ Ow 3 bs n m.sw w ∧ Ow 3 bu 8 m.us w
section
variable {g bs bu n : Nat} {f : Int} {m : Mc} {w w' : World} {B : Nat}
theorem RmS.ext (h : RmS g bs bu n f m w) (hb : Below w.heap.size w w') : RmS g bs bu n f m w' := ⟨h.1.ext hb, h.2.1.ext hb, h.2.2.ext hb⟩
theorem RmS.setF (h : RmS g bs bu n f m w) (ha : Ap B g bs bu) (x : Int) : RmS g bs bu n x m (w.setCell ⟨g, 0, none⟩ (.int .i64 x)) := ⟨h.1.set 0 _, h.2.1.set_ne (Ne.symm ha.2.2.2.1) _, h.2.2.set_ne (Ne.symm ha.2.2.2.2.1) _⟩
theorem RmS.setS (h : RmS g bs bu n f m w) (ha : Ap B g bs bu) (x : Int) : RmS g bs bu n f { m with s := x } (w.setCell ⟨g, 1, none⟩ (.int .i64 x)) := ⟨h.1.set 1 _, h.2.1.set_ne (Ne.symm ha.2.2.2.1) _, h.2.2.set_ne (Ne.symm ha.2.2.2.2.1) _⟩
theorem RmS.setA (h : RmS g bs bu n f m w) (ha : Ap B g bs bu) (x : Int) : RmS g bs bu n f { m with a := x } (w.setCell ⟨g, 2, none⟩ (.int .i64 x)) := ⟨h.1.set 2 _, h.2.1.set_ne (Ne.symm ha.2.2.2.1) _, h.2.2.set_ne (Ne.symm ha.2.2.2.2.1) _⟩
theorem RmS.setH (h : RmS g bs bu n f m w) (ha : Ap B g bs bu) (x : Int) : RmS g bs bu n f { m with h := x } (w.setCell ⟨g, 3, none⟩ (.int .i64 x)) := ⟨h.1.set 3 _, h.2.1.set_ne (Ne.symm ha.2.2.2.1) _, h.2.2.set_ne (Ne.symm ha.2.2.2.2.1) _⟩
theorem RmS.setK (h : RmS g bs bu n f m w) (ha : Ap B g bs bu) (x : Int) : RmS g bs bu n f { m with k := x } (w.setCell ⟨g, 4, none⟩ (.int .i64 x)) := ⟨h.1.set 4 _, h.2.1.set_ne (Ne.symm ha.2.2.2.1) _, h.2.2.set_ne (Ne.symm ha.2.2.2.2.1) _⟩
theorem RmS.setW (h : RmS g bs bu n f m w) (ha : Ap B g bs bu) (i : Nat) (x : Int) : RmS g bs bu n f { m with sw := upd m.sw i x } (w.setCell ⟨bs, i, none⟩ (.int .i64 x)) := ⟨h.1.set_ne ha.2.2.2.1 _, h.2.1.set _ _, h.2.2.set_ne (Ne.symm ha.2.2.2.2.2) _⟩
theorem RmS.use (h : RmS g bs bu n f m w) (ha : Ap B g bs bu) (x : Int) : RmS g bs bu n f (m.use x) (w.setCell ⟨bu, m.h.toNat, none⟩ (.int .i64 (wrap64 (m.us m.h.toNat + x)))) :=
  ⟨h.1.set_ne ha.2.2.2.2.1 _, h.2.1.set_ne ha.2.2.2.2.2 _, h.2.2.set _ _⟩
end
/-- what the walk of does knows of a world -/
def DoS (g bs bu : Nat) (N : Int) (A : Option Addr) (cap : Nat) (f : Int) (m : Mc) (o : Opr) (l : List Sm) (w V : World) : Prop :=
  RmS g bs bu l.length f m V ∧ Bk 24 V w.heap.size #[.int .i64 N, .slice A l.length cap] ∧ Bk 97 V (w.heap.size + 1) #[.int .i64 o.c, .int .i64 o.g, .bool o.b] ∧ Below w.heap.size w V
section
variable {g bs bu : Nat} {N : Int} {A : Option Addr} {cap : Nat} {f : Int} {m m' : Mc} {o : Opr} {l : List Sm} {w0 w V V' : World}
theorem DoS.ext (h : DoS g bs bu N A cap f m o l w V) (hb : Below V.heap.size V V') : DoS g bs bu N A cap f m o l w V' := ⟨h.1.ext hb, h.2.1.ext hb, h.2.2.1.ext hb, bext h.2.2.2 hb h.2.2.2.size⟩
theorem DoS.start (N : Int) (A : Option Addr) (cap : Nat) (o : Opr) (h : RmS g bs bu l.length f m w) : DoS g bs bu N A cap f m o l w ((w.alloc (.cells #[.int .i64 N, .slice A l.length cap] 24)).alloc (.cells #[.int .i64 o.c, .int .i64 o.g, .bool o.b] 97)) := by
  have h2 := Bk.new 97 (w.alloc (.cells #[.int .i64 N, .slice A l.length cap] 24)) #[.int .i64 o.c, .int .i64 o.g, .bool o.b]
  rw [World.size_alloc] at h2
  exact ⟨(h.ext (ext_alloc _ _)).ext (ext_alloc _ _), (Bk.new _ _ _).alloc _, h2, ext_trans (ext_alloc _ _) (ext_alloc _ _)⟩
/-- the same behind stores into the report -/
def DoX (g bs bu : Nat) (N : Int) (A : Option Addr) (cap : Nat) (f : Int) (m : Mc) (o : Opr) (l : List Sm) (w V : World) : Prop :=
  RmS g bs bu l.length f m V ∧ Bk 24 V w.heap.size #[.int .i64 N, .slice A l.length cap] ∧ Bk 97 V (w.heap.size + 1) #[.int .i64 o.c, .int .i64 o.g, .bool o.b] ∧ But3 g bs bu w V
theorem DoS.x (h : DoS g bs bu N A cap f m o l w V) : DoX g bs bu N A cap f m o l w V := ⟨h.1, h.2.1, h.2.2.1, But3.of h.2.2.2⟩
theorem DoX.ext (h : DoX g bs bu N A cap f m o l w V) (hb : Below V.heap.size V V') : DoX g bs bu N A cap f m o l w V' := ⟨h.1.ext hb, h.2.1.ext hb, h.2.2.1.ext hb, h.2.2.2.trans (But3.of hb)⟩
theorem DoX.next (h : DoX g bs bu N A cap f m o l w V) (hg : g < w.heap.size ∧ bs < w.heap.size ∧ bu < w.heap.size) {k j : Nat} (hk : k = g ∨ k = bs ∨ k = bu) (u : Value) (hr : RmS g bs bu l.length f m' (V.setCell ⟨k, j, none⟩ u)) : DoX g bs bu N A cap f m' o l w (V.setCell ⟨k, j, none⟩ u) :=
  ⟨hr, h.2.1.set_ne (by omega) _, h.2.2.1.set_ne (by omega) _, h.2.2.2.set hk _⟩
set_option maxRecDepth 100000 in
set_option maxHeartbeats 4000000 in
theorem does_take_no (og : Int) (h : RmS g bs bu l.length f m w) (ha : Ap w0.heap.size g bs bu) (h0 : 0 ≤ m.h) :
    Calls Try.prog 70 #[.pointer (some ⟨g, 0, none⟩), .agg #[.int .i64 N, .slice A l.length cap], (⟨0, og, false⟩ : Opr).val] w fun e w' => e = .returned (.int .i64 1) ∧ RmS g bs bu l.length f m w' ∧ But3 g bs bu w w' := by
  have HD := Lib.hid (DoS.start N A cap ⟨0, og, false⟩ h)
  obtain ⟨f1, f2, f3⟩ := HD.out.1.1.facts
  obtain ⟨e1, e2, e3⟩ := HD.out.2.1.facts
  obtain ⟨o1, o2, o3⟩ := HD.out.2.2.1.facts
  obtain ⟨ms, ma, mh, mk, msw, mus⟩ := m
  try dsimp only at h0
  try dsimp only at h1
  try dsimp only at h8
  dsimp only at f1 o1 ⊢
  clear h
  show Calls Try.prog 70 #[.pointer (some ⟨g, 0, none⟩), .agg #[.int .i64 N, .slice A l.length cap], .agg #[.int .i64 0, .int .i64 og, .bool false]] w _
  go_enter Try.func70, Try.ntmps70
  go_wp2
  go_ret
  exact ⟨rfl, HD.out.1, But3.of HD.out.2.2.2⟩
set_option maxRecDepth 100000 in
set_option maxHeartbeats 4000000 in
theorem does_take (og : Int) (h : RmS g bs bu l.length f m w) (ha : Ap w0.heap.size g bs bu) (h0 : m.h < 0) :
    Calls Try.prog 70 #[.pointer (some ⟨g, 0, none⟩), .agg #[.int .i64 N, .slice A l.length cap], (⟨0, og, false⟩ : Opr).val] w fun e w' => e = .returned (.int .i64 0) ∧ RmS g bs bu l.length f { m with h := og } w' ∧ But3 g bs bu w w' := by
  have HD := Lib.hid (DoS.start N A cap ⟨0, og, false⟩ h)
  obtain ⟨f1, f2, f3⟩ := HD.out.1.1.facts
  obtain ⟨e1, e2, e3⟩ := HD.out.2.1.facts
  obtain ⟨o1, o2, o3⟩ := HD.out.2.2.1.facts
  obtain ⟨ms, ma, mh, mk, msw, mus⟩ := m
  try dsimp only at h0
  try dsimp only at h1
  try dsimp only at h8
  dsimp only at f1 o1 ⊢
  clear h
  show Calls Try.prog 70 #[.pointer (some ⟨g, 0, none⟩), .agg #[.int .i64 N, .slice A l.length cap], .agg #[.int .i64 0, .int .i64 og, .bool false]] w _
  go_enter Try.func70, Try.ntmps70
  have hn : ¬ 0 ≤ mh := by omega
  clear h0
  have HR := Lib.hid (HD.out.1.setH ha og)
  have HB := Lib.hid ((But3.of (g := g) (bs := bs) (bu := bu) HD.out.2.2.2).set (k := g) (j := 3) (.inl rfl) (.int .i64 og))
  go_wp2
  go_ret
  exact ⟨rfl, HR.out, HB.out⟩
set_option maxRecDepth 100000 in
set_option maxHeartbeats 4000000 in
theorem does_go_no (og : Int) (h : RmS g bs bu l.length f m w) (ha : Ap w0.heap.size g bs bu) (h0 : 0 ≤ m.h) :
    Calls Try.prog 70 #[.pointer (some ⟨g, 0, none⟩), .agg #[.int .i64 N, .slice A l.length cap], (⟨1, og, false⟩ : Opr).val] w fun e w' => e = .returned (.int .i64 2) ∧ RmS g bs bu l.length f m w' ∧ But3 g bs bu w w' := by
  have HD := Lib.hid (DoS.start N A cap ⟨1, og, false⟩ h)
  obtain ⟨f1, f2, f3⟩ := HD.out.1.1.facts
  obtain ⟨e1, e2, e3⟩ := HD.out.2.1.facts
  obtain ⟨o1, o2, o3⟩ := HD.out.2.2.1.facts
  obtain ⟨ms, ma, mh, mk, msw, mus⟩ := m
  try dsimp only at h0
  try dsimp only at h1
  try dsimp only at h8
  dsimp only at f1 o1 ⊢
  clear h
  show Calls Try.prog 70 #[.pointer (some ⟨g, 0, none⟩), .agg #[.int .i64 N, .slice A l.length cap], .agg #[.int .i64 1, .int .i64 og, .bool false]] w _
  go_enter Try.func70, Try.ntmps70
  go_wp2
  go_ret
  exact ⟨rfl, HD.out.1, But3.of HD.out.2.2.2⟩
set_option maxRecDepth 100000 in
set_option maxHeartbeats 4000000 in
theorem does_go_far (og : Int) (h : RmS g bs bu l.length f m w) (ha : Ap w0.heap.size g bs bu) (h0 : m.h < 0) (h1 : N ≤ og) :
    Calls Try.prog 70 #[.pointer (some ⟨g, 0, none⟩), .agg #[.int .i64 N, .slice A l.length cap], (⟨1, og, false⟩ : Opr).val] w fun e w' => e = .returned (.int .i64 3) ∧ RmS g bs bu l.length f m w' ∧ But3 g bs bu w w' := by
  have HD := Lib.hid (DoS.start N A cap ⟨1, og, false⟩ h)
  obtain ⟨f1, f2, f3⟩ := HD.out.1.1.facts
  obtain ⟨e1, e2, e3⟩ := HD.out.2.1.facts
  obtain ⟨o1, o2, o3⟩ := HD.out.2.2.1.facts
  obtain ⟨ms, ma, mh, mk, msw, mus⟩ := m
  try dsimp only at h0
  try dsimp only at h1
  try dsimp only at h8
  dsimp only at f1 o1 ⊢
  clear h
  show Calls Try.prog 70 #[.pointer (some ⟨g, 0, none⟩), .agg #[.int .i64 N, .slice A l.length cap], .agg #[.int .i64 1, .int .i64 og, .bool false]] w _
  go_enter Try.func70, Try.ntmps70
  have hn : ¬ 0 ≤ mh := by omega
  clear h0
  go_wp2
  go_ret
  exact ⟨rfl, HD.out.1, But3.of HD.out.2.2.2⟩
set_option maxRecDepth 100000 in
set_option maxHeartbeats 4000000 in
theorem does_go (og : Int) (h : RmS g bs bu l.length f m w) (ha : Ap w0.heap.size g bs bu) (h0 : m.h < 0) (h1 : ¬ N ≤ og) :
    Calls Try.prog 70 #[.pointer (some ⟨g, 0, none⟩), .agg #[.int .i64 N, .slice A l.length cap], (⟨1, og, false⟩ : Opr).val] w fun e w' => e = .returned (.int .i64 0) ∧ RmS g bs bu l.length f { m with a := og } w' ∧ But3 g bs bu w w' := by
  have HD := Lib.hid (DoS.start N A cap ⟨1, og, false⟩ h)
  obtain ⟨f1, f2, f3⟩ := HD.out.1.1.facts
  obtain ⟨e1, e2, e3⟩ := HD.out.2.1.facts
  obtain ⟨o1, o2, o3⟩ := HD.out.2.2.1.facts
  obtain ⟨ms, ma, mh, mk, msw, mus⟩ := m
  try dsimp only at h0
  try dsimp only at h1
  try dsimp only at h8
  dsimp only at f1 o1 ⊢
  clear h
  show Calls Try.prog 70 #[.pointer (some ⟨g, 0, none⟩), .agg #[.int .i64 N, .slice A l.length cap], .agg #[.int .i64 1, .int .i64 og, .bool false]] w _
  go_enter Try.func70, Try.ntmps70
  have hn : ¬ 0 ≤ mh := by omega
  clear h0
  have HR := Lib.hid (HD.out.1.setA ha og)
  have HB := Lib.hid ((But3.of (g := g) (bs := bs) (bu := bu) HD.out.2.2.2).set (k := g) (j := 2) (.inl rfl) (.int .i64 og))
  go_wp2
  go_ret
  exact ⟨rfl, HR.out, HB.out⟩
set_option maxRecDepth 100000 in
set_option maxHeartbeats 4000000 in
theorem does_lock_no (og : Int) (h : RmS g bs bu l.length f m w) (ha : Ap w0.heap.size g bs bu) (h0 : m.h < 0) :
    Calls Try.prog 70 #[.pointer (some ⟨g, 0, none⟩), .agg #[.int .i64 N, .slice A l.length cap], (⟨2, og, false⟩ : Opr).val] w fun e w' => e = .returned (.int .i64 4) ∧ RmS g bs bu l.length f m w' ∧ But3 g bs bu w w' := by
  have HD := Lib.hid (DoS.start N A cap ⟨2, og, false⟩ h)
  obtain ⟨f1, f2, f3⟩ := HD.out.1.1.facts
  obtain ⟨e1, e2, e3⟩ := HD.out.2.1.facts
  obtain ⟨o1, o2, o3⟩ := HD.out.2.2.1.facts
  obtain ⟨ms, ma, mh, mk, msw, mus⟩ := m
  try dsimp only at h0
  try dsimp only at h1
  try dsimp only at h8
  dsimp only at f1 o1 ⊢
  clear h
  show Calls Try.prog 70 #[.pointer (some ⟨g, 0, none⟩), .agg #[.int .i64 N, .slice A l.length cap], .agg #[.int .i64 2, .int .i64 og, .bool false]] w _
  go_enter Try.func70, Try.ntmps70
  go_wp2
  go_ret
  exact ⟨rfl, HD.out.1, But3.of HD.out.2.2.2⟩
set_option maxRecDepth 100000 in
set_option maxHeartbeats 4000000 in
theorem does_cut_no (og : Int) (h : RmS g bs bu l.length f m w) (ha : Ap w0.heap.size g bs bu) (h0 : m.h < 0) :
    Calls Try.prog 70 #[.pointer (some ⟨g, 0, none⟩), .agg #[.int .i64 N, .slice A l.length cap], (⟨4, og, false⟩ : Opr).val] w fun e w' => e = .returned (.int .i64 4) ∧ RmS g bs bu l.length f m w' ∧ But3 g bs bu w w' := by
  have HD := Lib.hid (DoS.start N A cap ⟨4, og, false⟩ h)
  obtain ⟨f1, f2, f3⟩ := HD.out.1.1.facts
  obtain ⟨e1, e2, e3⟩ := HD.out.2.1.facts
  obtain ⟨o1, o2, o3⟩ := HD.out.2.2.1.facts
  obtain ⟨ms, ma, mh, mk, msw, mus⟩ := m
  try dsimp only at h0
  try dsimp only at h1
  try dsimp only at h8
  dsimp only at f1 o1 ⊢
  clear h
  show Calls Try.prog 70 #[.pointer (some ⟨g, 0, none⟩), .agg #[.int .i64 N, .slice A l.length cap], .agg #[.int .i64 4, .int .i64 og, .bool false]] w _
  go_enter Try.func70, Try.ntmps70
  go_wp2
  go_ret
  exact ⟨rfl, HD.out.1, But3.of HD.out.2.2.2⟩
set_option maxRecDepth 100000 in
set_option maxHeartbeats 4000000 in
theorem does_sew_no (q : Nat) (ob : Bool) (h : RmS g bs bu l.length f m w) (ha : Ap w0.heap.size g bs bu) (h0 : m.h < 0) :
    Calls Try.prog 70 #[.pointer (some ⟨g, 0, none⟩), .agg #[.int .i64 N, .slice A l.length cap], (⟨3, (q : Int), ob⟩ : Opr).val] w fun e w' => e = .returned (.int .i64 4) ∧ RmS g bs bu l.length f m w' ∧ But3 g bs bu w w' := by
  have HD := Lib.hid (DoS.start N A cap ⟨3, (q : Int), ob⟩ h)
  obtain ⟨f1, f2, f3⟩ := HD.out.1.1.facts
  obtain ⟨e1, e2, e3⟩ := HD.out.2.1.facts
  obtain ⟨o1, o2, o3⟩ := HD.out.2.2.1.facts
  obtain ⟨ms, ma, mh, mk, msw, mus⟩ := m
  try dsimp only at h0
  try dsimp only at h1
  try dsimp only at h8
  dsimp only at f1 o1 ⊢
  clear h
  show Calls Try.prog 70 #[.pointer (some ⟨g, 0, none⟩), .agg #[.int .i64 N, .slice A l.length cap], .agg #[.int .i64 3, .int .i64 (q : Int), .bool ob]] w _
  go_enter Try.func70, Try.ntmps70
  go_wp2
  go_ret
  exact ⟨rfl, HD.out.1, But3.of HD.out.2.2.2⟩
set_option maxRecDepth 100000 in
set_option maxHeartbeats 4000000 in
theorem does_sew_far (q : Nat) (ob : Bool) (h : RmS g bs bu l.length f m w) (ha : Ap w0.heap.size g bs bu) (h0 : 0 ≤ m.h) (h1 : (l.length : Int) ≤ q) :
    Calls Try.prog 70 #[.pointer (some ⟨g, 0, none⟩), .agg #[.int .i64 N, .slice A l.length cap], (⟨3, (q : Int), ob⟩ : Opr).val] w fun e w' => e = .returned (.int .i64 5) ∧ RmS g bs bu l.length f m w' ∧ But3 g bs bu w w' := by
  have HD := Lib.hid (DoS.start N A cap ⟨3, (q : Int), ob⟩ h)
  obtain ⟨f1, f2, f3⟩ := HD.out.1.1.facts
  obtain ⟨e1, e2, e3⟩ := HD.out.2.1.facts
  obtain ⟨o1, o2, o3⟩ := HD.out.2.2.1.facts
  obtain ⟨ms, ma, mh, mk, msw, mus⟩ := m
  try dsimp only at h0
  try dsimp only at h1
  try dsimp only at h8
  dsimp only at f1 o1 ⊢
  clear h
  show Calls Try.prog 70 #[.pointer (some ⟨g, 0, none⟩), .agg #[.int .i64 N, .slice A l.length cap], .agg #[.int .i64 3, .int .i64 (q : Int), .bool ob]] w _
  go_enter Try.func70, Try.ntmps70
  have hn : ¬ mh < 0 := by omega
  go_wp2
  go_ret
  exact ⟨rfl, HD.out.1, But3.of HD.out.2.2.2⟩
set_option maxRecDepth 100000 in
set_option maxHeartbeats 4000000 in
theorem does_lock (og : Int) (h : RmS g bs bu l.length f m w) (ha : Ap w0.heap.size g bs bu) (h0 : 0 ≤ m.h) (h8 : m.h < 8) :
    Calls Try.prog 70 #[.pointer (some ⟨g, 0, none⟩), .agg #[.int .i64 N, .slice A l.length cap], (⟨2, og, false⟩ : Opr).val] w fun e w' => e = .returned (.int .i64 0) ∧ RmS g bs bu l.length f (m.use 4) w' ∧ But3 g bs bu w w' := by
  have HGW := Lib.hid (show g < w.heap.size ∧ bs < w.heap.size ∧ bu < w.heap.size from ⟨h.1.lt, h.2.1.lt, h.2.2.lt⟩)
  have HD := Lib.hid (DoS.start N A cap ⟨2, og, false⟩ h)
  obtain ⟨f1, f2, f3⟩ := HD.out.1.1.facts
  obtain ⟨e1, e2, e3⟩ := HD.out.2.1.facts
  obtain ⟨o1, o2, o3⟩ := HD.out.2.2.1.facts
  obtain ⟨ms, ma, mh, mk, msw, mus⟩ := m
  try dsimp only at h0
  try dsimp only at h1
  try dsimp only at h8
  dsimp only at f1 o1 ⊢
  clear h
  show Calls Try.prog 70 #[.pointer (some ⟨g, 0, none⟩), .agg #[.int .i64 N, .slice A l.length cap], .agg #[.int .i64 2, .int .i64 og, .bool false]] w _
  go_enter Try.func70, Try.ntmps70
  have hn : ¬ mh < 0 := by omega
  obtain ⟨p, rfl⟩ := Int.eq_ofNat_of_zero_le h0
  have p8 : p < 8 := by omega
  have p9 : (p : Int) < 8 := by omega
  go_upto_region 16 with (fail)
  obtain ⟨V, hV⟩ : ∃ V, V = (w.alloc (.cells #[.int .i64 N, .slice A l.length cap] 24)).alloc (.cells #[.int .i64 2, .int .i64 og, .bool false] 97) := ⟨_, rfl⟩
  have HX := Lib.hid (show DoX g bs bu N A cap f ⟨ms, ma, (p : Int), mk, msw, mus⟩ ⟨2, og, false⟩ l w V from by rw [hV]; exact HD.out.x)
  rw [← hV]
  clear hV HD f1 f2 f3 e1 e2 e3 o1 o2 o3
  obtain ⟨f1, f2, f3⟩ := HX.out.1.1.facts
  obtain ⟨e1, e2, e3⟩ := HX.out.2.1.facts
  obtain ⟨o1, o2, o3⟩ := HX.out.2.2.1.facts
  have u1 := HX.out.1.2.2.cell (i := p) p8
  have u2 := HX.out.1.2.2.frozen p
  have u3 := HX.out.1.2.2.lt
  dsimp only at f1 o1 u1
  have hst := HX.out.next HGW.out (k := bu) (j := p) (.inr (.inr rfl)) (.int .i64 (wrap64 (mus p + 4))) (HX.out.1.use ha 4)
  have HST := Lib.hid hst
  clear hst
  go_cut [] (fun wx => DoX g bs bu N A cap f (Mc.use ⟨ms, ma, (p : Int), mk, msw, mus⟩ 4) ⟨2, og, false⟩ l w wx)
  case first =>
    go_still_tail 11, (by kernel_rfl)
    go_wp2
    go_meet
    first
      | exact HST.out
      | exact HST.out.ext (ext_drewN _ _)
  case rest =>
    clear HX HST f1 f2 f3 e1 e2 e3 o1 o2 o3 u1 u2 u3
    have HX := Lib.hid hcut
    obtain ⟨f1, f2, f3⟩ := hcut.1.1.facts
    obtain ⟨e1, e2, e3⟩ := hcut.2.1.facts
    obtain ⟨o1, o2, o3⟩ := hcut.2.2.1.facts
    dsimp only [Mc.use] at f1 o1
    clear hcut
    go_wp2
    go_ret
    exact ⟨rfl, HX.out.1, HX.out.2.2.2⟩
set_option maxRecDepth 100000 in
set_option maxHeartbeats 4000000 in
theorem does_cut (og : Int) (h : RmS g bs bu l.length f m w) (ha : Ap w0.heap.size g bs bu) (h0 : 0 ≤ m.h) (h8 : m.h < 8) :
    Calls Try.prog 70 #[.pointer (some ⟨g, 0, none⟩), .agg #[.int .i64 N, .slice A l.length cap], (⟨4, og, false⟩ : Opr).val] w fun e w' => e = .returned (.int .i64 0) ∧ RmS g bs bu l.length f { m.use 2 with h := -1, k := wrap64 (m.k + 1) } w' ∧ But3 g bs bu w w' := by
  have HGW := Lib.hid (show g < w.heap.size ∧ bs < w.heap.size ∧ bu < w.heap.size from ⟨h.1.lt, h.2.1.lt, h.2.2.lt⟩)
  have HD := Lib.hid (DoS.start N A cap ⟨4, og, false⟩ h)
  obtain ⟨f1, f2, f3⟩ := HD.out.1.1.facts
  obtain ⟨e1, e2, e3⟩ := HD.out.2.1.facts
  obtain ⟨o1, o2, o3⟩ := HD.out.2.2.1.facts
  obtain ⟨ms, ma, mh, mk, msw, mus⟩ := m
  try dsimp only at h0
  try dsimp only at h1
  try dsimp only at h8
  dsimp only at f1 o1 ⊢
  clear h
  show Calls Try.prog 70 #[.pointer (some ⟨g, 0, none⟩), .agg #[.int .i64 N, .slice A l.length cap], .agg #[.int .i64 4, .int .i64 og, .bool false]] w _
  go_enter Try.func70, Try.ntmps70
  have hn : ¬ mh < 0 := by omega
  obtain ⟨p, rfl⟩ := Int.eq_ofNat_of_zero_le h0
  have p8 : p < 8 := by omega
  have p9 : (p : Int) < 8 := by omega
  go_upto_region 19 with (fail)
  obtain ⟨V, hV⟩ : ∃ V, V = (w.alloc (.cells #[.int .i64 N, .slice A l.length cap] 24)).alloc (.cells #[.int .i64 4, .int .i64 og, .bool false] 97) := ⟨_, rfl⟩
  have HX := Lib.hid (show DoX g bs bu N A cap f ⟨ms, ma, (p : Int), mk, msw, mus⟩ ⟨4, og, false⟩ l w V from by rw [hV]; exact HD.out.x)
  rw [← hV]
  clear hV HD f1 f2 f3 e1 e2 e3 o1 o2 o3
  obtain ⟨f1, f2, f3⟩ := HX.out.1.1.facts
  obtain ⟨e1, e2, e3⟩ := HX.out.2.1.facts
  obtain ⟨o1, o2, o3⟩ := HX.out.2.2.1.facts
  have u1 := HX.out.1.2.2.cell (i := p) p8
  have u2 := HX.out.1.2.2.frozen p
  have u3 := HX.out.1.2.2.lt
  dsimp only at f1 o1 u1
  have hst := HX.out.next HGW.out (k := bu) (j := p) (.inr (.inr rfl)) (.int .i64 (wrap64 (mus p + 2))) (HX.out.1.use ha 2)
  have HST := Lib.hid hst
  clear hst
  go_cut [] (fun wx => DoX g bs bu N A cap f (Mc.use ⟨ms, ma, (p : Int), mk, msw, mus⟩ 2) ⟨4, og, false⟩ l w wx)
  case first =>
    go_still_tail 11, (by kernel_rfl)
    go_wp2
    go_meet
    first
      | exact HST.out
      | exact HST.out.ext (ext_drewN _ _)
  case rest =>
    clear HX HST f1 f2 f3 e1 e2 e3 o1 o2 o3 u1 u2 u3
    have HX := Lib.hid hcut
    obtain ⟨f1, f2, f3⟩ := hcut.1.1.facts
    obtain ⟨e1, e2, e3⟩ := hcut.2.1.facts
    obtain ⟨o1, o2, o3⟩ := hcut.2.2.1.facts
    dsimp only [Mc.use] at f1 o1
    clear hcut
    have HR := Lib.hid ((HX.out.1.setH ha (-1)).setK ha (wrap64 (mk + 1)))
    have HB := Lib.hid ((HX.out.2.2.2.set (k := g) (j := 3) (.inl rfl) (.int .i64 (-1))).set (k := g) (j := 4) (.inl rfl) (.int .i64 (wrap64 (mk + 1))))
    go_wp2
    go_ret
    exact ⟨rfl, HR.out, HB.out⟩
set_option maxRecDepth 100000 in
set_option maxHeartbeats 4000000 in
theorem does_sew_thr (q : Nat) (ob : Bool) (h : RmS g bs bu l.length f m w) (ha : Ap w0.heap.size g bs bu) (h0 : 0 ≤ m.h) (h8 : m.h < 8) (hS : SSl w0 A l) (hw0 : Below w0.heap.size w0 w) (hc : l.length ≤ cap) (hcm : cap ≤ 9223372036854775807) (hq : q < l.length) (h6 : (⟨(q : Int), ob⟩ : Mv).thr l ≠ m.h) :
    Calls Try.prog 70 #[.pointer (some ⟨g, 0, none⟩), .agg #[.int .i64 N, .slice A l.length cap], (⟨3, (q : Int), ob⟩ : Opr).val] w fun e w' => e = .returned (.int .i64 6) ∧ RmS g bs bu l.length f m w' ∧ But3 g bs bu w w' := by
  have HGW := Lib.hid (show g < w.heap.size ∧ bs < w.heap.size ∧ bu < w.heap.size from ⟨h.1.lt, h.2.1.lt, h.2.2.lt⟩)
  have H6 := Lib.hid h6
  clear h6
  have HD := Lib.hid (DoS.start N A cap ⟨3, (q : Int), ob⟩ h)
  obtain ⟨f1, f2, f3⟩ := HD.out.1.1.facts
  obtain ⟨e1, e2, e3⟩ := HD.out.2.1.facts
  obtain ⟨o1, o2, o3⟩ := HD.out.2.2.1.facts
  obtain ⟨ms, ma, mh, mk, msw, mus⟩ := m
  try dsimp only at h0
  try dsimp only at h1
  try dsimp only at h8
  dsimp only at f1 o1 ⊢
  clear h
  show Calls Try.prog 70 #[.pointer (some ⟨g, 0, none⟩), .agg #[.int .i64 N, .slice A l.length cap], .agg #[.int .i64 3, .int .i64 (q : Int), .bool ob]] w _
  go_enter Try.func70, Try.ntmps70
  have hn : ¬ mh < 0 := by omega
  obtain ⟨p, rfl⟩ := Int.eq_ofNat_of_zero_le h0
  have p8 : p < 8 := by omega
  have p9 : (p : Int) < 8 := by omega
  have hqi : (q : Int) < (l.length : Int) := by omega
  go_upto_region 25 with (fail)
  obtain ⟨V, hV⟩ : ∃ V, V = (w.alloc (.cells #[.int .i64 N, .slice A l.length cap] 24)).alloc (.cells #[.int .i64 3, .int .i64 (q : Int), .bool ob] 97) := ⟨_, rfl⟩
  have HX := Lib.hid (show DoS g bs bu N A cap f ⟨ms, ma, (p : Int), mk, msw, mus⟩ ⟨3, (q : Int), ob⟩ l w V from by rw [hV]; exact HD.out)
  rw [← hV]
  clear hV HD f1 f2 f3 e1 e2 e3 o1 o2 o3
  obtain ⟨f1, f2, f3⟩ := HX.out.1.1.facts
  obtain ⟨e1, e2, e3⟩ := HX.out.2.1.facts
  obtain ⟨o1, o2, o3⟩ := HX.out.2.2.1.facts
  dsimp only at f1 o1
  have hx17 : Below w0.heap.size w0 V := hw0.trans (HX.out.2.2.2.mono hw0.size)
  rcases hS.ext hx17 with hnil | ⟨b3, off3, rfl, hblt3, hc3⟩
  · rw [hnil] at hq; simp at hq
  obtain ⟨c1, c2, c3, c4⟩ := hc3 q hq
  obtain ⟨sm, hsm⟩ : ∃ sm, sm = l[q] := ⟨_, rfl⟩
  rw [← hsm] at c1 c2 c3 c4
  have HSM := Lib.hid hsm
  obtain ⟨sa, sb, sn, st⟩ := sm
  dsimp only at c1 c2 c3 c4
  clear hsm hc3
  have h6 : (st != (p : Int)) = true := by
    have h := H6.out
    unfold Mv.thr at h
    rw [Int.toNat_natCast, List.getElem?_eq_getElem hq, ← HSM.out] at h
    simpa using h
  go_quiet (fail)
  go_wp2
  go_ret
  exact ⟨rfl, HX.out.1.ext (ext_drewN _ _), But3.of (bext HX.out.2.2.2 (ext_drewN _ _) HX.out.2.2.2.size)⟩
set_option maxRecDepth 100000 in
set_option maxHeartbeats 4000000 in
theorem does_sew_at (q : Nat) (ob : Bool) (h : RmS g bs bu l.length f m w) (ha : Ap w0.heap.size g bs bu) (h0 : 0 ≤ m.h) (h8 : m.h < 8) (hS : SSl w0 A l) (hw0 : Below w0.heap.size w0 w) (hc : l.length ≤ cap) (hcm : cap ≤ 9223372036854775807) (hq : q < l.length) (h6 : (⟨(q : Int), ob⟩ : Mv).thr l = m.h) (h7 : m.a ≠ (⟨(q : Int), ob⟩ : Mv).from l) :
    Calls Try.prog 70 #[.pointer (some ⟨g, 0, none⟩), .agg #[.int .i64 N, .slice A l.length cap], (⟨3, (q : Int), ob⟩ : Opr).val] w fun e w' => e = .returned (.int .i64 7) ∧ RmS g bs bu l.length f m w' ∧ But3 g bs bu w w' := by
  have HGW := Lib.hid (show g < w.heap.size ∧ bs < w.heap.size ∧ bu < w.heap.size from ⟨h.1.lt, h.2.1.lt, h.2.2.lt⟩)
  have H6 := Lib.hid h6
  clear h6
  have H7 := Lib.hid h7
  clear h7
  have HD := Lib.hid (DoS.start N A cap ⟨3, (q : Int), ob⟩ h)
  obtain ⟨f1, f2, f3⟩ := HD.out.1.1.facts
  obtain ⟨e1, e2, e3⟩ := HD.out.2.1.facts
  obtain ⟨o1, o2, o3⟩ := HD.out.2.2.1.facts
  obtain ⟨ms, ma, mh, mk, msw, mus⟩ := m
  try dsimp only at h0
  try dsimp only at h1
  try dsimp only at h8
  dsimp only at f1 o1 ⊢
  clear h
  show Calls Try.prog 70 #[.pointer (some ⟨g, 0, none⟩), .agg #[.int .i64 N, .slice A l.length cap], .agg #[.int .i64 3, .int .i64 (q : Int), .bool ob]] w _
  go_enter Try.func70, Try.ntmps70
  have hn : ¬ mh < 0 := by omega
  obtain ⟨p, rfl⟩ := Int.eq_ofNat_of_zero_le h0
  have p8 : p < 8 := by omega
  have p9 : (p : Int) < 8 := by omega
  have hqi : (q : Int) < (l.length : Int) := by omega
  go_upto_region 25 with (fail)
  obtain ⟨V, hV⟩ : ∃ V, V = (w.alloc (.cells #[.int .i64 N, .slice A l.length cap] 24)).alloc (.cells #[.int .i64 3, .int .i64 (q : Int), .bool ob] 97) := ⟨_, rfl⟩
  have HX := Lib.hid (show DoS g bs bu N A cap f ⟨ms, ma, (p : Int), mk, msw, mus⟩ ⟨3, (q : Int), ob⟩ l w V from by rw [hV]; exact HD.out)
  rw [← hV]
  clear hV HD f1 f2 f3 e1 e2 e3 o1 o2 o3
  obtain ⟨f1, f2, f3⟩ := HX.out.1.1.facts
  obtain ⟨e1, e2, e3⟩ := HX.out.2.1.facts
  obtain ⟨o1, o2, o3⟩ := HX.out.2.2.1.facts
  dsimp only at f1 o1
  have hx17 : Below w0.heap.size w0 V := hw0.trans (HX.out.2.2.2.mono hw0.size)
  rcases hS.ext hx17 with hnil | ⟨b3, off3, rfl, hblt3, hc3⟩
  · rw [hnil] at hq; simp at hq
  obtain ⟨c1, c2, c3, c4⟩ := hc3 q hq
  obtain ⟨sm, hsm⟩ : ∃ sm, sm = l[q] := ⟨_, rfl⟩
  rw [← hsm] at c1 c2 c3 c4
  have HSM := Lib.hid hsm
  obtain ⟨sa, sb, sn, st⟩ := sm
  dsimp only at c1 c2 c3 c4
  clear hsm hc3
  have h6 : st = (p : Int) := by
    have h := H6.out
    unfold Mv.thr at h
    rw [Int.toNat_natCast, List.getElem?_eq_getElem hq, ← HSM.out] at h
    exact h
  have HEN := Lib.hid (fun W h => rEnds_any N (some ⟨b3, off3, none⟩) cap l ⟨(q : Int), ob⟩ W hc hcm h ⟨Int.natCast_nonneg _, hqi⟩)
  have HSL := Lib.hid (fun W (hW : Below w.heap.size w W) => hS.ext (hw0.trans (hW.mono hw0.size)))
  have h6b : (st != (p : Int)) = false := by simpa using h6
  go_quiet (fail)
  have hz := ext_drewN V nq
  obtain ⟨X, hX⟩ : ∃ X, X = V.drewN nq := ⟨_, rfl⟩
  have HXX := Lib.hid (show DoS g bs bu N (some ⟨b3, off3, none⟩) cap f ⟨ms, ma, (p : Int), mk, msw, mus⟩ ⟨3, (q : Int), ob⟩ l w X from by rw [hX]; exact HX.out.ext hz)
  have hbX : Below V.heap.size V X := by rw [hX]; exact hz
  rw [← hX]
  clear hX hz HX f1 f2 f3 e1 e2 e3 o1 o2 o3
  have hcx : ∀ j y, V.cell? ⟨b3, j, none⟩ = some y → X.cell? ⟨b3, j, none⟩ = some y := fun j y h => (hbX.cell (p := ⟨b3, j, none⟩) hblt3).trans h
  have c1 := hcx _ _ c1
  have c3 := hcx _ _ c3
  have hblt4 := Nat.lt_of_lt_of_le hblt3 hbX.size
  clear c2 c4 hcx hbX hx17
  obtain ⟨f1, f2, f3⟩ := HXX.out.1.1.facts
  obtain ⟨e1, e2, e3⟩ := HXX.out.2.1.facts
  obtain ⟨o1, o2, o3⟩ := HXX.out.2.2.1.facts
  dsimp only at f1 o1
  go_upto_region 28 with (go_at_call 37; refine (HEN.out _ (HSL.out _ HXX.out.2.2.2)).mono ?_; rintro e w4 ⟨rfl, hx4⟩)
  clear f1 f2 f3 e1 e2 e3 o1 o2 o3
  have HX := Lib.hid (HXX.out.ext hx4)
  have c3 := (hx4.cell (p := ⟨b3, off3 + q * 4 + 2, none⟩) hblt4).trans c3
  have hblt5 := Nat.lt_of_lt_of_le hblt4 hx4.size
  clear hx4 HXX c1 hblt3 hblt4
  obtain ⟨f1, f2, f3⟩ := HX.out.1.1.facts
  obtain ⟨e1, e2, e3⟩ := HX.out.2.1.facts
  obtain ⟨o1, o2, o3⟩ := HX.out.2.2.1.facts
  dsimp only at f1 o1
  obtain ⟨fr, hfr⟩ : ∃ fr, fr = (⟨(q : Int), ob⟩ : Mv).from l := ⟨_, rfl⟩
  obtain ⟨to_, hto⟩ : ∃ to_, to_ = (⟨(q : Int), ob⟩ : Mv).to_ l := ⟨_, rfl⟩
  rw [← hfr] at H7
  rw [← hfr, ← hto]
  have HTO := Lib.hid hto
  clear hfr hto
  have h7 : (fr != ma) = true := by have h := H7.out; simp; exact fun e => h e.symm
  go_wp2
  go_ret
  exact ⟨rfl, HX.out.1, But3.of HX.out.2.2.2⟩
set_option maxRecDepth 100000 in
set_option maxHeartbeats 4000000 in
theorem does_sew (q : Nat) (ob : Bool) (h : RmS g bs bu l.length f m w) (ha : Ap w0.heap.size g bs bu) (h0 : 0 ≤ m.h) (h8 : m.h < 8) (hS : SSl w0 A l) (hw0 : Below w0.heap.size w0 w) (hc : l.length ≤ cap) (hcm : cap ≤ 9223372036854775807) (hq : q < l.length) (h6 : (⟨(q : Int), ob⟩ : Mv).thr l = m.h) (h7 : m.a = (⟨(q : Int), ob⟩ : Mv).from l) :
    Calls Try.prog 70 #[.pointer (some ⟨g, 0, none⟩), .agg #[.int .i64 N, .slice A l.length cap], (⟨3, (q : Int), ob⟩ : Opr).val] w fun e w' => e = .returned (.int .i64 0) ∧ RmS g bs bu l.length f { m.use (wrap64 (3 * (⟨(q : Int), ob⟩ : Mv).len l)) with sw := upd m.sw q (wrap64 (m.sw q + 1)), a := (⟨(q : Int), ob⟩ : Mv).to_ l } w' ∧ But3 g bs bu w w' := by
  have HGW := Lib.hid (show g < w.heap.size ∧ bs < w.heap.size ∧ bu < w.heap.size from ⟨h.1.lt, h.2.1.lt, h.2.2.lt⟩)
  have H6 := Lib.hid h6
  clear h6
  have H7 := Lib.hid h7
  clear h7
  have HD := Lib.hid (DoS.start N A cap ⟨3, (q : Int), ob⟩ h)
  obtain ⟨f1, f2, f3⟩ := HD.out.1.1.facts
  obtain ⟨e1, e2, e3⟩ := HD.out.2.1.facts
  obtain ⟨o1, o2, o3⟩ := HD.out.2.2.1.facts
  obtain ⟨ms, ma, mh, mk, msw, mus⟩ := m
  try dsimp only at h0
  try dsimp only at h1
  try dsimp only at h8
  dsimp only at f1 o1 ⊢
  clear h
  show Calls Try.prog 70 #[.pointer (some ⟨g, 0, none⟩), .agg #[.int .i64 N, .slice A l.length cap], .agg #[.int .i64 3, .int .i64 (q : Int), .bool ob]] w _
  go_enter Try.func70, Try.ntmps70
  have hn : ¬ mh < 0 := by omega
  obtain ⟨p, rfl⟩ := Int.eq_ofNat_of_zero_le h0
  have p8 : p < 8 := by omega
  have p9 : (p : Int) < 8 := by omega
  have hqi : (q : Int) < (l.length : Int) := by omega
  go_upto_region 25 with (fail)
  obtain ⟨V, hV⟩ : ∃ V, V = (w.alloc (.cells #[.int .i64 N, .slice A l.length cap] 24)).alloc (.cells #[.int .i64 3, .int .i64 (q : Int), .bool ob] 97) := ⟨_, rfl⟩
  have HX := Lib.hid (show DoS g bs bu N A cap f ⟨ms, ma, (p : Int), mk, msw, mus⟩ ⟨3, (q : Int), ob⟩ l w V from by rw [hV]; exact HD.out)
  rw [← hV]
  clear hV HD f1 f2 f3 e1 e2 e3 o1 o2 o3
  obtain ⟨f1, f2, f3⟩ := HX.out.1.1.facts
  obtain ⟨e1, e2, e3⟩ := HX.out.2.1.facts
  obtain ⟨o1, o2, o3⟩ := HX.out.2.2.1.facts
  dsimp only at f1 o1
  have hx17 : Below w0.heap.size w0 V := hw0.trans (HX.out.2.2.2.mono hw0.size)
  rcases hS.ext hx17 with hnil | ⟨b3, off3, rfl, hblt3, hc3⟩
  · rw [hnil] at hq; simp at hq
  obtain ⟨c1, c2, c3, c4⟩ := hc3 q hq
  obtain ⟨sm, hsm⟩ : ∃ sm, sm = l[q] := ⟨_, rfl⟩
  rw [← hsm] at c1 c2 c3 c4
  have HSM := Lib.hid hsm
  obtain ⟨sa, sb, sn, st⟩ := sm
  dsimp only at c1 c2 c3 c4
  clear hsm hc3
  have h6 : st = (p : Int) := by
    have h := H6.out
    unfold Mv.thr at h
    rw [Int.toNat_natCast, List.getElem?_eq_getElem hq, ← HSM.out] at h
    exact h
  have HEN := Lib.hid (fun W h => rEnds_any N (some ⟨b3, off3, none⟩) cap l ⟨(q : Int), ob⟩ W hc hcm h ⟨Int.natCast_nonneg _, hqi⟩)
  have HSL := Lib.hid (fun W (hW : Below w.heap.size w W) => hS.ext (hw0.trans (hW.mono hw0.size)))
  have h6b : (st != (p : Int)) = false := by simpa using h6
  go_quiet (fail)
  have hz := ext_drewN V nq
  obtain ⟨X, hX⟩ : ∃ X, X = V.drewN nq := ⟨_, rfl⟩
  have HXX := Lib.hid (show DoS g bs bu N (some ⟨b3, off3, none⟩) cap f ⟨ms, ma, (p : Int), mk, msw, mus⟩ ⟨3, (q : Int), ob⟩ l w X from by rw [hX]; exact HX.out.ext hz)
  have hbX : Below V.heap.size V X := by rw [hX]; exact hz
  rw [← hX]
  clear hX hz HX f1 f2 f3 e1 e2 e3 o1 o2 o3
  have hcx : ∀ j y, V.cell? ⟨b3, j, none⟩ = some y → X.cell? ⟨b3, j, none⟩ = some y := fun j y h => (hbX.cell (p := ⟨b3, j, none⟩) hblt3).trans h
  have c1 := hcx _ _ c1
  have c3 := hcx _ _ c3
  have hblt4 := Nat.lt_of_lt_of_le hblt3 hbX.size
  clear c2 c4 hcx hbX hx17
  obtain ⟨f1, f2, f3⟩ := HXX.out.1.1.facts
  obtain ⟨e1, e2, e3⟩ := HXX.out.2.1.facts
  obtain ⟨o1, o2, o3⟩ := HXX.out.2.2.1.facts
  dsimp only at f1 o1
  go_upto_region 28 with (go_at_call 37; refine (HEN.out _ (HSL.out _ HXX.out.2.2.2)).mono ?_; rintro e w4 ⟨rfl, hx4⟩)
  clear f1 f2 f3 e1 e2 e3 o1 o2 o3
  have HX := Lib.hid (HXX.out.ext hx4)
  have c3 := (hx4.cell (p := ⟨b3, off3 + q * 4 + 2, none⟩) hblt4).trans c3
  have hblt5 := Nat.lt_of_lt_of_le hblt4 hx4.size
  clear hx4 HXX c1 hblt3 hblt4
  obtain ⟨f1, f2, f3⟩ := HX.out.1.1.facts
  obtain ⟨e1, e2, e3⟩ := HX.out.2.1.facts
  obtain ⟨o1, o2, o3⟩ := HX.out.2.2.1.facts
  dsimp only at f1 o1
  obtain ⟨fr, hfr⟩ : ∃ fr, fr = (⟨(q : Int), ob⟩ : Mv).from l := ⟨_, rfl⟩
  obtain ⟨to_, hto⟩ : ∃ to_, to_ = (⟨(q : Int), ob⟩ : Mv).to_ l := ⟨_, rfl⟩
  rw [← hfr] at H7
  rw [← hfr, ← hto]
  have HTO := Lib.hid hto
  clear hfr hto
  have hlen : (⟨(q : Int), ob⟩ : Mv).len l = sn := by
    unfold Mv.len
    rw [Int.toNat_natCast, List.getElem?_eq_getElem hq, ← HSM.out]
  have HLEN := Lib.hid hlen
  have h7 : (fr != ma) = false := by have h := H7.out; simp; exact h.symm
  clear hlen
  go_upto_region 30 with (fail)
  have hx5 := HX.out.x
  clear f1 f2 f3 e1 e2 e3 o1 o2 o3 HX
  have HX := Lib.hid hx5
  clear hx5
  obtain ⟨f1, f2, f3⟩ := HX.out.1.1.facts
  obtain ⟨e1, e2, e3⟩ := HX.out.2.1.facts
  obtain ⟨o1, o2, o3⟩ := HX.out.2.2.1.facts
  have u1 := HX.out.1.2.2.cell (i := p) p8
  have u2 := HX.out.1.2.2.frozen p
  have u3 := HX.out.1.2.2.lt
  dsimp only at f1 o1 u1
  have hst := HX.out.next HGW.out (k := bu) (j := p) (.inr (.inr rfl)) (.int .i64 (wrap64 (mus p + (wrap64 (3 * sn))))) (HX.out.1.use ha (wrap64 (3 * sn)))
  have HST := Lib.hid hst
  clear hst
  go_cut [] (fun wx => DoX g bs bu N (some ⟨b3, off3, none⟩) cap f (Mc.use ⟨ms, ma, (p : Int), mk, msw, mus⟩ (wrap64 (3 * sn))) ⟨3, (q : Int), ob⟩ l w wx)
  case first =>
    go_still_tail 19, (by kernel_rfl)
    go_wp2
    go_meet
    first
      | exact HST.out
      | exact HST.out.ext (ext_drewN _ _)
  case rest =>
    clear HX HST c3 f1 f2 f3 e1 e2 e3 o1 o2 o3 u1 u2 u3
    have HX := Lib.hid hcut
    obtain ⟨f1, f2, f3⟩ := hcut.1.1.facts
    obtain ⟨e1, e2, e3⟩ := hcut.2.1.facts
    obtain ⟨o1, o2, o3⟩ := hcut.2.2.1.facts
    dsimp only [Mc.use] at f1 o1
    clear hcut
    go_upto_region 31 with (fail)
    have w1 := HX.out.1.2.1.cell hq
    have w2 := HX.out.1.2.1.frozen q
    have w3 := HX.out.1.2.1.lt
    dsimp only [Mc.use] at w1
    have hst := HX.out.next HGW.out (k := bs) (j := q) (.inr (.inl rfl)) (.int .i64 (wrap64 (msw q + 1))) (HX.out.1.setW ha q (wrap64 (msw q + 1)))
    have HST := Lib.hid hst
    clear hst
    go_cut [] (fun wx => DoX g bs bu N (some ⟨b3, off3, none⟩) cap f { (Mc.use ⟨ms, ma, (p : Int), mk, msw, mus⟩ (wrap64 (3 * sn))) with sw := upd msw q (wrap64 (msw q + 1)) } ⟨3, (q : Int), ob⟩ l w wx)
    case first =>
      go_still_tail 9, (by kernel_rfl)
      go_wp2
      go_meet
      first
        | exact HST.out
        | exact HST.out.ext (ext_drewN _ _)
    case rest =>
      clear HX HST f1 f2 f3 e1 e2 e3 o1 o2 o3 w1 w2 w3
      have HX := Lib.hid hcut
      obtain ⟨f1, f2, f3⟩ := hcut.1.1.facts
      dsimp only [Mc.use] at f1
      clear hcut
      have HR := Lib.hid (HX.out.1.setA ha to_)
      have HB := Lib.hid (HX.out.2.2.2.set (k := g) (j := 2) (.inl rfl) (.int .i64 to_))
      go_wp2
      go_ret
      rw [HLEN.out, ← HTO.out]
      exact ⟨rfl, HR.out, HB.out⟩
end
end Go.Proofs.Ytbhjhajnhpohlaa
