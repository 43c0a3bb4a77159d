/- The reference's simple: contracts of the calls behind the last whole number. -/
import Derived.Test.YthkoblnfeebafaaHd
namespace Go.Proofs.Ythkoblnfeebafaa
open Go.RowKit

theorem deep_parts {an ad bn bd A : Int} (ha : 1 ≤ ad) (hb : 1 ≤ bd) (hA : an / ad = A) (h3 : an % ad ≠ 0) (hle : an * bd ≤ bn * ad) (hn : bn < (A + 1) * bd) :
    1 ≤ bn - A * bd ∧ bn - A * bd < bd ∧ 1 ≤ an - A * ad ∧ an - A * ad < ad ∧ bd * (an - A * ad) ≤ ad * (bn - A * bd) := by
  subst hA
  have e1 := Int.mul_ediv_add_emod an ad
  have r1 := Int.emod_nonneg an (show ad ≠ 0 by omega)
  have r2 := Int.emod_lt_of_pos an (show 0 < ad by omega)
  have eA : an / ad * ad = ad * (an / ad) := Int.mul_comm _ _
  generalize an / ad = A at *
  have f1 : (A + 1) * bd = A * bd + bd := by grind
  have f2 : bd * (an - A * ad) = an * bd - A * ad * bd := by grind
  have f3 : ad * (bn - A * bd) = bn * ad - A * ad * bd := by grind
  have h5 : bd * (an - A * ad) ≤ ad * (bn - A * bd) := by omega
  refine ⟨?_, by omega, by omega, by omega, h5⟩
  have h6 : 1 ≤ an - A * ad := by omega
  have m1 : bd * 1 ≤ bd * (an - A * ad) := Int.mul_le_mul_of_nonneg_left h6 (by omega)
  have h7 : 0 < ad * (bn - A * bd) := by omega
  exact Int.pos_of_mul_pos_right h7 (by omega)

theorem simple_start {a b : Rat} {A : Int} (la : Lim a) (lb : Lim b) (zA : QOk (A : Rat)) (h3 : a.num % (a.den : Int) ≠ 0) (hAd : a.num / (a.den : Int) = A) (hle : a.num * b.den ≤ b.num * a.den) (hn : b.num < (A + 1) * (b.den : Int))
    (IH : ∀ va vb W, QAt W va (rat b.den (b.num - A * b.den)) → QAt W vb (rat a.den (a.num - A * a.den)) → Calls Try.prog 95 #[va, vb] W (RetSQ W (rat b.den (b.num - A * b.den)) (rat a.den (a.num - A * a.den)))) :
    (∀ vx vy W, QAt W vx b → QAt W vy (A : Rat) → Calls Try.prog 33 #[vx, vy] W (RetQ W (rat (b.num - A * b.den) b.den))) ∧
    (∀ vx vy W, QAt W vx a → QAt W vy (A : Rat) → Calls Try.prog 33 #[vx, vy] W (RetQ W (rat (a.num - A * a.den) a.den))) ∧
    (∀ vx vy W, QAt W vx ((1 : Int) : Rat) → QAt W vy (rat (b.num - A * b.den) b.den) → Calls Try.prog 38 #[vx, vy] W (RetQ W (rat b.den (b.num - A * b.den)))) ∧
    (∀ vx vy W, QAt W vx ((1 : Int) : Rat) → QAt W vy (rat (a.num - A * a.den) a.den) → Calls Try.prog 38 #[vx, vy] W (RetQ W (rat a.den (a.num - A * a.den)))) ∧
    (∀ va vb W, QAt W va (rat b.den (b.num - A * b.den)) → QAt W vb (rat a.den (a.num - A * a.den)) → Calls Try.prog 95 #[va, vb] W
      (fun e w' => ∃ (q : Rat) (v : Value), e = .returned v ∧ QAt w' v q ∧ Sp.Strong b.den (b.num - A * b.den) a.den (a.num - A * a.den) q.num q.den ∧ Below W.heap.size W w')) := by
  have hda := den_one a
  have hdb := den_one b
  obtain ⟨d1, d2, d3, d4, d5⟩ := deep_parts hda hdb hAd h3 hle hn
  have l2 := la.2
  have l4 := lb.2
  have q1 : QOk (((1 : Int) : Rat)) := qok_int (by decide) (by decide)
  refine ⟨fun vx vy W x y => ?_, fun vx vy W x y => ?_, fun vx vy W x y => ?_, fun vx vy W x y => ?_, fun va vb W x y => ?_⟩
  · have h := less_q vx vy b (A : Rat) W x y lb.ok zA
    rwa [sub_whole] at h
  · have h := less_q vx vy a (A : Rat) W x y la.ok zA
    rwa [sub_whole] at h
  · have h := over_any vx vy _ _ W x y q1 (qok_rat (by omega) hdb (by omega)) (rat_ne (by omega) hdb)
    rwa [one_over d1 hdb] at h
  · have h := over_any vx vy _ _ W x y q1 (qok_rat (by omega) hda (by omega)) (rat_ne (by omega) hda)
    rwa [one_over d3 hda] at h
  · have g1 : Int.gcd (b.den : Int) (b.num - A * b.den) = 1 := gcd_left (gcd_self b)
    have g2 : Int.gcd (a.den : Int) (a.num - A * a.den) = 1 := gcd_left (gcd_self a)
    obtain ⟨n1, n2⟩ := rat_one d1 g1
    obtain ⟨n3, n4⟩ := rat_one d3 g2
    refine (IH va vb W x y).mono fun e w' => ?_
    rintro ⟨q, v, rfl, hq, -, hst, hb⟩
    rw [n1, n2, n3, n4] at hst
    exact ⟨q, v, rfl, hq, hst (by omega), hb⟩

theorem simple_end {a b : Rat} {A : Int} (la : Lim a) (lb : Lim b) (zA : QOk (A : Rat)) (hA0 : 0 ≤ A) (h3 : a.num % (a.den : Int) ≠ 0) (hAd : a.num / (a.den : Int) = A) (hle : a.num * b.den ≤ b.num * a.den) (hn : b.num < (A + 1) * (b.den : Int))
    {q : Rat} (hq : Sp.Strong b.den (b.num - A * b.den) a.den (a.num - A * a.den) q.num q.den) :
    (∀ vx vy W, QAt W vx ((1 : Int) : Rat) → QAt W vy q → Calls Try.prog 38 #[vx, vy] W (RetQ W (rat q.den q.num))) ∧
    (∀ vx vy W, QAt W vx (A : Rat) → QAt W vy (rat q.den q.num) → Calls Try.prog 40 #[vx, vy] W (RetQ W (rat (A * q.num + q.den) q.num))) ∧
    Sp.Weak a.num a.den b.num b.den (rat (A * q.num + q.den) q.num).num (rat (A * q.num + q.den) q.num).den ∧ Sp.Strong a.num a.den b.num b.den (rat (A * q.num + q.den) q.num).num (rat (A * q.num + q.den) q.num).den := by
  have hda := den_one a
  have hdb := den_one b
  have hdq := den_one q
  obtain ⟨d1, d2, d3, d4, d5⟩ := deep_parts hda hdb hAd h3 hle hn
  have l2 := la.2
  have l4 := lb.2
  have q1 : QOk (((1 : Int) : Rat)) := qok_int (by decide) (by decide)
  have p1 := Sp.Strong.num_pos d1 hdb hq
  have hw := Sp.Strong.weak (by omega) hq
  have p2 : (q.den : Int) ≤ b.num - A * b.den := Sp.Weak.den d1 d5 hw
  have p3 : q.num ≤ 1000000000 := Sp.Weak.num_le d3 d5 hw (by omega) (by decide)
  obtain ⟨s1, s2⟩ := Sp.step hda hdb d3 d1 d2 hq
  have e1 : a.num - A * a.den + A * a.den = a.num := by omega
  have e2 : b.num - A * b.den + A * b.den = b.num := by omega
  rw [e1, e2] at s1 s2
  obtain ⟨n1, n2⟩ := rat_one p1 (gcd_plus (A := A) (gcd_self q))
  refine ⟨fun vx vy W x y => ?_, fun vx vy W x y => ?_, ?_, ?_⟩
  · have e3 : q = rat q.num q.den := (rat_selfq q).symm
    have hne : q ≠ 0 := by rw [e3]; exact rat_ne (by omega) hdq
    have h := over_any vx vy _ _ W x y q1 (qok_small (by omega) (by omega)) hne
    have e4 : ((1 : Int) : Rat) / q = rat q.den q.num := by
      have := one_over p1 hdq
      rwa [← e3] at this
    rwa [e4] at h
  · have h := plus_q vx vy _ _ W x y zA (qok_rat (by omega) p1 (by omega))
    have e4 := whole_plus (A := A) p1 hdq
    rw [one_over p1 hdq] at e4
    rwa [e4] at h
  · rw [n1, n2]; exact s1
  · rw [n1, n2]; exact s2 hA0
end Go.Proofs.Ythkoblnfeebafaa
