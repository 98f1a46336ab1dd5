/- The plain law of RttBounds: no program in sight. -/
import Derived.Test.YtmgapdbfaoflmaaPRttBoundsx1
namespace Go.Proofs.Ytmgapdbfaoflmaa.Pure
open Go.RowKit Go.Proofs.Ytmgapdbfaoflmaa.PRttBounds Go.Proofs.YtmgapdbfaoflmaaW.PrintWords Go.Proofs.YtmgapdbfaoflmaaW.PrintLast Go.Proofs.Ytmgapdbfaoflmaa.Tm

theorem wi_id {x m : Int} (h0 : 0 ≤ x) (h1 : x ≤ m) : wi x m = x := by unfold wi; rw [if_neg (by omega), if_neg (by omega)]
/-- The base of a timeout. -/
def baseR (a b : Int) : Int := if (if a = 0 ∧ b = 0 then 376 else a + 4 * b) < 50 then 50 else if a = 0 ∧ b = 0 then 376 else a + 4 * b
theorem tmR_eq (a b c : Int) : tmR a b c = if 12000 < baseR a b * 2 ^ c.toNat then 12000 else baseR a b * 2 ^ c.toNat := rfl
theorem baseR_ge (a b : Int) : 50 ≤ baseR a b := by unfold baseR; split <;> omega
theorem tm_facts (a b c : Int) (hc0 : 0 ≤ c) (hc1 : c ≤ 10) :
    50 ≤ tmR a b c ∧ tmR a b c ≤ 12000 ∧ tmR a b c ≤ tmR a b (if c < 10 then c + 1 else 10) ∧ tmR a b (if c < 10 then c + 1 else 10) ≤ 12000 ∧ tmR a b (if c < 10 then c + 1 else 10) ≤ 2 * tmR a b c := by
  have hb := baseR_ge a b
  have hp := pow_bd c hc1
  rw [tmR_eq, tmR_eq]
  generalize baseR a b = B at *
  have hx : B ≤ B * 2 ^ c.toNat := by
    have := Int.mul_le_mul_of_nonneg_left hp.1 (show 0 ≤ B by omega)
    omega
  by_cases h : c < 10
  · rw [if_pos h]
    have e : B * 2 ^ (c + 1).toNat = 2 * (B * 2 ^ c.toNat) := by
      rw [show (c + 1).toNat = c.toNat + 1 by omega, Int.pow_succ]
      rw [← Int.mul_assoc, Int.mul_comm 2]
    rw [e]
    generalize B * 2 ^ c.toNat = X at *
    refine ⟨?_, ?_, ?_, ?_, ?_⟩ <;> (repeat' split) <;> omega
  · rw [if_neg h, show c = 10 by omega]
    rw [show c = 10 by omega] at hx
    generalize B * 2 ^ (10 : Int).toNat = X at *
    refine ⟨?_, ?_, ?_, ?_, ?_⟩ <;> (repeat' split) <;> omega
theorem pick_f (x n : Int) (hx : (Lit.int .i64 x).wf = true) (hn : 0 < n) (hn2 : n ≤ 1000001) : ∃ r, guidepostlaw12_pick.f x n = some r ∧ 0 ≤ r ∧ r < n := by
  have hb : -9223372036854775808 ≤ x ∧ x ≤ 9223372036854775807 := by
    have := hx
    simp [Lit.wf, IntKind.min, IntKind.max, IntKind.bits, IntKind.signed] at this
    omega
  unfold guidepostlaw12_pick.f
  by_cases h : x < 0
  · rw [if_pos h, if_neg (by omega)]
    have e1 : wrap64 (x + 1) = x + 1 := by unfold wrap64; omega
    have e2 : wrap64 (-(x + 1)) = -(x + 1) := by unfold wrap64; omega
    rw [e1, e2, Int.tmod_eq_emod_of_nonneg (by omega)]
    exact ⟨_, rfl, Int.emod_nonneg _ (by omega), Int.emod_lt_of_pos _ hn⟩
  · rw [if_neg h, if_neg (by omega), Int.tmod_eq_emod_of_nonneg (by omega)]
    exact ⟨_, rfl, Int.emod_nonneg _ (by omega), Int.emod_lt_of_pos _ hn⟩
theorem smp_facts (s v m : Int) (hs : 0 ≤ s) (hv : 1 ≤ v) (hm : 0 ≤ m) : (s ≤ m → s ≤ (smpR s v m).1 ∧ (smpR s v m).1 ≤ m) ∧ (m ≤ s → m ≤ (smpR s v m).1 ∧ (smpR s v m).1 ≤ s) ∧ 0 ≤ (smpR s v m).2 := by
  unfold smpR
  rw [if_neg (by omega)]
  have h1 := tdiv_bd (m - s) 8 (by omega)
  have h2 := tdiv_bd ((if 0 ≤ m - s then m - s else -(m - s)) - v) 4 (by omega)
  generalize (m - s).tdiv 8 = q at *
  generalize hA : (if 0 ≤ m - s then m - s else -(m - s)) = A at *
  have hA0 : 0 ≤ A := by rw [← hA]; split <;> omega
  generalize (A - v).tdiv 4 = p at *
  simp only
  omega
theorem RttBounds : guidepostlaw12_RttBounds.Pure := by
  intro a0 a1 a2 a3 w0 w1 w2 w3
  refine ⟨0 + 1, ?_⟩
  obtain ⟨m, hm, hm0, hm1⟩ := pick_f a3 1000001 w3 (by omega) (by omega)
  obtain ⟨s, hs, hs0, hs1⟩ := pick_f a0 1000001 w0 (by omega) (by omega)
  obtain ⟨v, hv, hv0, hv1⟩ := pick_f a1 1000 w1 (by omega) (by omega)
  have hA := wi_bd a0 1000000 (by decide)
  have hB := wi_bd a1 1000000 (by decide)
  have hC := wi_bd a2 10 (by decide)
  unfold guidepostlaw12_RttBounds.f guidepostlaw12_examples.f timer_Rtt_Miss.f timer_Rtt_Timeout.f
  simp only [Option.bind_some]
  generalize wi a0 1000000 = a at *
  generalize wi a1 1000000 = b at *
  generalize wi a2 10 = c at *
  have hc' : 0 ≤ (if c < 10 then c + 1 else 10) ∧ (if c < 10 then c + 1 else 10) ≤ 10 := by split <;> omega
  rw [wi_id hA.1 hA.2, wi_id hB.1 hB.2, wi_id hc'.1 hc'.2]
  obtain ⟨f1, f2, f3, f4, f5⟩ := tm_facts a b c hC.1 hC.2
  generalize tmR a b c = n at *
  generalize tmR a b (if c < 10 then c + 1 else 10) = mm at *
  rw [if_neg (by omega), if_neg (by omega), if_neg (by omega), if_neg (by omega)]
  have hw : wrap64 (2 * n) = 2 * n := by unfold wrap64; omega
  rw [hw, decide_eq_false (by omega)]
  rw [guidepostlaw12_RttBounds.j0]
  rw [if_neg (by simp), hm]
  simp only [Option.bind_some]
  rw [hs]
  simp only [Option.bind_some]
  rw [hv]
  simp only [Option.bind_some]
  have hw1 : wrap64 (1 + v) = 1 + v := by unfold wrap64; omega
  rw [hw1]
  unfold timer_Rtt_Sample.f
  simp only [Option.bind_some]
  rw [wi_id hs0 (by omega), wi_id (show 0 ≤ 1 + v by omega) (by omega), wi_id hm0 (by omega)]
  obtain ⟨g1, g2, g3⟩ := smp_facts s (1 + v) m hs0 (by omega) hm0
  generalize (smpR s (1 + v) m).1 = x at *
  generalize (smpR s (1 + v) m).2 = y at *
  have hy : decide (y ≥ 0) = true := by simpa using g3
  rw [hy]
  by_cases c1 : s ≤ m
  · have := g1 c1
    rw [if_pos c1, if_neg (show ¬ x < s by omega), if_neg (show ¬ x > m by omega)]
    by_cases c2 : s ≥ m
    · have := g2 c2
      rw [if_pos c2, if_neg (show ¬ x > s by omega), if_neg (show ¬ x < m by omega)]
      simp
    · rw [if_neg c2]; simp
  · have := g2 (by omega)
    rw [if_neg c1, if_pos (show s ≥ m by omega), if_neg (show ¬ x > s by omega), if_neg (show ¬ x < m by omega)]
    simp

end Go.Proofs.Ytmgapdbfaoflmaa.Pure
