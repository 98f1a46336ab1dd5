/- guidepostref04.value. -/
import Derived.Test.YtndiagcpinmefaaDgB
namespace Go.Proofs.Ytndiagcpinmefaa.Dg
open Go.RowKit Rt Go.Proofs.YtndiagcpinmefaaW.PrintWords
set_option linter.unusedSimpArgs false

def valueRaw (b : Nat) : Nat := if 48 ≤ b ∧ b ≤ 57 then b - 48 else if 97 ≤ b ∧ b ≤ 118 then b - 87 else if 65 ≤ b ∧ b ≤ 86 then b - 55 else 99
def valueN (b most : Nat) : Nat := if most ≤ valueRaw b then 99 else valueRaw b

theorem valueRaw_cases (b : Nat) : (48 ≤ b ∧ b ≤ 57 ∧ valueRaw b = b - 48) ∨ (97 ≤ b ∧ b ≤ 118 ∧ valueRaw b = b - 87) ∨ (65 ≤ b ∧ b ≤ 86 ∧ valueRaw b = b - 55) ∨ (valueRaw b = 99 ∧ ¬(48 ≤ b ∧ b ≤ 57) ∧ ¬(97 ≤ b ∧ b ≤ 118) ∧ ¬(65 ≤ b ∧ b ≤ 86)) := by
  unfold valueRaw
  by_cases h1 : 48 ≤ b ∧ b ≤ 57
  · exact .inl ⟨h1.1, h1.2, if_pos h1⟩
  · by_cases h2 : 97 ≤ b ∧ b ≤ 118
    · exact .inr (.inl ⟨h2.1, h2.2, by rw [if_neg h1, if_pos h2]⟩)
    · by_cases h3 : 65 ≤ b ∧ b ≤ 86
      · exact .inr (.inr (.inl ⟨h3.1, h3.2, by rw [if_neg h1, if_neg h2, if_pos h3]⟩))
      · exact .inr (.inr (.inr ⟨by rw [if_neg h1, if_neg h2, if_neg h3], h1, h2, h3⟩))

set_option maxRecDepth 100000 in
set_option maxHeartbeats 2000000 in
theorem value_ref (b most : Nat) (hb : b < 256) (hm : most < 256) (w : World) :
    Calls Try.prog 35 #[.int .u8 (b : Int), .int .u8 (most : Int)] w fun e W' => e = .returned (.int .u8 (valueN b most : Int)) ∧ W' = w := by
  obtain ⟨r, hr⟩ : ∃ r, valueRaw b = r := ⟨_, rfl⟩
  have hvc := valueRaw_cases b
  rw [hr] at hvc
  have hrl : r < 256 := by omega
  have hV : Hid (valueN b most = if most ≤ r then 99 else r) := Lib.hid (by unfold valueN; rw [hr])
  have hcases : (48 ≤ b ∧ b ≤ 57 ∧ b = r + 48) ∨ (97 ≤ b ∧ b ≤ 118 ∧ b = r + 87) ∨ (65 ≤ b ∧ b ≤ 86 ∧ b = r + 55) ∨ (r = 99 ∧ (b < 48 ∨ 57 < b ∧ b < 65 ∨ 86 < b ∧ b < 97 ∨ 118 < b)) := by omega
  clear hvc
  clear hr
  rcases hcases with ⟨h1, h2, rfl⟩ | ⟨h1, h2, rfl⟩ | ⟨h1, h2, rfl⟩ | ⟨rfl, h⟩
  · have c1 : ((r + 48 : Nat) : Int) = (r : Int) + 48 := by omega
    have h1' : 48 ≤ (r : Int) + 48 := by omega
    have h2' : (r : Int) + 48 ≤ 57 := by omega
    rw [c1]
    by_cases hmr : most ≤ r
    · have g1 : (most : Int) ≤ (r : Int) := by omega
      have hres : Hid (valueN (r + 48) most = 99) := Lib.hid (by rw [hV.out, if_pos hmr])
      go_enter Try.func35, Try.ntmps35
      go_wp2
      all_goals (go_ret; exact ⟨by rw [hres.out]; rfl, rfl⟩)
    · have g1 : ¬ (most : Int) ≤ (r : Int) := by omega
      have hres : Hid (valueN (r + 48) most = r) := Lib.hid (by rw [hV.out, if_neg hmr])
      go_enter Try.func35, Try.ntmps35
      go_wp2
      all_goals (go_ret; exact ⟨by rw [hres.out]; rfl, rfl⟩)
  · have c1 : ((r + 87 : Nat) : Int) = (r : Int) + 87 := by omega
    have h1' : 97 ≤ (r : Int) + 87 := by omega
    have h2' : (r : Int) + 87 ≤ 118 := by omega
    have a0 : 48 ≤ (r : Int) + 87 := by omega
    have a1 : ¬ (r : Int) + 87 ≤ 57 := by omega
    have a2 : 57 < (r : Int) + 87 := by omega
    have a6 : IntKind.u8.wrap ((r : Int) + 87 - 97) = (r : Int) - 10 := by simp [IntKind.wrap, IntKind.bits, IntKind.signed]; omega
    rw [c1]
    by_cases hmr : most ≤ r
    · have g1 : (most : Int) ≤ (r : Int) := by omega
      have hres : Hid (valueN (r + 87) most = 99) := Lib.hid (by rw [hV.out, if_pos hmr])
      go_enter Try.func35, Try.ntmps35
      go_wp2
      all_goals (go_ret; exact ⟨by rw [hres.out]; rfl, rfl⟩)
    · have g1 : ¬ (most : Int) ≤ (r : Int) := by omega
      have hres : Hid (valueN (r + 87) most = r) := Lib.hid (by rw [hV.out, if_neg hmr])
      go_enter Try.func35, Try.ntmps35
      go_wp2
      all_goals (go_ret; exact ⟨by rw [hres.out]; rfl, rfl⟩)
  · have c1 : ((r + 55 : Nat) : Int) = (r : Int) + 55 := by omega
    have h1' : 65 ≤ (r : Int) + 55 := by omega
    have h2' : (r : Int) + 55 ≤ 86 := by omega
    have a0 : 48 ≤ (r : Int) + 55 := by omega
    have a1 : ¬ (r : Int) + 55 ≤ 57 := by omega
    have a2 : 57 < (r : Int) + 55 := by omega
    have a3 : ¬ 97 ≤ (r : Int) + 55 := by omega
    have a4 : (r : Int) + 55 < 97 := by omega
    have a5 : ¬ 118 < (r : Int) + 55 := by omega
    have a6 : IntKind.u8.wrap ((r : Int) + 55 - 65) = (r : Int) - 10 := by simp [IntKind.wrap, IntKind.bits, IntKind.signed]; omega
    rw [c1]
    by_cases hmr : most ≤ r
    · have g1 : (most : Int) ≤ (r : Int) := by omega
      have hres : Hid (valueN (r + 55) most = 99) := Lib.hid (by rw [hV.out, if_pos hmr])
      go_enter Try.func35, Try.ntmps35
      go_wp2
      all_goals (go_ret; exact ⟨by rw [hres.out]; rfl, rfl⟩)
    · have g1 : ¬ (most : Int) ≤ (r : Int) := by omega
      have hres : Hid (valueN (r + 55) most = r) := Lib.hid (by rw [hV.out, if_neg hmr])
      go_enter Try.func35, Try.ntmps35
      go_wp2
      all_goals (go_ret; exact ⟨by rw [hres.out]; rfl, rfl⟩)
  · rcases h with h | ⟨h, h2⟩ | ⟨h, h2⟩ | h
    · have a1 : (b : Int) < 48 := by omega
      have a2 : ¬ 97 ≤ (b : Int) := by omega
      have a3 : ¬ 65 ≤ (b : Int) := by omega
      by_cases hmr : most ≤ 99
      · have g1 : (most : Int) ≤ 99 := by omega
        have hres : Hid (valueN b most = 99) := Lib.hid (by rw [hV.out, if_pos hmr])
        go_enter Try.func35, Try.ntmps35
        go_wp2
        all_goals (go_ret; exact ⟨by rw [hres.out]; rfl, rfl⟩)
      · have g1 : ¬ (most : Int) ≤ 99 := by omega
        have hres : Hid (valueN b most = 99) := Lib.hid (by rw [hV.out, if_neg hmr])
        go_enter Try.func35, Try.ntmps35
        go_wp2
        all_goals (go_ret; exact ⟨by rw [hres.out]; rfl, rfl⟩)
    · have a1 : 57 < (b : Int) := by omega
      have a0 : 48 ≤ (b : Int) := by omega
      have a2 : ¬ 97 ≤ (b : Int) := by omega
      have a3 : ¬ 65 ≤ (b : Int) := by omega
      by_cases hmr : most ≤ 99
      · have g1 : (most : Int) ≤ 99 := by omega
        have hres : Hid (valueN b most = 99) := Lib.hid (by rw [hV.out, if_pos hmr])
        go_enter Try.func35, Try.ntmps35
        go_wp2
        all_goals (go_ret; exact ⟨by rw [hres.out]; rfl, rfl⟩)
      · have g1 : ¬ (most : Int) ≤ 99 := by omega
        have hres : Hid (valueN b most = 99) := Lib.hid (by rw [hV.out, if_neg hmr])
        go_enter Try.func35, Try.ntmps35
        go_wp2
        all_goals (go_ret; exact ⟨by rw [hres.out]; rfl, rfl⟩)
    · have a1 : 57 < (b : Int) := by omega
      have a0 : 48 ≤ (b : Int) := by omega
      have a2 : ¬ 97 ≤ (b : Int) := by omega
      have a3 : 65 ≤ (b : Int) := by omega
      have a4 : 86 < (b : Int) := by omega
      by_cases hmr : most ≤ 99
      · have g1 : (most : Int) ≤ 99 := by omega
        have hres : Hid (valueN b most = 99) := Lib.hid (by rw [hV.out, if_pos hmr])
        go_enter Try.func35, Try.ntmps35
        go_wp2
        all_goals (go_ret; exact ⟨by rw [hres.out]; rfl, rfl⟩)
      · have g1 : ¬ (most : Int) ≤ 99 := by omega
        have hres : Hid (valueN b most = 99) := Lib.hid (by rw [hV.out, if_neg hmr])
        go_enter Try.func35, Try.ntmps35
        go_wp2
        all_goals (go_ret; exact ⟨by rw [hres.out]; rfl, rfl⟩)
    · have a1 : 57 < (b : Int) := by omega
      have a0 : 48 ≤ (b : Int) := by omega
      have a2 : 97 ≤ (b : Int) := by omega
      have a5 : 118 < (b : Int) := by omega
      have a3 : 65 ≤ (b : Int) := by omega
      have a4 : 86 < (b : Int) := by omega
      by_cases hmr : most ≤ 99
      · have g1 : (most : Int) ≤ 99 := by omega
        have hres : Hid (valueN b most = 99) := Lib.hid (by rw [hV.out, if_pos hmr])
        go_enter Try.func35, Try.ntmps35
        go_wp2
        all_goals (go_ret; exact ⟨by rw [hres.out]; rfl, rfl⟩)
      · have g1 : ¬ (most : Int) ≤ 99 := by omega
        have hres : Hid (valueN b most = 99) := Lib.hid (by rw [hV.out, if_neg hmr])
        go_enter Try.func35, Try.ntmps35
        go_wp2
        all_goals (go_ret; exact ⟨by rw [hres.out]; rfl, rfl⟩)

end Go.Proofs.Ytndiagcpinmefaa.Dg
