/- guidepostref01.bytes: two texts, byte by byte. -/
import Derived.Test.YtlikkpeaepankaaNmG
import Derived.Laws.Cover1
namespace Go.Proofs.Ytlikkpeaepankaa.Nm
open Go.RowKit Rt Go.Proofs.YtlikkpeaepankaaW.PrintWords
set_option linter.unusedSimpArgs false

theorem less_cB : ∀ (x y : List UInt8), Op.bytesLess x y = decide (cB x y < 0)
  | [], [] => by simp [Op.bytesLess, cB, Lib.compareBytes]
  | [], _ :: _ => by simp [Op.bytesLess, cB, Lib.compareBytes]
  | _ :: _, [] => by simp [Op.bytesLess, cB, Lib.compareBytes]
  | a :: x, b :: y => by
    have h := less_cB x y
    unfold Op.bytesLess
    simp only [cB, Lib.compareBytes] at h ⊢
    by_cases h1 : a < b
    · simp [h1]
    · by_cases h2 : b < a
      · have : ¬ a = b := by intro e; subst e; exact h1 h2
        simp [h1, h2, this]
      · have hab : a = b := by apply UInt8.toNat_inj.1; rw [UInt8.lt_iff_toNat_lt] at h1 h2; omega
        subst hab
        rw [h]; simp

theorem bytes_ref (s t : ByteArray) (w : World) : Calls Try.prog 51 #[.string s, .string t] w fun e w' => e = .returned (.int .i64 (cB s.data.toList t.data.toList)) ∧ w' = w := by
  have hv := cB_vals s.data.toList t.data.toList
  have ha := cB_anti s.data.toList t.data.toList
  have hz := cB_zero s.data.toList t.data.toList
  have l1 := less_cB s.data.toList t.data.toList
  have l2 := less_cB t.data.toList s.data.toList
  rw [← ByteArray.toList_eq s, ← ByteArray.toList_eq t] at *
  rcases hv with h | h | h
  · rw [h]
    have e1 : Op.bytesLess s.toList t.toList = true := by rw [l1, h]; rfl
    clear hz l1 l2 ha h
    go_enter Try.func51, Try.ntmps51
    go_wp2
    go_ret
    exact ⟨rfl, rfl⟩
  · have e0 := hz.1 h
    rw [h]
    have e1 : Op.bytesLess s.toList t.toList = false := by rw [l1, h]; rfl
    have e2 : Op.bytesLess t.toList s.toList = false := by rw [l2, ha, h]; rfl
    have e3 : (s.toList == t.toList) = true := by simpa using e0
    clear hz l1 l2 ha h e0
    go_enter Try.func51, Try.ntmps51
    go_wp2
    go_ret
    exact ⟨rfl, rfl⟩
  · have e0 : ¬ s.toList = t.toList := fun e => by rw [hz.2 e] at h; cases h
    rw [h]
    have e1 : Op.bytesLess s.toList t.toList = false := by rw [l1, h]; rfl
    have e2 : Op.bytesLess t.toList s.toList = true := by rw [l2, ha, h]; rfl
    have e3 : (s.toList == t.toList) = false := by simpa using e0
    clear hz l1 l2 ha h e0
    go_enter Try.func51, Try.ntmps51
    go_wp2
    go_ret
    exact ⟨rfl, rfl⟩
end Go.Proofs.Ytlikkpeaepankaa.Nm
