/- digest.place. -/
import Derived.Test.YtndiagcpinmefaaDgH
namespace Go.Proofs.Ytndiagcpinmefaa.Dg
open Go.RowKit Rt Go.Proofs.YtndiagcpinmefaaW.PrintWords
set_option linter.unusedSimpArgs false

/-- A byte as a small letter. -/
def lowU (c : UInt8) : UInt8 := if 65 ≤ c.toNat ∧ c.toNat ≤ 90 then UInt8.ofNat (c.toNat + 32) else c
theorem or32_fin : ∀ c : Fin 256, 65 ≤ c.val → c.val ≤ 90 → Go.bits .or .u8 (c.val : Int) 32 = ((c.val + 32 : Nat) : Int) := by decide +kernel
theorem lowU_int (c : UInt8) : ((c.toNat : Int).toNat.toUInt8) = c := by simp
def placeW (row : ByteArray) (c : UInt8) : Int := Lib.indexByte row.data.toList (lowU c)

set_option maxRecDepth 100000 in
theorem place_any (row : ByteArray) (c : UInt8) (w : World) :
    Calls Try.prog 34 #[.string row, .int .u8 (c.toNat : Int)] w fun e W' => e = .returned (.int .i64 (placeW row c)) ∧ W' = w := by
  have hcl := UInt8.toNat_lt c
  by_cases h : 65 ≤ c.toNat ∧ c.toNat ≤ 90
  · have h1 : 65 ≤ (c.toNat : Int) := by omega
    have h2 : (c.toNat : Int) ≤ 90 := by omega
    have h3 : Go.bits .or .u8 (c.toNat : Int) 32 = ((c.toNat + 32 : Nat) : Int) := or32_fin ⟨c.toNat, hcl⟩ h.1 h.2
    have hp : Hid (placeW row c = Lib.indexByte row.data.toList (UInt8.ofNat (c.toNat + 32))) := Lib.hid (by unfold placeW lowU; rw [if_pos h])
    obtain ⟨q, hq⟩ : ∃ q, c.toNat + 32 = q := ⟨_, rfl⟩
    rw [hq] at h3 hp
    clear hq h hcl
    go_enter Try.func34, Try.ntmps34
    go_wp2_with (go_at_call 37; refine (Try.strings_IndexByte row _ _).mono ?_; rintro e w' ⟨rfl, rfl⟩)
    go_ret
    exact ⟨by rw [hp.out]; rfl, rfl⟩
  · have hp : Hid (placeW row c = Lib.indexByte row.data.toList c) := Lib.hid (by unfold placeW lowU; rw [if_neg h])
    have h1 : (c.toNat : Int) < 65 ∨ 90 < (c.toNat : Int) := by omega
    clear h hcl
    rcases h1 with h1 | h1
    · go_enter Try.func34, Try.ntmps34
      go_wp2_with (go_at_call 37; refine (Try.strings_IndexByte row _ _).mono ?_; rintro e w' ⟨rfl, rfl⟩)
      go_ret
      exact ⟨by rw [hp.out]; rfl, rfl⟩
    · have h2 : 65 ≤ (c.toNat : Int) := by omega
      go_enter Try.func34, Try.ntmps34
      go_wp2_with (go_at_call 37; refine (Try.strings_IndexByte row _ _).mono ?_; rintro e w' ⟨rfl, rfl⟩)
      go_ret
      exact ⟨by rw [hp.out]; rfl, rfl⟩
end Go.Proofs.Ytndiagcpinmefaa.Dg
