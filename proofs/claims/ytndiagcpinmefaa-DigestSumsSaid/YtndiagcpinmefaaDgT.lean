/- bits.RotateLeft32 -/
import Derived.Test.YtndiagcpinmefaaDgM
namespace Go.Proofs.Ytndiagcpinmefaa.Dg
open Go.RowKit Rt Go.Proofs.YtndiagcpinmefaaW.PrintWords
set_option linter.unusedSimpArgs false
theorem u_rng (x : UInt32) : 0 ≤ u x ∧ u x < 4294967296 := by have := x.toNat_lt; unfold u; omega
theorem shl_wrap (x : UInt32) (s : Nat) (hs : s < 32) : IntKind.u32.wrap ((u x) * ((2 ^ s : Nat) : Int)) = u (x <<< UInt32.ofNat s) := by
  have h : (UInt32.ofNat s).toNat = s := by simp; omega
  unfold u
  rw [UInt32.toNat_shiftLeft, h, Nat.mod_eq_of_lt hs, Nat.shiftLeft_eq]
  simp [IntKind.wrap, IntKind.bits, IntKind.signed]
theorem shr_div (x : UInt32) (s : Nat) (hs : s < 32) : (u x) / ((2 ^ s : Nat) : Int) = u (x >>> UInt32.ofNat s) := by
  have h : (UInt32.ofNat s).toNat = s := by simp; omega
  unfold u
  rw [UInt32.toNat_shiftRight, h, Nat.mod_eq_of_lt hs, Nat.shiftRight_eq_div_pow]
  omega
theorem Rot_1 (x : UInt32) (w : World) : Calls Try.prog 23 #[.int .u32 (u x), .int .i64 1] w fun e W' => e = .returned (.int .u32 (u (rotl x 1))) ∧ W' = w := by
  have hx : 0 ≤ u x ∧ u x < 4294967296 := u_rng x
  obtain ⟨hx, hx'⟩ := hx
  have h1 := shl_wrap x 1 (by omega)
  have h2 := shr_div x 31 (by omega)
  have h3 : bits .and .u64 1 31 = 1 := by decide +kernel
  have h4 := u32_or (x <<< UInt32.ofNat 1) (x >>> UInt32.ofNat 31)
  have hr : rotl x 1 = x <<< UInt32.ofNat 1 ||| x >>> UInt32.ofNat 31 := rfl
  rw [hr]
  clear hr
  obtain ⟨y, hy⟩ : ∃ y, x <<< UInt32.ofNat 1 = y := ⟨_, rfl⟩
  obtain ⟨z, hz⟩ : ∃ z, x >>> UInt32.ofNat 31 = z := ⟨_, rfl⟩
  rw [hy] at h1 h4 ⊢
  rw [hz] at h2 h4 ⊢
  clear hy hz
  rw [show ((2 ^ 1 : Nat) : Int) = 2 by rfl] at h1
  rw [show ((2 ^ 31 : Nat) : Int) = 2147483648 by rfl] at h2
  go_enter Try.func23, Try.ntmps23
  go_wp2
  go_ret
  exact ⟨rfl, rfl⟩
theorem Rot_5 (x : UInt32) (w : World) : Calls Try.prog 23 #[.int .u32 (u x), .int .i64 5] w fun e W' => e = .returned (.int .u32 (u (rotl x 5))) ∧ W' = w := by
  have hx : 0 ≤ u x ∧ u x < 4294967296 := u_rng x
  obtain ⟨hx, hx'⟩ := hx
  have h1 := shl_wrap x 5 (by omega)
  have h2 := shr_div x 27 (by omega)
  have h3 : bits .and .u64 5 31 = 5 := by decide +kernel
  have h4 := u32_or (x <<< UInt32.ofNat 5) (x >>> UInt32.ofNat 27)
  have hr : rotl x 5 = x <<< UInt32.ofNat 5 ||| x >>> UInt32.ofNat 27 := rfl
  rw [hr]
  clear hr
  obtain ⟨y, hy⟩ : ∃ y, x <<< UInt32.ofNat 5 = y := ⟨_, rfl⟩
  obtain ⟨z, hz⟩ : ∃ z, x >>> UInt32.ofNat 27 = z := ⟨_, rfl⟩
  rw [hy] at h1 h4 ⊢
  rw [hz] at h2 h4 ⊢
  clear hy hz
  rw [show ((2 ^ 5 : Nat) : Int) = 32 by rfl] at h1
  rw [show ((2 ^ 27 : Nat) : Int) = 134217728 by rfl] at h2
  go_enter Try.func23, Try.ntmps23
  go_wp2
  go_ret
  exact ⟨rfl, rfl⟩
theorem Rot_30 (x : UInt32) (w : World) : Calls Try.prog 23 #[.int .u32 (u x), .int .i64 30] w fun e W' => e = .returned (.int .u32 (u (rotl x 30))) ∧ W' = w := by
  have hx : 0 ≤ u x ∧ u x < 4294967296 := u_rng x
  obtain ⟨hx, hx'⟩ := hx
  have h1 := shl_wrap x 30 (by omega)
  have h2 := shr_div x 2 (by omega)
  have h3 : bits .and .u64 30 31 = 30 := by decide +kernel
  have h4 := u32_or (x <<< UInt32.ofNat 30) (x >>> UInt32.ofNat 2)
  have hr : rotl x 30 = x <<< UInt32.ofNat 30 ||| x >>> UInt32.ofNat 2 := rfl
  rw [hr]
  clear hr
  obtain ⟨y, hy⟩ : ∃ y, x <<< UInt32.ofNat 30 = y := ⟨_, rfl⟩
  obtain ⟨z, hz⟩ : ∃ z, x >>> UInt32.ofNat 2 = z := ⟨_, rfl⟩
  rw [hy] at h1 h4 ⊢
  rw [hz] at h2 h4 ⊢
  clear hy hz
  rw [show ((2 ^ 30 : Nat) : Int) = 1073741824 by rfl] at h1
  rw [show ((2 ^ 2 : Nat) : Int) = 4 by rfl] at h2
  go_enter Try.func23, Try.ntmps23
  go_wp2
  go_ret
  exact ⟨rfl, rfl⟩
theorem Rot_m6 (x : UInt32) (w : World) : Calls Try.prog 23 #[.int .u32 (u x), .int .i64 (-6)] w fun e W' => e = .returned (.int .u32 (u (rotl x 26))) ∧ W' = w := by
  have hx : 0 ≤ u x ∧ u x < 4294967296 := u_rng x
  obtain ⟨hx, hx'⟩ := hx
  have h1 := shl_wrap x 26 (by omega)
  have h2 := shr_div x 6 (by omega)
  have h3 : bits .and .u64 (IntKind.u64.wrap (-6)) 31 = 26 := by decide +kernel
  have h4 := u32_or (x <<< UInt32.ofNat 26) (x >>> UInt32.ofNat 6)
  have hr : rotl x 26 = x <<< UInt32.ofNat 26 ||| x >>> UInt32.ofNat 6 := rfl
  rw [hr]
  clear hr
  obtain ⟨y, hy⟩ : ∃ y, x <<< UInt32.ofNat 26 = y := ⟨_, rfl⟩
  obtain ⟨z, hz⟩ : ∃ z, x >>> UInt32.ofNat 6 = z := ⟨_, rfl⟩
  rw [hy] at h1 h4 ⊢
  rw [hz] at h2 h4 ⊢
  clear hy hz
  rw [show ((2 ^ 26 : Nat) : Int) = 67108864 by rfl] at h1
  rw [show ((2 ^ 6 : Nat) : Int) = 64 by rfl] at h2
  go_enter Try.func23, Try.ntmps23
  go_wp2
  go_ret
  exact ⟨rfl, rfl⟩
theorem Rot_m11 (x : UInt32) (w : World) : Calls Try.prog 23 #[.int .u32 (u x), .int .i64 (-11)] w fun e W' => e = .returned (.int .u32 (u (rotl x 21))) ∧ W' = w := by
  have hx : 0 ≤ u x ∧ u x < 4294967296 := u_rng x
  obtain ⟨hx, hx'⟩ := hx
  have h1 := shl_wrap x 21 (by omega)
  have h2 := shr_div x 11 (by omega)
  have h3 : bits .and .u64 (IntKind.u64.wrap (-11)) 31 = 21 := by decide +kernel
  have h4 := u32_or (x <<< UInt32.ofNat 21) (x >>> UInt32.ofNat 11)
  have hr : rotl x 21 = x <<< UInt32.ofNat 21 ||| x >>> UInt32.ofNat 11 := rfl
  rw [hr]
  clear hr
  obtain ⟨y, hy⟩ : ∃ y, x <<< UInt32.ofNat 21 = y := ⟨_, rfl⟩
  obtain ⟨z, hz⟩ : ∃ z, x >>> UInt32.ofNat 11 = z := ⟨_, rfl⟩
  rw [hy] at h1 h4 ⊢
  rw [hz] at h2 h4 ⊢
  clear hy hz
  rw [show ((2 ^ 21 : Nat) : Int) = 2097152 by rfl] at h1
  rw [show ((2 ^ 11 : Nat) : Int) = 2048 by rfl] at h2
  go_enter Try.func23, Try.ntmps23
  go_wp2
  go_ret
  exact ⟨rfl, rfl⟩
theorem Rot_m25 (x : UInt32) (w : World) : Calls Try.prog 23 #[.int .u32 (u x), .int .i64 (-25)] w fun e W' => e = .returned (.int .u32 (u (rotl x 7))) ∧ W' = w := by
  have hx : 0 ≤ u x ∧ u x < 4294967296 := u_rng x
  obtain ⟨hx, hx'⟩ := hx
  have h1 := shl_wrap x 7 (by omega)
  have h2 := shr_div x 25 (by omega)
  have h3 : bits .and .u64 (IntKind.u64.wrap (-25)) 31 = 7 := by decide +kernel
  have h4 := u32_or (x <<< UInt32.ofNat 7) (x >>> UInt32.ofNat 25)
  have hr : rotl x 7 = x <<< UInt32.ofNat 7 ||| x >>> UInt32.ofNat 25 := rfl
  rw [hr]
  clear hr
  obtain ⟨y, hy⟩ : ∃ y, x <<< UInt32.ofNat 7 = y := ⟨_, rfl⟩
  obtain ⟨z, hz⟩ : ∃ z, x >>> UInt32.ofNat 25 = z := ⟨_, rfl⟩
  rw [hy] at h1 h4 ⊢
  rw [hz] at h2 h4 ⊢
  clear hy hz
  rw [show ((2 ^ 7 : Nat) : Int) = 128 by rfl] at h1
  rw [show ((2 ^ 25 : Nat) : Int) = 33554432 by rfl] at h2
  go_enter Try.func23, Try.ntmps23
  go_wp2
  go_ret
  exact ⟨rfl, rfl⟩
theorem Rot_m2 (x : UInt32) (w : World) : Calls Try.prog 23 #[.int .u32 (u x), .int .i64 (-2)] w fun e W' => e = .returned (.int .u32 (u (rotl x 30))) ∧ W' = w := by
  have hx : 0 ≤ u x ∧ u x < 4294967296 := u_rng x
  obtain ⟨hx, hx'⟩ := hx
  have h1 := shl_wrap x 30 (by omega)
  have h2 := shr_div x 2 (by omega)
  have h3 : bits .and .u64 (IntKind.u64.wrap (-2)) 31 = 30 := by decide +kernel
  have h4 := u32_or (x <<< UInt32.ofNat 30) (x >>> UInt32.ofNat 2)
  have hr : rotl x 30 = x <<< UInt32.ofNat 30 ||| x >>> UInt32.ofNat 2 := rfl
  rw [hr]
  clear hr
  obtain ⟨y, hy⟩ : ∃ y, x <<< UInt32.ofNat 30 = y := ⟨_, rfl⟩
  obtain ⟨z, hz⟩ : ∃ z, x >>> UInt32.ofNat 2 = z := ⟨_, rfl⟩
  rw [hy] at h1 h4 ⊢
  rw [hz] at h2 h4 ⊢
  clear hy hz
  rw [show ((2 ^ 30 : Nat) : Int) = 1073741824 by rfl] at h1
  rw [show ((2 ^ 2 : Nat) : Int) = 4 by rfl] at h2
  go_enter Try.func23, Try.ntmps23
  go_wp2
  go_ret
  exact ⟨rfl, rfl⟩
theorem Rot_m13 (x : UInt32) (w : World) : Calls Try.prog 23 #[.int .u32 (u x), .int .i64 (-13)] w fun e W' => e = .returned (.int .u32 (u (rotl x 19))) ∧ W' = w := by
  have hx : 0 ≤ u x ∧ u x < 4294967296 := u_rng x
  obtain ⟨hx, hx'⟩ := hx
  have h1 := shl_wrap x 19 (by omega)
  have h2 := shr_div x 13 (by omega)
  have h3 : bits .and .u64 (IntKind.u64.wrap (-13)) 31 = 19 := by decide +kernel
  have h4 := u32_or (x <<< UInt32.ofNat 19) (x >>> UInt32.ofNat 13)
  have hr : rotl x 19 = x <<< UInt32.ofNat 19 ||| x >>> UInt32.ofNat 13 := rfl
  rw [hr]
  clear hr
  obtain ⟨y, hy⟩ : ∃ y, x <<< UInt32.ofNat 19 = y := ⟨_, rfl⟩
  obtain ⟨z, hz⟩ : ∃ z, x >>> UInt32.ofNat 13 = z := ⟨_, rfl⟩
  rw [hy] at h1 h4 ⊢
  rw [hz] at h2 h4 ⊢
  clear hy hz
  rw [show ((2 ^ 19 : Nat) : Int) = 524288 by rfl] at h1
  rw [show ((2 ^ 13 : Nat) : Int) = 8192 by rfl] at h2
  go_enter Try.func23, Try.ntmps23
  go_wp2
  go_ret
  exact ⟨rfl, rfl⟩
theorem Rot_m22 (x : UInt32) (w : World) : Calls Try.prog 23 #[.int .u32 (u x), .int .i64 (-22)] w fun e W' => e = .returned (.int .u32 (u (rotl x 10))) ∧ W' = w := by
  have hx : 0 ≤ u x ∧ u x < 4294967296 := u_rng x
  obtain ⟨hx, hx'⟩ := hx
  have h1 := shl_wrap x 10 (by omega)
  have h2 := shr_div x 22 (by omega)
  have h3 : bits .and .u64 (IntKind.u64.wrap (-22)) 31 = 10 := by decide +kernel
  have h4 := u32_or (x <<< UInt32.ofNat 10) (x >>> UInt32.ofNat 22)
  have hr : rotl x 10 = x <<< UInt32.ofNat 10 ||| x >>> UInt32.ofNat 22 := rfl
  rw [hr]
  clear hr
  obtain ⟨y, hy⟩ : ∃ y, x <<< UInt32.ofNat 10 = y := ⟨_, rfl⟩
  obtain ⟨z, hz⟩ : ∃ z, x >>> UInt32.ofNat 22 = z := ⟨_, rfl⟩
  rw [hy] at h1 h4 ⊢
  rw [hz] at h2 h4 ⊢
  clear hy hz
  rw [show ((2 ^ 10 : Nat) : Int) = 1024 by rfl] at h1
  rw [show ((2 ^ 22 : Nat) : Int) = 4194304 by rfl] at h2
  go_enter Try.func23, Try.ntmps23
  go_wp2
  go_ret
  exact ⟨rfl, rfl⟩
theorem Rot_m7 (x : UInt32) (w : World) : Calls Try.prog 23 #[.int .u32 (u x), .int .i64 (-7)] w fun e W' => e = .returned (.int .u32 (u (rotl x 25))) ∧ W' = w := by
  have hx : 0 ≤ u x ∧ u x < 4294967296 := u_rng x
  obtain ⟨hx, hx'⟩ := hx
  have h1 := shl_wrap x 25 (by omega)
  have h2 := shr_div x 7 (by omega)
  have h3 : bits .and .u64 (IntKind.u64.wrap (-7)) 31 = 25 := by decide +kernel
  have h4 := u32_or (x <<< UInt32.ofNat 25) (x >>> UInt32.ofNat 7)
  have hr : rotl x 25 = x <<< UInt32.ofNat 25 ||| x >>> UInt32.ofNat 7 := rfl
  rw [hr]
  clear hr
  obtain ⟨y, hy⟩ : ∃ y, x <<< UInt32.ofNat 25 = y := ⟨_, rfl⟩
  obtain ⟨z, hz⟩ : ∃ z, x >>> UInt32.ofNat 7 = z := ⟨_, rfl⟩
  rw [hy] at h1 h4 ⊢
  rw [hz] at h2 h4 ⊢
  clear hy hz
  rw [show ((2 ^ 25 : Nat) : Int) = 33554432 by rfl] at h1
  rw [show ((2 ^ 7 : Nat) : Int) = 128 by rfl] at h2
  go_enter Try.func23, Try.ntmps23
  go_wp2
  go_ret
  exact ⟨rfl, rfl⟩
theorem Rot_m18 (x : UInt32) (w : World) : Calls Try.prog 23 #[.int .u32 (u x), .int .i64 (-18)] w fun e W' => e = .returned (.int .u32 (u (rotl x 14))) ∧ W' = w := by
  have hx : 0 ≤ u x ∧ u x < 4294967296 := u_rng x
  obtain ⟨hx, hx'⟩ := hx
  have h1 := shl_wrap x 14 (by omega)
  have h2 := shr_div x 18 (by omega)
  have h3 : bits .and .u64 (IntKind.u64.wrap (-18)) 31 = 14 := by decide +kernel
  have h4 := u32_or (x <<< UInt32.ofNat 14) (x >>> UInt32.ofNat 18)
  have hr : rotl x 14 = x <<< UInt32.ofNat 14 ||| x >>> UInt32.ofNat 18 := rfl
  rw [hr]
  clear hr
  obtain ⟨y, hy⟩ : ∃ y, x <<< UInt32.ofNat 14 = y := ⟨_, rfl⟩
  obtain ⟨z, hz⟩ : ∃ z, x >>> UInt32.ofNat 18 = z := ⟨_, rfl⟩
  rw [hy] at h1 h4 ⊢
  rw [hz] at h2 h4 ⊢
  clear hy hz
  rw [show ((2 ^ 14 : Nat) : Int) = 16384 by rfl] at h1
  rw [show ((2 ^ 18 : Nat) : Int) = 262144 by rfl] at h2
  go_enter Try.func23, Try.ntmps23
  go_wp2
  go_ret
  exact ⟨rfl, rfl⟩
theorem Rot_m17 (x : UInt32) (w : World) : Calls Try.prog 23 #[.int .u32 (u x), .int .i64 (-17)] w fun e W' => e = .returned (.int .u32 (u (rotl x 15))) ∧ W' = w := by
  have hx : 0 ≤ u x ∧ u x < 4294967296 := u_rng x
  obtain ⟨hx, hx'⟩ := hx
  have h1 := shl_wrap x 15 (by omega)
  have h2 := shr_div x 17 (by omega)
  have h3 : bits .and .u64 (IntKind.u64.wrap (-17)) 31 = 15 := by decide +kernel
  have h4 := u32_or (x <<< UInt32.ofNat 15) (x >>> UInt32.ofNat 17)
  have hr : rotl x 15 = x <<< UInt32.ofNat 15 ||| x >>> UInt32.ofNat 17 := rfl
  rw [hr]
  clear hr
  obtain ⟨y, hy⟩ : ∃ y, x <<< UInt32.ofNat 15 = y := ⟨_, rfl⟩
  obtain ⟨z, hz⟩ : ∃ z, x >>> UInt32.ofNat 17 = z := ⟨_, rfl⟩
  rw [hy] at h1 h4 ⊢
  rw [hz] at h2 h4 ⊢
  clear hy hz
  rw [show ((2 ^ 15 : Nat) : Int) = 32768 by rfl] at h1
  rw [show ((2 ^ 17 : Nat) : Int) = 131072 by rfl] at h2
  go_enter Try.func23, Try.ntmps23
  go_wp2
  go_ret
  exact ⟨rfl, rfl⟩
theorem Rot_m19 (x : UInt32) (w : World) : Calls Try.prog 23 #[.int .u32 (u x), .int .i64 (-19)] w fun e W' => e = .returned (.int .u32 (u (rotl x 13))) ∧ W' = w := by
  have hx : 0 ≤ u x ∧ u x < 4294967296 := u_rng x
  obtain ⟨hx, hx'⟩ := hx
  have h1 := shl_wrap x 13 (by omega)
  have h2 := shr_div x 19 (by omega)
  have h3 : bits .and .u64 (IntKind.u64.wrap (-19)) 31 = 13 := by decide +kernel
  have h4 := u32_or (x <<< UInt32.ofNat 13) (x >>> UInt32.ofNat 19)
  have hr : rotl x 13 = x <<< UInt32.ofNat 13 ||| x >>> UInt32.ofNat 19 := rfl
  rw [hr]
  clear hr
  obtain ⟨y, hy⟩ : ∃ y, x <<< UInt32.ofNat 13 = y := ⟨_, rfl⟩
  obtain ⟨z, hz⟩ : ∃ z, x >>> UInt32.ofNat 19 = z := ⟨_, rfl⟩
  rw [hy] at h1 h4 ⊢
  rw [hz] at h2 h4 ⊢
  clear hy hz
  rw [show ((2 ^ 13 : Nat) : Int) = 8192 by rfl] at h1
  rw [show ((2 ^ 19 : Nat) : Int) = 524288 by rfl] at h2
  go_enter Try.func23, Try.ntmps23
  go_wp2
  go_ret
  exact ⟨rfl, rfl⟩
end Go.Proofs.Ytndiagcpinmefaa.Dg
