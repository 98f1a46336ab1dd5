/- name.escaped. -/
import Derived.Test.YtlikkpeaepankaaNmLo
import Derived.Lib.ConvBytes
import Derived.Lib.Hide
import Derived.OwnWalk
namespace Go.Proofs.Ytlikkpeaepankaa.Nm
open Go.RowKit Rt
set_option linter.unusedSimpArgs false

/-- Byte j of a text. -/
def byteN (s : ByteArray) (j : Nat) : Nat := (s.data.toList.getD j 0).toNat
def isDig (c : Nat) : Bool := decide (48 ≤ c) && decide (c ≤ 57)
def num3 (s : ByteArray) : Nat → Nat
  | 0 => 0
  | k + 1 => 10 * num3 s k + (byteN s k - 48)
/-- What escaped hands back. -/
def escW (s : ByteArray) : Nat × Nat × Bool :=
  if s.size = 0 then (0, 0, false) else if isDig (byteN s 0) = false then (byteN s 0, 1, true) else if s.size < 3 then (0, 0, false)
  else if isDig (byteN s 1) && isDig (byteN s 2) then (num3 s 3 % 256, 3, decide (num3 s 3 < 256)) else (0, 0, false)

theorem byteN_lt (s : ByteArray) (j : Nat) : byteN s j < 256 := UInt8.toNat_lt _
theorem byteN_get (s : ByteArray) (j : Nat) (h : j < s.size) : s[j].toNat = byteN s j := by
  have : j < s.data.size := h
  show (s.data[j]).toNat = _
  simp [byteN, List.getD]
  rw [Array.getElem?_eq_getElem this]; rfl
theorem byteN_extract (s : ByteArray) (n j : Nat) (h : j < n) : byteN (s.extract 0 n) j = byteN s j := by
  unfold byteN
  rw [ByteArray.data_extract, Array.toList_extract]
  simp [List.getD, List.getElem?_take, h]
theorem num3_le (s : ByteArray) (k : Nat) (hk : k ≤ 3) (h : ∀ j, j < k → isDig (byteN s j) = true) : num3 s k ≤ 999 := by
  have hd : ∀ j, j < k → byteN s j - 48 ≤ 9 := fun j hj => by have := h j hj; simp [isDig] at this; omega
  match k, hk with
  | 0, _ => simp [num3]
  | 1, _ => have := hd 0 (by omega); simp [num3]; omega
  | 2, _ => have := hd 0 (by omega); have := hd 1 (by omega); simp [num3]; omega
  | 3, _ => have := hd 0 (by omega); have := hd 1 (by omega); have := hd 2 (by omega); simp [num3]; omega

theorem bytesWorld_below (w : World) (e : TypeId) (s : ByteArray) : Below w.heap.size w (Lib.bytesWorld w e s) :=
  ⟨by simp [Lib.bytesWorld, World.freeze, World.alloc, World.drew, -World.alloc_eq, -World.drew_eq], by simp [Lib.bytesWorld, World.freeze, World.alloc, World.drew, -World.alloc_eq, -World.drew_eq], by simp [Lib.bytesWorld, World.freeze, World.alloc, World.drew, -World.alloc_eq, -World.drew_eq], by rw [Lib.bytesWorld_size]; omega, fun k hk => Lib.bytesWorld_at_old w e s k hk⟩

set_option maxRecDepth 100000 in
set_option maxHeartbeats 2000000 in
theorem escaped_any (s : ByteArray) (w : World) :
    Calls Try.prog 52 #[.string s] w fun e W' => e = .returned (.tuple #[.int .u8 (escW s).1, .int .i64 (escW s).2.1, .bool (escW s).2.2]) ∧ Below w.heap.size w W' := by
  by_cases h0 : s.size = 0
  · have hC : escW s = (0, 0, false) := by simp [escW, h0]
    rw [hC]
    have hE : s.toList.isEmpty = true := by
      rw [ByteArray.toList_eq, List.isEmpty_iff, ← List.length_eq_zero_iff]; exact h0
    go_enter Try.func52, Try.ntmps52
    go_wp2
    go_ret3
    exact ⟨rfl, Below.refl _ _⟩
  have hp : (0 : Int) < s.size := by omega
  have hE : s.toList.isEmpty = false := by
    rw [ByteArray.toList_eq]
    cases h : s.data.toList with
    | nil => exact absurd (by have : s.data.toList.length = s.size := rfl; rw [← this, h]; rfl) h0
    | cons => rfl
  have hn0 := Lib.hid h0
  have hg0 := byteN_get s 0 (by omega)
  by_cases hd0 : isDig (byteN s 0) = false
  · have hC : escW s = (byteN s 0, 1, true) := by simp [escW, h0, hd0]
    rw [hC]
    have hd : ¬ 48 ≤ (s[0].toNat : Int) ∨ 57 < (s[0].toNat : Int) := by simp [isDig] at hd0; omega
    rw [← hg0]
    clear hd0 hC hg0
    go_enter Try.func52, Try.ntmps52
    go_wp2
    all_goals go_ret3
    all_goals exact ⟨rfl, Below.refl _ _⟩
  have hd0 : isDig (byteN s 0) = true := by simpa using hd0
  have hdd : 48 ≤ (s[0].toNat : Int) ∧ (s[0].toNat : Int) ≤ 57 := by simp [isDig] at hd0; omega
  have hH0 := Lib.hid hd0
  by_cases h3 : s.size < 3
  · have hC : escW s = (0, 0, false) := by simp [escW, h0, hd0, h3]
    rw [hC]
    have h3' : (s.size : Int) < 3 := by omega
    clear hd0 hC hg0 h3
    go_enter Try.func52, Try.ntmps52
    go_wp2
    all_goals go_ret3
    all_goals exact ⟨rfl, Below.refl _ _⟩
  have h3' : ¬ (s.size : Int) < 3 := by omega
  have hx : (s.extract 0 3).size = 3 := by rw [ByteArray.size_extract]; omega
  have hbN : ∀ j, j < 3 → byteN (s.extract 0 3) j = byteN s j := fun j hj => byteN_extract s 3 j hj
  have hCC : Hid (escW s = if isDig (byteN s 1) && isDig (byteN s 2) then (num3 s 3 % 256, 3, decide (num3 s 3 < 256)) else (0, 0, false)) := Lib.hid (by unfold escW; rw [if_neg h0, if_neg (by simp [hd0]), if_neg h3])
  have hcell : ∀ j, j < 3 → (Lib.bytesWorld w 5 (s.extract 0 3)).cell? ⟨w.heap.size, j, none⟩ = some (.int .u8 (byteN s j)) := fun j hj => by
    rw [← hbN j hj]; exact Lib.bytesWorld_cell w 5 (s.extract 0 3) j (by omega)
  clear hd0 hg0 h3
  go_enter Try.func52, Try.ntmps52
  go_wp2
  rw [Lib.run_convert_string_bytes _ 9 53 5 _ Try.underlying9 Try.underlying53 Try.underlying5]
  simp only [Result.andThen]
  rw [Oper.upon_value]
  rw [hx]
  obtain ⟨cp, hcp⟩ : ∃ cp, grownCap w 3 0 5 = cp := ⟨_, rfl⟩
  rw [hcp]
  clear hcp
  obtain ⟨W1, hW1⟩ : ∃ W1, Lib.bytesWorld w 5 (s.extract 0 3) = W1 := ⟨_, rfl⟩
  have hbl : Below w.heap.size w W1 := hW1 ▸ bytesWorld_below w 5 (s.extract 0 3)
  rw [hW1] at hcell ⊢
  have hcH := Lib.hid hcell
  clear hW1 hcell hbN hx
  go_wp2
  go_loop [5, 30] (fun v i => ∃ k : Nat, k ≤ 3 ∧ i = .int .i64 k ∧ v = .int .i64 (num3 s k) ∧ ∀ j, j < k → isDig (byteN s j) = true) (fun _ i => 3 - (intOf i).toNat)
  case atStart => exact ⟨0, by omega, rfl, rfl, fun j hj => absurd hj (by omega)⟩
  case round =>
    obtain ⟨k, hk, rfl, rfl, hdg⟩ := hrel
    have hnm := num3_le s k hk hdg
    have hDG := Lib.hid hdg
    by_cases hlt : k < 3
    · have hc := hcH.out k hlt
      clear hdg
      by_cases hd : isDig (byteN s k) = true
      · have hN : Hid (num3 s (k + 1) = 10 * num3 s k + (byteN s k - 48)) := Lib.hid rfl
        have h48 : 48 ≤ (byteN s k : Int) ∧ (byteN s k : Int) ≤ 57 := by simp [isDig] at hd; omega
        have hdH := Lib.hid hd
        clear hd
        obtain ⟨z, hz⟩ : ∃ z, num3 s k = z := ⟨_, rfl⟩
        obtain ⟨c, hcz⟩ : ∃ c, byteN s k = c := ⟨_, rfl⟩
        rw [hz] at hnm hN ⊢
        rw [hcz] at hc h48 hN
        obtain ⟨h48a, h48b⟩ := h48
        go_wp2
        go_round
        case rel => exact ⟨k + 1, by omega, by go_num, by rw [hN.out]; congr 1; omega, fun j hj => by
          by_cases hjk : j = k
          · rw [hjk]; exact hdH.out
          · exact hDG.out j (by omega)⟩
        case measure => simp [intOf]; omega
      · have hC : escW s = (0, 0, false) := by
          rw [hCC.out, if_neg]
          simp only [Bool.and_eq_true]
          intro ⟨h1, h2⟩
          match k, hlt with
          | 0, _ => exact hd hH0.out
          | 1, _ => exact hd h1
          | 2, _ => exact hd h2
        have hCH := Lib.hid hC
        have h48 : ¬ (48 ≤ (byteN s k : Int) ∧ (byteN s k : Int) ≤ 57) := by simp [isDig] at hd; omega
        obtain ⟨c, hcz⟩ : ∃ c, byteN s k = c := ⟨_, rfl⟩
        rw [hcz] at hc h48
        clear hC hd hDG
        go_wp2
        all_goals go_ret3
        all_goals exact ⟨by rw [hCH.out]; rfl, hbl⟩
    · obtain rfl : k = 3 := by omega
      have hC : escW s = (num3 s 3 % 256, 3, decide (num3 s 3 < 256)) := by rw [hCC.out, if_pos (by rw [hdg 1 (by omega), hdg 2 (by omega)]; rfl)]
      have hCH := Lib.hid hC
      obtain ⟨z, hz⟩ : ∃ z, num3 s 3 = z := ⟨_, rfl⟩
      rw [hz] at hnm hCH ⊢
      clear hC hdg hlt
      go_wp2
      go_ret3
      exact ⟨by rw [hCH.out]; simp [IntKind.wrap, IntKind.bits, IntKind.signed]; omega, hbl⟩
end Go.Proofs.Ytlikkpeaepankaa.Nm
