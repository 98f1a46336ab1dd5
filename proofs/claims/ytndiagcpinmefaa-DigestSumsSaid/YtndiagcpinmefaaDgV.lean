/- digest.Unbase32. -/
import Derived.Test.YtndiagcpinmefaaDgU
namespace Go.Proofs.Ytndiagcpinmefaa.Dg
open Go.RowKit Rt Go.Proofs.YtndiagcpinmefaaW.PrintWords
set_option linter.unusedSimpArgs false

abbrev thirty : ByteArray := ⟨#[48, 49, 50, 51, 52, 53, 54, 55, 56, 57, 97, 98, 99, 100, 101, 102, 103, 104, 105, 106, 107, 108, 109, 110, 111, 112, 113, 114, 115, 116, 117, 118]⟩
def fiveV (c : UInt8) : Int := placeW thirty c
theorem fiveV_fin : ∀ c : Fin 256, -1 ≤ fiveV (UInt8.ofNat c.val) ∧ fiveV (UInt8.ofNat c.val) ≤ 31 := by decide +kernel
theorem fiveV_rng (c : UInt8) : -1 ≤ fiveV c ∧ fiveV c ≤ 31 := by
  have := fiveV_fin ⟨c.toNat, UInt8.toNat_lt c⟩; simpa using this
/-- One letter more: how many bits lie ready, the bits, the bytes. -/
def fiveStep (h v : Nat) (M : List UInt8) (k : Nat) : Nat × Nat × List UInt8 :=
  if 8 ≤ h + 5 then (h + 5 - 8, (v * 32 + k) % 2 ^ 64, M ++ [UInt8.ofNat ((v * 32 + k) % 2 ^ 64 / 2 ^ (h + 5 - 8))]) else (h + 5, (v * 32 + k) % 2 ^ 64, M)
def fiveL : Nat → Nat → List UInt8 → List UInt8 → Option (Nat × Nat × List UInt8)
  | h, v, M, [] => some (h, v, M)
  | h, v, M, c :: r => if fiveV c < 0 then none else fiveL (fiveStep h v M (fiveV c).toNat).1 (fiveStep h v M (fiveV c).toNat).2.1 (fiveStep h v M (fiveV c).toNat).2.2 r
def unfiveW (s : ByteArray) : ByteArray × Int :=
  match fiveL 0 0 [] s.data.toList with
  | none => (⟨#[]⟩, 7)
  | some (h, v, M) => if 5 ≤ h ∨ v % 2 ^ h ≠ 0 then (⟨#[]⟩, 7) else (mk M, 0)

theorem wrap_u64 (x : Nat) : IntKind.u64.wrap (x : Int) = ((x % 2 ^ 64 : Nat) : Int) := by
  simp [IntKind.wrap, IntKind.bits, IntKind.signed]
theorem or_shl5 (v k : Nat) (hk : k < 32) : Go.bits .or .u64 (IntKind.u64.wrap ((v : Int) * 32)) (k : Int) = (((v * 32 + k) % 2 ^ 64 : Nat) : Int) := by
  have e0 : (v : Int) * 32 = ((v * 32 : Nat) : Int) := by omega
  obtain ⟨u, hu⟩ : ∃ u, v % 576460752303423488 = u := ⟨_, rfl⟩
  have e : (v * 32) % 2 ^ 64 = 2 ^ 5 * u := by omega
  have hul : u < 576460752303423488 := by omega
  rw [e0, wrap_u64, e]
  have h1 : (BitVec.ofInt IntKind.u64.bits ((2 ^ 5 * u : Nat) : Int) ||| BitVec.ofInt IntKind.u64.bits (k : Int)).toNat = 2 ^ 5 * u + k := by
    rw [BitVec.toNat_or, BitVec.ofInt_natCast, BitVec.ofInt_natCast, BitVec.toNat_ofNat, BitVec.toNat_ofNat]
    show (2 ^ 5 * u) % 2 ^ 64 ||| k % 2 ^ 64 = _
    rw [Nat.mod_eq_of_lt (by omega), Nat.mod_eq_of_lt (by omega : k < 2 ^ 64), Nat.two_pow_add_eq_or_of_lt (by omega : k < 2 ^ 5)]
  unfold Go.bits
  simp only [h1]
  rw [wrap_u64]
  congr 1
  omega
theorem and_mask (v n : Nat) (hn : n ≤ 8) (hv : v < 2 ^ 64) : Go.bits .and .u64 (v : Int) ((2 ^ n - 1 : Nat) : Int) = ((v % 2 ^ n : Nat) : Int) := by
  have hp : 2 ^ n ≤ 2 ^ 8 := Nat.pow_le_pow_right (by omega) hn
  have hp0 : 0 < 2 ^ n := Nat.two_pow_pos n
  have h1 : (BitVec.ofInt IntKind.u64.bits (v : Int) &&& BitVec.ofInt IntKind.u64.bits ((2 ^ n - 1 : Nat) : Int)).toNat = v % 2 ^ n := by
    rw [BitVec.toNat_and, BitVec.ofInt_natCast, BitVec.ofInt_natCast, BitVec.toNat_ofNat, BitVec.toNat_ofNat]
    show v % 2 ^ 64 &&& (2 ^ n - 1) % 2 ^ 64 = _
    rw [Nat.mod_eq_of_lt hv, Nat.mod_eq_of_lt (by omega), Nat.and_two_pow_sub_one_eq_mod]
  unfold Go.bits
  simp only [h1]
  rw [wrap_u64, Nat.mod_eq_of_lt]
  have := Nat.mod_lt v hp0
  omega

set_option maxRecDepth 100000 in
set_option maxHeartbeats 2000000 in
theorem Unbase32_any (s : ByteArray) (hs : s.size ≤ 140737488351232) (w : World) :
    Calls Try.prog 15 #[.string s] w fun e W' => e = .returned (.tuple #[.string (unfiveW s).1, .int .i64 (unfiveW s).2]) ∧ Below w.heap.size w W' := by
  obtain ⟨i0, hi, hz0', hz1, hz2⟩ := info_parts info5
  obtain ⟨L, hL⟩ : ∃ L, s.data.toList = L := ⟨_, rfl⟩
  have hlen : L.length = s.size := by rw [← hL]; rfl
  have hUW : Hid (unfiveW s = match fiveL 0 0 [] L with | none => (⟨#[]⟩, 7) | some (h, v, M) => if 5 ≤ h ∨ v % 2 ^ h ≠ 0 then (⟨#[]⟩, 7) else (mk M, 0)) := Lib.hid (by unfold unfiveW; rw [hL])
  obtain ⟨sp, hsp⟩ := bytes9_new w s
  have hbw := bytesWorld_below w 5 s
  rw [hL] at hsp
  go_enter Try.func15, Try.ntmps15
  go_wp2
  rw [Lib.run_convert_string_bytes _ 9 31 5 _ Try.underlying9 Try.underlying31 Try.underlying5]
  simp only [Result.andThen]
  rw [Oper.upon_value]
  obtain ⟨cp, hcp⟩ : ∃ cp, grownCap w s.size 0 5 = cp := ⟨_, rfl⟩
  rw [hcp]
  obtain ⟨W0, hW0⟩ : ∃ W0, Lib.bytesWorld w 5 s = W0 := ⟨_, rfl⟩
  rw [hW0] at hsp hbw ⊢
  have hg := hsp.lt
  have hCe : Hid (∀ wr, Below W0.heap.size W0 wr → ∀ k (h : k < L.length), wr.cell? ⟨w.heap.size, k, none⟩ = some (.int .u8 (L[k].toNat : Int))) := Lib.hid (fun wr hb k h => by
    rw [hb.cell (p := ⟨w.heap.size, k, none⟩) hg, hsp.cell k h]; simp [List.getD_eq_getElem?_getD, h])
  have hbH := Lib.hid hbw
  clear hW0 hcp hsp hbw hL
  go_wp2
  go_loopw [4, 5, 6, 13] (fun o hh vv i wr => ∃ (k h v : Nat) (M : List UInt8), i = .int .i64 k ∧ k ≤ s.size ∧ hh = .int .i64 h ∧ h < 8 ∧ vv = .int .u64 v ∧ v < 2 ^ 64 ∧ M.length ≤ k ∧ Hid (fiveL 0 0 [] L = fiveL h v M (L.drop k)) ∧ wr.ownsRow W0.heap.size 5 1 o M.length (cells M) ∧ Below W0.heap.size W0 wr) (fun _ _ _ i _ => s.size - (intOf i).toNat)
  case atStart => exact ⟨0, 0, 0, [], rfl, Nat.zero_le _, rfl, by omega, rfl, by omega, by simp, Lib.hid rfl, World.ownsRow_nil _ _ _ _, Below.refl _ _⟩
  case round =>
    obtain ⟨k, h, v, M, rfl, hk, rfl, hh8, rfl, hv, hMk, hF, hrow, hb⟩ := hrel
    by_cases hlt : k < s.size
    · have hlt' : (k : Int) < s.size := by omega
      have hc := hCe.out wr hb k (by omega)
      have hF2 := hF.out
      rw [List.drop_eq_getElem_cons (by omega)] at hF2
      obtain ⟨c, hcc⟩ : ∃ c, L[k]'(by omega) = c := ⟨_, rfl⟩
      rw [hcc] at hc hF2
      have hcl := UInt8.toNat_lt c
      obtain ⟨x, hx⟩ : ∃ x, fiveV c = x := ⟨_, rfl⟩
      have hxr := fiveV_rng c
      rw [fiveL, hx] at hF2
      rw [hx] at hxr
      have hxH : Hid (placeW thirty c = x) := Lib.hid hx
      clear hcc hx hF
      by_cases hneg : x < 0
      · rw [if_pos hneg] at hF2
        have hres : Hid (unfiveW s = (⟨#[]⟩, 7)) := Lib.hid (by rw [hUW.out, hF2])
        have hbe := hbH.out.trans (hb.mono hbH.out.size)
        clear hF2 hrow
        go_wp2_with (go_at_call 34; refine (place_any thirty c _).mono ?_; rintro e w' ⟨rfl, rfl⟩; rw [hxH.out])
        go_ret2
        exact ⟨by rw [hres.out]; rfl, hbe⟩
      · rw [if_neg hneg] at hF2
        obtain ⟨q, rfl⟩ : ∃ q : Nat, x = q := ⟨x.toNat, by omega⟩
        rw [Int.toNat_natCast] at hF2
        obtain ⟨v2, hv2⟩ : ∃ v2, (v * 32 + q) % 2 ^ 64 = v2 := ⟨_, rfl⟩
        have hor := or_shl5 v q (by omega)
        rw [hv2] at hor
        have hv2l : v2 < 2 ^ 64 := by omega
        have hF3 := Lib.hid hF2
        clear hF2
        by_cases h8 : 8 ≤ h + 5
        · obtain ⟨b, hb8⟩ : ∃ b, UInt8.ofNat (v2 / 2 ^ (h - 3)) = b := ⟨_, rfl⟩
          have hby : (v2 : Int) / 2 ^ (h - 3) % 256 = (b.toNat : Int) := by
            rw [← hb8]; simp
          have hst : Hid (fiveL 0 0 [] L = fiveL (h - 3) v2 (M ++ [b]) (L.drop (k + 1))) := Lib.hid (by
            rw [hF3.out]; unfold fiveStep; rw [if_pos h8, hv2, show h + 5 - 8 = h - 3 by omega, hb8])
          have h8' : 8 ≤ (h : Int) + 5 := by omega
          have hbs := hb.size
          have hq0 : ¬ ((q : Int) < 0) := by omega
          clear hF3 hneg hb8 hv2
          go_wp2_with (first
            | (go_at_call 34; refine (place_any thirty c _).mono ?_; rintro e w' ⟨rfl, rfl⟩; rw [hxH.out])
            | (at_builtin; go_loud (refine wpList_append_own _ rfl _ _ 31 rfl W0.heap.size 5 i0 (.int .u8 0) 1 1 Try.underlying31 hi hz0' hz1 hz2 rfl (by decide) _ _ _ rfl (hrow.alloc _) ⟨w'.heap.size, 0, none⟩ 1 1 [.int .u8 (b.toNat : Int)] rfl rfl (cell_one_new _ _ _) (by simp [Value.oneCell']) (by unfold maxLen; omega) (by omega) (by simp; omega) ?_); intro v' w3 hown' hgrow _; have hb2 : Below W0.heap.size W0 w3 := (hb.alloc hbs _).grown hgrow (by simp; omega) (fun k hk => (hrow.lt k hk).1); clear hgrow hrow))
          go_roundw
          case rel => exact ⟨k + 1, h - 3, v2, M ++ [b], by go_num, by omega, by (congr 1; omega), by omega, rfl, hv2l, by simp; omega, hst, by rw [List.length_append, cells_append]; exact hown', hb2⟩
          case measure => simp [intOf]; omega
        · have hst : Hid (fiveL 0 0 [] L = fiveL (h + 5) v2 M (L.drop (k + 1))) := Lib.hid (by
            rw [hF3.out]; unfold fiveStep; rw [if_neg h8, hv2])
          have h8' : ¬ 8 ≤ (h : Int) + 5 := by omega
          have hq0 : ¬ ((q : Int) < 0) := by omega
          clear hF3 hneg hv2
          go_wp2_with (go_at_call 34; refine (place_any thirty c _).mono ?_; rintro e w' ⟨rfl, rfl⟩; rw [hxH.out])
          go_roundw
          case rel => exact ⟨k + 1, h + 5, v2, M, by go_num, by omega, by first | rfl | (congr 1; omega), by omega, rfl, hv2l, by omega, hst, hrow, hb⟩
          case measure => simp [intOf]; omega
    · obtain rfl : k = s.size := by omega
      have hF2 := hF.out
      rw [List.drop_eq_nil_of_le (by omega), fiveL] at hF2
      have hcv := conv_own hrow Try.underlying31 Try.underlying5 Try.underlying9
      have hbe := hbH.out.trans (hb.mono hbH.out.size)
      have hres : Hid (unfiveW s = if 5 ≤ h ∨ v % 2 ^ h ≠ 0 then (⟨#[]⟩, 7) else (mk M, 0)) := Lib.hid (by rw [hUW.out, hF2])
      have hmask : ∀ n, n ≤ 8 → Go.bits .and .u64 (v : Int) ((2 ^ n - 1 : Nat) : Int) = ((v % 2 ^ n : Nat) : Int) := fun n hn => and_mask v n hn hv
      clear hrow hF2 hF
      by_cases h5 : 5 ≤ h
      · have h5' : 5 ≤ (h : Int) := by omega
        clear hmask
        go_wp2
        go_ret2
        exact ⟨by rw [hres.out, if_pos (.inl h5)]; rfl, hbe⟩
      · have h5' : ¬ 5 ≤ (h : Int) := by omega
        have hh : h = 0 ∨ h = 1 ∨ h = 2 ∨ h = 3 ∨ h = 4 := by omega
        obtain ⟨z, hz⟩ : ∃ z, v % 2 ^ h = z := ⟨_, rfl⟩
        rw [hz] at hres
        rcases hh with rfl | rfl | rfl | rfl | rfl
        · have hm : Go.bits .and .u64 (v : Int) 0 = (z : Int) := by have := hmask 0 (by omega); rw [hz] at this; exact this
          clear hmask hz
          by_cases hz0 : z = 0
          · rw [if_neg (by omega)] at hres
            have hz1 : ((z : Int) == 0) = true := by simp; omega
            have hz2 : ((z : Int) = 0) := by omega
            rw [hz2] at hm
            go_wp2
            go_ret2
            exact ⟨by rw [hres.out]; rfl, hbe⟩
          · rw [if_pos (by omega)] at hres
            have hz1 : ((z : Int) == 0) = false := by simp; omega
            have hz2 : ¬ ((z : Int) = 0) := by omega
            go_wp2
            go_ret2
            exact ⟨by rw [hres.out]; rfl, hbe⟩
        · have hm : Go.bits .and .u64 (v : Int) 1 = (z : Int) := by have := hmask 1 (by omega); rw [hz] at this; exact this
          clear hmask hz
          by_cases hz0 : z = 0
          · rw [if_neg (by omega)] at hres
            have hz1 : ((z : Int) == 0) = true := by simp; omega
            have hz2 : ((z : Int) = 0) := by omega
            rw [hz2] at hm
            go_wp2
            go_ret2
            exact ⟨by rw [hres.out]; rfl, hbe⟩
          · rw [if_pos (by omega)] at hres
            have hz1 : ((z : Int) == 0) = false := by simp; omega
            have hz2 : ¬ ((z : Int) = 0) := by omega
            go_wp2
            go_ret2
            exact ⟨by rw [hres.out]; rfl, hbe⟩
        · have hm : Go.bits .and .u64 (v : Int) 3 = (z : Int) := by have := hmask 2 (by omega); rw [hz] at this; exact this
          clear hmask hz
          by_cases hz0 : z = 0
          · rw [if_neg (by omega)] at hres
            have hz1 : ((z : Int) == 0) = true := by simp; omega
            have hz2 : ((z : Int) = 0) := by omega
            rw [hz2] at hm
            go_wp2
            go_ret2
            exact ⟨by rw [hres.out]; rfl, hbe⟩
          · rw [if_pos (by omega)] at hres
            have hz1 : ((z : Int) == 0) = false := by simp; omega
            have hz2 : ¬ ((z : Int) = 0) := by omega
            go_wp2
            go_ret2
            exact ⟨by rw [hres.out]; rfl, hbe⟩
        · have hm : Go.bits .and .u64 (v : Int) 7 = (z : Int) := by have := hmask 3 (by omega); rw [hz] at this; exact this
          clear hmask hz
          by_cases hz0 : z = 0
          · rw [if_neg (by omega)] at hres
            have hz1 : ((z : Int) == 0) = true := by simp; omega
            have hz2 : ((z : Int) = 0) := by omega
            rw [hz2] at hm
            go_wp2
            go_ret2
            exact ⟨by rw [hres.out]; rfl, hbe⟩
          · rw [if_pos (by omega)] at hres
            have hz1 : ((z : Int) == 0) = false := by simp; omega
            have hz2 : ¬ ((z : Int) = 0) := by omega
            go_wp2
            go_ret2
            exact ⟨by rw [hres.out]; rfl, hbe⟩
        · have hm : Go.bits .and .u64 (v : Int) 15 = (z : Int) := by have := hmask 4 (by omega); rw [hz] at this; exact this
          clear hmask hz
          by_cases hz0 : z = 0
          · rw [if_neg (by omega)] at hres
            have hz1 : ((z : Int) == 0) = true := by simp; omega
            have hz2 : ((z : Int) = 0) := by omega
            rw [hz2] at hm
            go_wp2
            go_ret2
            exact ⟨by rw [hres.out]; rfl, hbe⟩
          · rw [if_pos (by omega)] at hres
            have hz1 : ((z : Int) == 0) = false := by simp; omega
            have hz2 : ¬ ((z : Int) = 0) := by omega
            go_wp2
            go_ret2
            exact ⟨by rw [hres.out]; rfl, hbe⟩
end Go.Proofs.Ytndiagcpinmefaa.Dg
