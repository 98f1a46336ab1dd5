/- digest.Base32. -/
import Derived.Test.YtndiagcpinmefaaDgV
namespace Go.Proofs.Ytndiagcpinmefaa.Dg
open Go.RowKit Rt Go.Proofs.YtndiagcpinmefaaW.PrintWords
set_option linter.unusedSimpArgs false

/-- The letters of g bits that lie ready, five by five. -/
def drain (v : Nat) (g : Nat) : List UInt8 := if 5 ≤ g then hexD (v / 2 ^ (g - 5) % 32) :: drain v (g - 5) else []
termination_by g
def fiveOut : Nat → Nat → List UInt8 → List UInt8
  | h, v, [] => if 0 < h then [hexD (v * 2 ^ (5 - h) % 32)] else []
  | h, v, c :: r => drain ((v * 256 + c.toNat) % 2 ^ 64) (h + 8) ++ fiveOut ((h + 8) % 5) ((v * 256 + c.toNat) % 2 ^ 64) r
def fiveW (s : ByteArray) : ByteArray := mk (fiveOut 0 0 s.data.toList)

theorem or_shl8 (v k : Nat) (hk : k < 256) : Go.bits .or .u64 (IntKind.u64.wrap ((v : Int) * 256)) (k : Int) = (((v * 256 + k) % 2 ^ 64 : Nat) : Int) := by
  have e0 : (v : Int) * 256 = ((v * 256 : Nat) : Int) := by omega
  obtain ⟨u, hu⟩ : ∃ u, v % 72057594037927936 = u := ⟨_, rfl⟩
  have e : (v * 256) % 2 ^ 64 = 2 ^ 8 * u := by omega
  have hul : u < 72057594037927936 := by omega
  rw [e0, wrap_u64, e]
  have h1 : (BitVec.ofInt IntKind.u64.bits ((2 ^ 8 * u : Nat) : Int) ||| BitVec.ofInt IntKind.u64.bits (k : Int)).toNat = 2 ^ 8 * u + k := by
    rw [BitVec.toNat_or, BitVec.ofInt_natCast, BitVec.ofInt_natCast, BitVec.toNat_ofNat, BitVec.toNat_ofNat]
    show (2 ^ 8 * u) % 2 ^ 64 ||| k % 2 ^ 64 = _
    rw [Nat.mod_eq_of_lt (by omega), Nat.mod_eq_of_lt (by omega : k < 2 ^ 64), Nat.two_pow_add_eq_or_of_lt (by omega : k < 2 ^ 8)]
  unfold Go.bits
  simp only [h1]
  rw [wrap_u64]
  congr 1
  omega
theorem thirtyAt : ∀ q : Fin 32, (⟨#[48, 49, 50, 51, 52, 53, 54, 55, 56, 57, 97, 98, 99, 100, 101, 102, 103, 104, 105, 106, 107, 108, 109, 110, 111, 112, 113, 114, 115, 116, 117, 118]⟩ : ByteArray)[q.val]'(q.isLt) = hexD q.val := by decide +kernel
theorem own_snoc {w : World} {B : Nat} {v : Value} {M : List UInt8} {b : UInt8} (h : w.ownsRow B 5 1 v (M.length + 1) (cells M ++ [.int .u8 (b.toNat : Int)])) : w.ownsRow B 5 1 v (M ++ [b]).length (cells (M ++ [b])) := by
  rw [List.length_append, cells_append]; exact h
theorem drain_step (v g : Nat) (h : 5 ≤ g) : drain v g = hexD (v / 2 ^ (g - 5) % 32) :: drain v (g - 5) := by rw [drain, if_pos h]
theorem drain_end (v g : Nat) (h : g < 5) : drain v g = [] := by rw [drain, if_neg (by omega)]

set_option maxRecDepth 100000 in
set_option maxHeartbeats 2000000 in
theorem Base32_any (s : ByteArray) (hs : s.size ≤ 4194304) (w : World) :
    Calls Try.prog 19 #[.string s] w fun e W' => e = .returned (.string (fiveW s)) ∧ Below w.heap.size w W' := by
  obtain ⟨i0, hi, hz0', hz1, hz2⟩ := info_parts info5
  obtain ⟨L, hL⟩ : ∃ L, s.data.toList = L := ⟨_, rfl⟩
  have hlen : L.length = s.size := by rw [← hL]; rfl
  have hUW : Hid (fiveW s = mk (fiveOut 0 0 L)) := Lib.hid (by unfold fiveW; rw [hL])
  obtain ⟨sp, hsp⟩ := bytes9_new w s
  have hbw := bytesWorld_below w 5 s
  rw [hL] at hsp
  go_enter Try.func19, Try.ntmps19
  go_wp2
  rw [Lib.run_convert_string_bytes _ 9 31 5 _ Try.underlying9 Try.underlying31 Try.underlying5]
  simp only [Result.andThen]
  rw [Oper.upon_value]
  obtain ⟨cp, hcp⟩ : ∃ cp, grownCap w s.size 0 5 = cp := ⟨_, rfl⟩
  rw [hcp]
  obtain ⟨W0, hW0⟩ : ∃ W0, Lib.bytesWorld w 5 s = W0 := ⟨_, rfl⟩
  rw [hW0] at hsp hbw ⊢
  have hg := hsp.lt
  have hCe : Hid (∀ wr, Below W0.heap.size W0 wr → ∀ k (h : k < L.length), wr.cell? ⟨w.heap.size, k, none⟩ = some (.int .u8 (L[k].toNat : Int))) := Lib.hid (fun wr hb k h => by
    rw [hb.cell (p := ⟨w.heap.size, k, none⟩) hg, hsp.cell k h]; simp [List.getD_eq_getElem?_getD, h])
  have hbH := Lib.hid hbw
  clear hW0 hcp hsp hbw hL
  go_wp2
  go_loopw [3, 4, 5, 11] (fun o hh vv i wr => ∃ (k h v : Nat) (M : List UInt8), i = .int .i64 k ∧ k ≤ s.size ∧ hh = .int .i64 h ∧ h < 5 ∧ vv = .int .u64 v ∧ v < 2 ^ 64 ∧ M.length ≤ 2 * k ∧ Hid (fiveOut 0 0 L = M ++ fiveOut h v (L.drop k)) ∧ wr.ownsRow W0.heap.size 5 1 o M.length (cells M) ∧ Below W0.heap.size W0 wr) (fun _ _ _ i _ => s.size - (intOf i).toNat)
  case atStart => exact ⟨0, 0, 0, [], rfl, Nat.zero_le _, rfl, by omega, rfl, by omega, by simp, Lib.hid rfl, World.ownsRow_nil _ _ _ _, Below.refl _ _⟩
  case round =>
    obtain ⟨k, h, v, M, rfl, hk, rfl, hh5, rfl, hv, hMk, hF, hrow, hb⟩ := hrel
    by_cases hlt : k < s.size
    · have hlt' : (k : Int) < s.size := by omega
      have hc := hCe.out wr hb k (by omega)
      have hF2 := hF.out
      rw [List.drop_eq_getElem_cons (by omega)] at hF2
      obtain ⟨c, hcc⟩ : ∃ c, L[k]'(by omega) = c := ⟨_, rfl⟩
      rw [hcc] at hc hF2
      have hcl := UInt8.toNat_lt c
      rw [fiveOut] at hF2
      obtain ⟨v2, hv2⟩ : ∃ v2, (v * 256 + c.toNat) % 2 ^ 64 = v2 := ⟨_, rfl⟩
      have hor := or_shl8 v c.toNat hcl
      rw [hv2] at hor hF2
      have hv2l : v2 < 2 ^ 64 := by omega
      have hF3 := Lib.hid hF2
      clear hcc hF hF2 hv2
      go_wp2
      go_loopw [3, 4] (fun o hh wq => ∃ (g : Nat) (N : List UInt8), hh = .int .i64 g ∧ g ≤ 12 ∧ g % 5 = (h + 8) % 5 ∧ 5 * N.length + g ≤ 5 * M.length + h + 8 ∧ Hid (N ++ drain v2 g = M ++ drain v2 (h + 8)) ∧ wq.ownsRow W0.heap.size 5 1 o N.length (cells N) ∧ Below W0.heap.size W0 wq) (fun _ hh _ => (intOf hh).toNat)
      case atStart => exact ⟨h + 8, M, by first | rfl | go_num, by omega, rfl, by omega, Lib.hid rfl, hrow, hb⟩
      case round =>
        obtain ⟨g, N, rfl, hg12, hgm, hgn, hD, hrow2, hb2⟩ := hrel
        by_cases h5 : 5 ≤ g
        · have h5' : 5 ≤ (g : Int) := by omega
          obtain ⟨q, hq⟩ : ∃ q, v2 / 2 ^ (g - 5) = q := ⟨_, rfl⟩
          obtain ⟨e, he⟩ : ∃ e, q % 32 = e := ⟨_, rfl⟩
          have he32 : e < 32 := by omega
          have hql : q < 2 ^ 64 := by rw [← hq]; exact Nat.lt_of_le_of_lt (Nat.div_le_self _ _) hv2l
          have hdiv : (v2 : Int) / 2 ^ (g - 5) = (q : Int) := by rw [← hq]; simp
          have hand : Go.bits .and .u64 (q : Int) 31 = (e : Int) := by have := and_mask q 5 (by omega) hql; rw [show q % 2 ^ 5 = e from he] at this; exact this
          have hix := thirtyAt ⟨e, he32⟩
          obtain ⟨b, hbb⟩ : ∃ b, hexD e = b := ⟨_, rfl⟩
          have hst : Hid ((N ++ [b]) ++ drain v2 (g - 5) = M ++ drain v2 (h + 8)) := Lib.hid (by
            rw [← hD.out, drain_step v2 g h5, hq, he, hbb]; simp)
          simp only [hbb] at hix
          have he1 : (e : Int) < 32 := by omega
          have hbs := hb2.size
          clear hD hq he hbb hrow
          go_wp2_with (at_builtin; go_loud (refine wpList_append_own _ rfl _ _ 31 rfl W0.heap.size 5 i0 (.int .u8 0) 1 1 Try.underlying31 hi hz0' hz1 hz2 rfl (by decide) _ _ _ rfl (hrow2.alloc _) ⟨wr.heap.size, 0, none⟩ 1 1 [.int .u8 (b.toNat : Int)] rfl rfl (cell_one_new _ _ _) (by simp [Value.oneCell']) (by unfold maxLen; omega) (by omega) (by simp; omega) ?_); intro v' w3 hown' hgrow _; have hb3 : Below W0.heap.size W0 w3 := (hb2.alloc hbs _).grown hgrow (by simp; omega) (fun k hk => (hrow2.lt k hk).1); clear hgrow hrow2)
          go_roundw
          case rel => exact ⟨g - 5, N ++ [b], by (first | rfl | (congr 1; omega)), by omega, by omega, by simp; omega, hst, by rw [List.length_append, cells_append]; exact hown', hb3⟩
          case measure => simp [intOf]; omega
        · have h5' : ¬ 5 ≤ (g : Int) := by omega
          have hgg : g = (h + 8) % 5 := by omega
          have hst : Hid (fiveOut 0 0 L = N ++ fiveOut g v2 (L.drop (k + 1))) := Lib.hid (by
            rw [hF3.out, hgg, ← List.append_assoc, ← hD.out, drain_end v2 g (by omega), List.append_nil])
          clear hD hrow hF3
          go_wp2
          go_roundw
          case rel => exact ⟨k + 1, g, v2, N, by go_num, by omega, rfl, by omega, rfl, hv2l, by omega, hst, hrow2, hb2⟩
          case measure => simp [intOf]; omega
    · obtain rfl : k = s.size := by omega
      have hF2 := hF.out
      rw [List.drop_eq_nil_of_le (by omega), fiveOut] at hF2
      have hbe := hbH.out.trans (hb.mono hbH.out.size)
      by_cases h0 : 0 < h
      · have h0' : 0 < (h : Int) := by omega
        rw [if_pos h0] at hF2
        have hh : h = 1 ∨ h = 2 ∨ h = 3 ∨ h = 4 := by omega
        obtain ⟨e, he⟩ : ∃ e, v * 2 ^ (5 - h) % 32 = e := ⟨_, rfl⟩
        have he32 : e < 32 := by omega
        have he1 : (e : Int) < 32 := by omega
        have hix := thirtyAt ⟨e, he32⟩
        obtain ⟨b, hbb⟩ : ∃ b, hexD e = b := ⟨_, rfl⟩
        simp only [hbb] at hix
        rw [he, hbb] at hF2
        have hres : Hid (fiveW s = mk (M ++ [b])) := Lib.hid (by rw [hUW.out, hF2])
        have hbs := hb.size
        obtain ⟨q, hq⟩ : ∃ q, v * 2 ^ (5 - h) % 2 ^ 64 = q := ⟨_, rfl⟩
        have hql : q < 2 ^ 64 := by omega
        have hqe : q % 2 ^ 5 = e := by omega
        have hand : Go.bits .and .u64 (q : Int) 31 = (e : Int) := by have := and_mask q 5 (by omega) hql; rw [hqe] at this; exact this
        clear hbb hF hF2 hqe he
        have hM1 : M.length + 1 ≤ maxLen := by unfold maxLen; omega
        have hM2 : (M.length + 1) * 1 ≤ 140737488355328 := by omega
        have hsA : ∀ {o : Obj}, wr.heap.size ≤ (wr.alloc o).heap.size := fun {o} => by simp
        rcases hh with rfl | rfl | rfl | rfl
        · have hsh : IntKind.u64.wrap ((v : Int) * 16) = (q : Int) := by rw [show (v : Int) * 16 = ((v * 16 : Nat) : Int) by omega, wrap_u64, ← hq]
          clear hq
          go_wp2_with (at_builtin; go_loud (refine wpList_append_own _ rfl _ _ 31 rfl W0.heap.size 5 i0 (.int .u8 0) 1 1 Try.underlying31 hi hz0' hz1 hz2 rfl (by decide) _ _ _ rfl (hrow.alloc _) ⟨wr.heap.size, 0, none⟩ 1 1 [.int .u8 (b.toNat : Int)] rfl rfl (cell_one_new _ _ _) (fun u hu => by obtain rfl := List.mem_singleton.1 hu; rfl) hM1 hM2 (Nat.le_trans hbs hsA) ?_); go_loud (intro v' w3 hown' hgrow _; have hb3 : Below W0.heap.size W0 w3 := (hb.alloc hbs _).grown hgrow (Nat.le_trans hbs hsA) (fun k hk => (hrow.lt k hk).1); have hown3 := own_snoc hown'; have hcv := conv_own hown3 Try.underlying31 Try.underlying5 Try.underlying9; clear hgrow hrow hown' hown3))
          go_ret
          exact ⟨by rw [hres.out]; rfl, hbH.out.trans (hb3.mono hbH.out.size)⟩
        · have hsh : IntKind.u64.wrap ((v : Int) * 8) = (q : Int) := by rw [show (v : Int) * 8 = ((v * 8 : Nat) : Int) by omega, wrap_u64, ← hq]
          clear hq
          go_wp2_with (at_builtin; go_loud (refine wpList_append_own _ rfl _ _ 31 rfl W0.heap.size 5 i0 (.int .u8 0) 1 1 Try.underlying31 hi hz0' hz1 hz2 rfl (by decide) _ _ _ rfl (hrow.alloc _) ⟨wr.heap.size, 0, none⟩ 1 1 [.int .u8 (b.toNat : Int)] rfl rfl (cell_one_new _ _ _) (fun u hu => by obtain rfl := List.mem_singleton.1 hu; rfl) hM1 hM2 (Nat.le_trans hbs hsA) ?_); go_loud (intro v' w3 hown' hgrow _; have hb3 : Below W0.heap.size W0 w3 := (hb.alloc hbs _).grown hgrow (Nat.le_trans hbs hsA) (fun k hk => (hrow.lt k hk).1); have hown3 := own_snoc hown'; have hcv := conv_own hown3 Try.underlying31 Try.underlying5 Try.underlying9; clear hgrow hrow hown' hown3))
          go_ret
          exact ⟨by rw [hres.out]; rfl, hbH.out.trans (hb3.mono hbH.out.size)⟩
        · have hsh : IntKind.u64.wrap ((v : Int) * 4) = (q : Int) := by rw [show (v : Int) * 4 = ((v * 4 : Nat) : Int) by omega, wrap_u64, ← hq]
          clear hq
          go_wp2_with (at_builtin; go_loud (refine wpList_append_own _ rfl _ _ 31 rfl W0.heap.size 5 i0 (.int .u8 0) 1 1 Try.underlying31 hi hz0' hz1 hz2 rfl (by decide) _ _ _ rfl (hrow.alloc _) ⟨wr.heap.size, 0, none⟩ 1 1 [.int .u8 (b.toNat : Int)] rfl rfl (cell_one_new _ _ _) (fun u hu => by obtain rfl := List.mem_singleton.1 hu; rfl) hM1 hM2 (Nat.le_trans hbs hsA) ?_); go_loud (intro v' w3 hown' hgrow _; have hb3 : Below W0.heap.size W0 w3 := (hb.alloc hbs _).grown hgrow (Nat.le_trans hbs hsA) (fun k hk => (hrow.lt k hk).1); have hown3 := own_snoc hown'; have hcv := conv_own hown3 Try.underlying31 Try.underlying5 Try.underlying9; clear hgrow hrow hown' hown3))
          go_ret
          exact ⟨by rw [hres.out]; rfl, hbH.out.trans (hb3.mono hbH.out.size)⟩
        · have hsh : IntKind.u64.wrap ((v : Int) * 2) = (q : Int) := by rw [show (v : Int) * 2 = ((v * 2 : Nat) : Int) by omega, wrap_u64, ← hq]
          clear hq
          go_wp2_with (at_builtin; go_loud (refine wpList_append_own _ rfl _ _ 31 rfl W0.heap.size 5 i0 (.int .u8 0) 1 1 Try.underlying31 hi hz0' hz1 hz2 rfl (by decide) _ _ _ rfl (hrow.alloc _) ⟨wr.heap.size, 0, none⟩ 1 1 [.int .u8 (b.toNat : Int)] rfl rfl (cell_one_new _ _ _) (fun u hu => by obtain rfl := List.mem_singleton.1 hu; rfl) hM1 hM2 (Nat.le_trans hbs hsA) ?_); go_loud (intro v' w3 hown' hgrow _; have hb3 : Below W0.heap.size W0 w3 := (hb.alloc hbs _).grown hgrow (Nat.le_trans hbs hsA) (fun k hk => (hrow.lt k hk).1); have hown3 := own_snoc hown'; have hcv := conv_own hown3 Try.underlying31 Try.underlying5 Try.underlying9; clear hgrow hrow hown' hown3))
          go_ret
          exact ⟨by rw [hres.out]; rfl, hbH.out.trans (hb3.mono hbH.out.size)⟩
      · have h0' : ¬ 0 < (h : Int) := by omega
        rw [if_neg h0, List.append_nil] at hF2
        have hres : Hid (fiveW s = mk M) := Lib.hid (by rw [hUW.out, hF2])
        have hcv := conv_own hrow Try.underlying31 Try.underlying5 Try.underlying9
        clear hrow hF2 hF
        go_wp2
        go_ret
        exact ⟨by rw [hres.out]; rfl, hbe⟩
end Go.Proofs.Ytndiagcpinmefaa.Dg
