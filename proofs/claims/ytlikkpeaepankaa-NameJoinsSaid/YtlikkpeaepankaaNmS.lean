/- guidepostref01.small: bytes with small letters. -/
import Derived.Test.YtlikkpeaepankaaNmZ
namespace Go.Proofs.Ytlikkpeaepankaa.Nm
open Go.RowKit Rt Go.Proofs.YtlikkpeaepankaaW.PrintWords
set_option linter.unusedSimpArgs false

def lowUp (L : List UInt8) (k : Nat) : List UInt8 := (L.take k).map lowU ++ L.drop k
theorem lowUp_length (L : List UInt8) (k : Nat) : (lowUp L k).length = L.length := by simp [lowUp]; omega
theorem lowUp_eq (L : List UInt8) (k : Nat) (h : k < L.length) : lowUp L k = (L.take k).map lowU ++ L[k] :: L.drop (k + 1) := by
  unfold lowUp; rw [List.drop_eq_getElem_cons h]
theorem mid_get (A B : List UInt8) (c : UInt8) (k : Nat) (h : A.length = k) : (A ++ c :: B).getD k 0 = c := by subst h; simp [List.getD]
theorem mid_set (A B : List UInt8) (c d : UInt8) (k : Nat) (h : A.length = k) : (A ++ c :: B).set k d = A ++ d :: B := by subst h; simp
theorem lowUp_get (L : List UInt8) (k : Nat) (h : k < L.length) : (lowUp L k).getD k 0 = L[k] := by
  rw [lowUp_eq L k h]; exact mid_get _ _ _ _ (by simp; omega)
theorem lowUp_succ (L : List UInt8) (k : Nat) (h : k < L.length) : (lowUp L k).set k (lowU L[k]) = lowUp L (k + 1) := by
  rw [lowUp_eq L k h, mid_set _ _ _ _ _ (by simp; omega)]
  unfold lowUp
  rw [List.take_succ_eq_append_getElem h, List.map_append, List.append_assoc]; rfl
theorem lowU_up_fin : ∀ k : Fin 256, 65 ≤ k.val → k.val ≤ 90 → (lowU (UInt8.ofNat k.val)).toNat = k.val + 32 := by decide +kernel
theorem lowU_up (c : UInt8) (h1 : 65 ≤ c.toNat) (h2 : c.toNat ≤ 90) : (lowU c).toNat = c.toNat + 32 := by
  have := lowU_up_fin ⟨c.toNat, UInt8.toNat_lt c⟩ h1 h2
  simp at this; exact this
theorem lowU_same (c : UInt8) (h : ¬ (65 ≤ c.toNat ∧ c.toNat ≤ 90)) : lowU c = c := by
  unfold lowU; rw [if_neg]; rintro ⟨h1, h2⟩; rw [UInt8.le_iff_toNat_le] at h1 h2; exact h ⟨h1, h2⟩

set_option maxRecDepth 100000 in
set_option maxHeartbeats 2000000 in
theorem small_ref (s : ByteArray) (hs : s.size ≤ 140737488351232) (w : World) :
    Calls Try.prog 47 #[.string s] w fun e W' => e = .returned (.string (mk (lowL s.data.toList))) ∧ Below w.heap.size w W' := by
  obtain ⟨L, hL⟩ : ∃ L, s.data.toList = L := ⟨_, rfl⟩
  have hlen : L.length = s.size := by rw [← hL]; rfl
  obtain ⟨sp, hsp⟩ := bytes9_new w s
  have hbw := bytesWorld_below w 5 s
  rw [hL] at hsp ⊢
  go_enter Try.func47, Try.ntmps47
  go_wp2
  rw [Lib.run_convert_string_bytes _ 9 53 5 _ Try.underlying9 Try.underlying53 Try.underlying5]
  simp only [Result.andThen]
  rw [Oper.upon_value]
  obtain ⟨cp, hcp⟩ : ∃ cp, grownCap w s.size 0 5 = cp := ⟨_, rfl⟩
  rw [hcp]
  obtain ⟨W0, hW0⟩ : ∃ W0, Lib.bytesWorld w 5 s = W0 := ⟨_, rfl⟩
  rw [hW0] at hsp hbw ⊢
  have hS0 : Hid (Bytes9 W0 w.heap.size (lowUp L 0) sp ∧ Below w.heap.size w W0) := Lib.hid ⟨by simpa [lowUp] using hsp, hbw⟩
  clear hW0 hcp hsp hbw hL
  go_wp2
  go_loopw [4] (fun v wr => ∃ k : Nat, k ≤ s.size ∧ v = .int .i64 k ∧ Hid (Bytes9 wr w.heap.size (lowUp L k) sp ∧ Below w.heap.size w wr)) (fun v _ => s.size - (intOf v).toNat)
  case atStart => exact ⟨0, Nat.zero_le _, rfl, hS0⟩
  case round =>
    obtain ⟨k, hk, rfl, hS⟩ := hrel
    by_cases hlt : k < s.size
    · have hkl : k < L.length := by omega
      have hc1 := hS.out.1.cell k (by rw [lowUp_length]; exact hkl)
      have hf1 := hS.out.1.frozen k (by rw [lowUp_length]; exact hkl)
      rw [lowUp_get L k hkl] at hc1
      have hset := hS.out.1.set k (by rw [lowUp_length]; exact hkl) (lowU L[k])
      rw [lowUp_succ L k hkl] at hset
      have hT : Hid (Bytes9 (wr.setCell ⟨w.heap.size, k, none⟩ (.int .u8 ((lowU L[k]).toNat : Int))) w.heap.size (lowUp L (k + 1)) sp) := Lib.hid hset
      have hU : Hid (lowU L[k] = L[k] → lowUp L (k + 1) = lowUp L k) := Lib.hid (fun e => by
        rw [← lowUp_succ L k hkl, e]
        have h1 := lowUp_get L k hkl
        have h2 : k < (lowUp L k).length := by rw [lowUp_length]; exact hkl
        have h3 : (lowUp L k)[k] = L[k] := by rw [← h1]; simp [List.getD, h2]
        rw [← h3]; simp)
      obtain ⟨c, hc⟩ : ∃ c, L[k] = c := ⟨_, rfl⟩
      rw [hc] at hc1 hT hU
      have hlt' : (k : Int) < s.size := by omega
      have hcl := UInt8.toNat_lt c
      clear hset hc
      by_cases hup : 65 ≤ c.toNat ∧ c.toNat ≤ 90
      · have e1 : 65 ≤ (c.toNat : Int) := by omega
        have e2 : (c.toNat : Int) ≤ 90 := by omega
        have e3 : ((lowU c).toNat : Int) = (c.toNat : Int) + 32 := by rw [lowU_up c hup.1 hup.2]; omega
        rw [e3] at hT
        clear hU hup
        go_wp2
        go_roundw
        case rel => exact ⟨k + 1, by omega, by go_num, Lib.hid ⟨hT.out, hS.out.2.setCell (p := ⟨w.heap.size, k, none⟩) (Nat.le_refl _) _⟩⟩
        case measure => simp [intOf]; omega
      · have hsame : Hid (lowUp L (k + 1) = lowUp L k) := Lib.hid (hU.out (lowU_same c hup))
        have hlo : (c.toNat : Int) < 65 ∨ 90 < (c.toNat : Int) := by omega
        clear hU hT hup
        rcases hlo with hlo | hlo
        · go_wp2
          go_roundw
          case rel => exact ⟨k + 1, by omega, by go_num, Lib.hid (by rw [hsame.out]; exact hS.out)⟩
          case measure => simp [intOf]; omega
        · have hlo2 : 65 ≤ (c.toNat : Int) := by omega
          go_wp2
          go_roundw
          case rel => exact ⟨k + 1, by omega, by go_num, Lib.hid (by rw [hsame.out]; exact hS.out)⟩
          case measure => simp [intOf]; omega
    · obtain rfl : k = s.size := by omega
      have hfin : lowUp L s.size = lowL L := by unfold lowUp lowL; rw [← hlen, List.take_length, List.drop_length, List.append_nil]
      have hrow := hS.out.1
      have hB := hS.out.2
      rw [hfin] at hrow
      have hll : (lowL L).length = s.size := by rw [lowL_length]; exact hlen
      have hcv : (convert 53 9 (.slice (some ⟨w.heap.size, 0, none⟩) s.size cp)).run Try.prog wr = .ok (.string (mk (lowL L))) wr := by
        have h1 := run_convert_bytes_arg (P := Try.prog) wr 53 5 Try.underlying53 Try.underlying5 w.heap.size 0 s.size cp ((lowL L).map fun c => (c.toNat : Int)) (by simpa using hll)
          (fun i hi => by
            have := hrow.cell i (by omega)
            rw [Nat.zero_add, this]
            simp [List.getD_eq_getElem?_getD, hll, hi]) 9 Try.underlying9
        rw [h1]
        congr 3
        simp [strOfNums, Function.comp_def]; rfl
      clear hrow hS hS0 hfin hll
      go_wp2
      go_ret
      exact ⟨rfl, hB⟩
end Go.Proofs.Ytlikkpeaepankaa.Nm
