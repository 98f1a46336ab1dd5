/- The plain law of DigestBack, up to a bulk: no program in sight. -/
import Derived.Test.YtndiagcpinmefaaPDigestBackx1
import Derived.Test.YtndiagcpinmefaaDgBt
namespace Go.Proofs.Ytndiagcpinmefaa.Pure
open Go.RowKit Go.Proofs.Ytndiagcpinmefaa.PDigestBack Go.Proofs.YtndiagcpinmefaaW.PrintWords Go.Proofs.YtndiagcpinmefaaW.PrintLast Go.Proofs.YtndiagcpinmefaaW.PrintMore Go.Proofs.Ytndiagcpinmefaa.Dg
set_option linter.unusedSimpArgs false
set_option linter.unusedVariables false

theorem examples_f : guidepostlaw04_examples.f = some true := by decide +kernel
theorem wrap_in {n : Int} (h : -9223372036854775808 ≤ n ∧ n ≤ 9223372036854775807) : wrap64 n = n := by unfold wrap64; omega
theorem DigestBack_upto (a0 : ByteArray) (h : a0.size ≤ 1048576) : guidepostlaw04_DigestBack.f a0 = some true := by
  have hlen : a0.data.toList.length = a0.size := by rw [Array.length_toList]; rfl
  have eH : digest_Hex.f a0 = some (mk (hexL a0.data.toList)) := by unfold digest_Hex.f; rw [if_pos (by omega)]
  have hHs : (mk (hexL a0.data.toList)).size = 2 * a0.size := by rw [mk_size, hexL_length, hlen]
  have eU : digest_Unhex.f (mk (hexL a0.data.toList)) = some (a0, 0) := by
    unfold digest_Unhex.f
    rw [if_pos (by omega), unhexW_hexL, mk_toList]
  have eB : digest_Base32.f a0 = some (fiveW a0) := by unfold digest_Base32.f; rw [if_pos (by omega)]
  have hBs := fiveW_size a0
  have eV : digest_Unbase32.f (fiveW a0) = some (a0, 0) := by
    unfold digest_Unbase32.f
    rw [if_pos (by omega), unfiveW_fiveW]
  have e1 : wrap64 (2 * (a0.size : Int)) = 2 * a0.size := wrap_in (by omega)
  have e2 : wrap64 (8 * (a0.size : Int)) = 8 * a0.size := wrap_in (by omega)
  have e3 : wrap64 (8 * (a0.size : Int) + 4) = 8 * a0.size + 4 := wrap_in (by omega)
  have e4 : wrap64 (Int.tdiv (8 * (a0.size : Int) + 4) 5) = (8 * (a0.size : Int) + 4) / 5 := by
    rw [Int.tdiv_eq_ediv_of_nonneg (by omega)]; exact wrap_in (by omega)
  have e5 : ((mk (hexL a0.data.toList)).size : Int) = 2 * (a0.size : Int) := by rw [hHs]; omega
  have e6 : ((fiveW a0).size : Int) = (8 * (a0.size : Int) + 4) / 5 := by rw [hBs]; omega
  clear hHs hBs hlen h
  generalize mk (hexL a0.data.toList) = X at *
  generalize fiveW a0 = Y at *
  unfold guidepostlaw04_DigestBack.f
  rw [examples_f, eH, eB]
  rw [Option.bind_some, Option.bind_some, eU, Option.bind_some, Option.bind_some, eV, Option.bind_some, Option.bind_some, Option.bind_some]
  rw [if_pos rfl, if_pos rfl, if_pos rfl, if_pos rfl, if_pos rfl, e1, e2, e3, e4, e5, e6, if_pos rfl, beq_self_eq_true]

end Go.Proofs.Ytndiagcpinmefaa.Pure
