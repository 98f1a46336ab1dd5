/- The plain law of DigestSums: no program in sight. -/
import Derived.Test.YtndiagcpinmefaaPDigestSumsx1
import Derived.Test.YtndiagcpinmefaaDgSp
namespace Go.Proofs.Ytndiagcpinmefaa.Pure
open Go.RowKit Go.Proofs.Ytndiagcpinmefaa.PDigestSums Go.Proofs.YtndiagcpinmefaaW.PrintWords Go.Proofs.YtndiagcpinmefaaW.PrintLast Go.Proofs.YtndiagcpinmefaaW.PrintMore Go.Proofs.Ytndiagcpinmefaa.Dg
set_option linter.unusedSimpArgs false
set_option linter.unusedVariables false

theorem examples_f : guidepostlaw04_examples.f = some true := by decide +kernel

theorem DigestSums : guidepostlaw04_DigestSums.Pure := by
  intro s hs
  unfold guidepostlaw04_DigestSums.f
  have h1 : digest_Sum256.f s = some (mk (sum2L s.data.toList)) := if_pos hs
  have h2 : guidepostref04_Sum256.f s = some (mk (sum2L s.data.toList)) := if_pos hs
  rw [examples_f, h1, h2]
  simp

end Go.Proofs.Ytndiagcpinmefaa.Pure
