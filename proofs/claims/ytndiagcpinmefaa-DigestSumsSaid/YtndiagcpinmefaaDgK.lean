/- A result that lies in memory. -/
import Derived.Test.YtndiagcpinmefaaDgA
namespace Go.Proofs.Ytndiagcpinmefaa.Dg
open Go.RowKit Rt Go.Proofs.YtndiagcpinmefaaW.PrintWords
theorem results_cell {fn : Func} {t : Tmp} {ty : TypeId} (h : fn.results = #[.cell t ty]) (tmps : Array Value) (P : Program) (w : World) (a : Addr) (v : Value) (ht : tmps.getD t undef = .pointer (some a)) (hl : (loadVar ty a).run P w = .ok v w) :
    (results fn tmps).run P w = .ok v w := by
  have ht2 : tmps[t]?.getD undef = .pointer (some a) := by rw [← ht]; simp
  simp [results, h, ht2, asAddr, hl]
end Go.Proofs.Ytndiagcpinmefaa.Dg
