/- InfraChooses for its row. -/
import Derived.Test.YticijejnemnmlaaJm
namespace Go.Proofs.Yticijejnemnmlaa.If
open Go.RowKit Rt
theorem Chooses_ex {w : World} {a : Option Addr} {n c : Nat} (hnc : n ≤ c) (hcm : c ≤ maxLen) (hD : ∃ f, RowDe w a n f) {v : Value} (hL : ∃ l, ArgA w v l ∧ (∀ x ∈ l, x.ok) ∧ l.length < 5864062014720) {zone : ByteArray} (hz : zone.size ≤ 140737488351232) {draw now : Int} (hdr : (Lit.int .i64 draw).wf = true) :
    Calls Try.prog 3 #[.slice a n c, v, .string zone, .int .i64 draw, .int .i64 now] w fun e w' => e = .returned (.bool true) ∧ Below w.heap.size w w' := by
  obtain ⟨f, hf⟩ := hD
  obtain ⟨l, h1, h2, h3⟩ := hL
  exact Chooses_any hnc hcm hf h1 h2 h3 hz draw now (wf_of hdr)
end Go.Proofs.Yticijejnemnmlaa.If
