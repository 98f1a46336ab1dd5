/-
  NARROWER THAN 'FOR EVERY INPUT', by the rows' own cells (each row's printed sentence says how): NumberTells: laid · NumberPowers: laid · NumberOrders: laid · NumberMoves: laid · NumberReckons: laid · NumberLaws: laid · NumberDivides: laid · NumberExponents: laid.
  DERIVED. THE GIVEN ROWS OF THIS SEAT. 8 by the template 'for every input the law returns true; each argument reads behind the call as it read before'; 0 by the template 'total and deterministic' (their statements: YtffehdfddkgggaaDoorTotals.lean).
  GIVEN WITH THE SEED: the statements are not yours to turn. If you find one false, say at which input.
  Laid BY PROGRAM, IN A SANDBOX (cutbox-rows.mjs): the forced cells as the released guide's own fill.sh prints them over the translation 976c1e4573bd5be8… (all of the seat's roots in one cut). By AI agents, Wed Nov 11 2026. No macro, syntax, notation, axiom, sorry.
-/
import Derived.Test.YtffehdfddkgggaaDoorChecked
import GoSem.PinnedTables
import GoSem.Claim
import GoSem.ClaimJoined
import GoSem.ClaimMapViews
import Derived.JoinedTies
import Derived.KernelRfl
namespace Go.Proofs.YtffehdfddkgggaaDoor
/- THE CELL 'sum', in the pinned program and in every row, IS THE sha256 OF THE DUMP (.gsa) THAT YtffehdfddkgggaaDoorProg.lean LOADS. Nothing in Lean hashes anything: it is a label: what it is worth is what the hold of that sum in a sandbox is worth. -/
noncomputable def Tryd.pinned : Pinned := { name := "ytffehdfddkgggaadoor", sum := "976c1e4573bd5be83b5ef72a66416408d56c28fc34a8dab63f7fd2fe04b7af0e", checked := Tryd.checked }
namespace Rows
def none {H : Type} : Left H := { results := [], args := [] }

/- WHAT THE LISTED PACKAGE-LEVEL VARIABLES READ AS WHEN THE CALL BEGINS. Each datum BY PROGRAM (the guide's laid-datum.mjs) off the statement by which the dump's own 'gosem.cut.vars' lays the variable. In a bare row this is a premise. The card (YtffehdfddkgggaaDoorCards.lean) ties it to the program's text. -/
def laid_unicode_utf8_acceptRanges {H : Type} : DataW H := .agg [.agg [.lit (.int .u8 128), .lit (.int .u8 191)], .agg [.lit (.int .u8 160), .lit (.int .u8 191)], .agg [.lit (.int .u8 128), .lit (.int .u8 159)], .agg [.lit (.int .u8 144), .lit (.int .u8 191)], .agg [.lit (.int .u8 128), .lit (.int .u8 143)], .agg [.lit (.int .u8 0), .lit (.int .u8 0)], .agg [.lit (.int .u8 0), .lit (.int .u8 0)], .agg [.lit (.int .u8 0), .lit (.int .u8 0)], .agg [.lit (.int .u8 0), .lit (.int .u8 0)], .agg [.lit (.int .u8 0), .lit (.int .u8 0)], .agg [.lit (.int .u8 0), .lit (.int .u8 0)], .agg [.lit (.int .u8 0), .lit (.int .u8 0)], .agg [.lit (.int .u8 0), .lit (.int .u8 0)], .agg [.lit (.int .u8 0), .lit (.int .u8 0)], .agg [.lit (.int .u8 0), .lit (.int .u8 0)], .agg [.lit (.int .u8 0), .lit (.int .u8 0)]]
/-- One of Go's own tables, pinned by name: the form's constant. -/
def laid_unicode_utf8_first : DataW Unit := Go.Pinned.utf8First

/-- 'guidepostlaw05.NumberTells': WHATEVER THE INPUT: true; the input reads as it did. -/
def numberTellsSpec : ChangeSpec := { name := "numberTells", fn := fun _ => fun
  | [d1, d2, d3] => { results := [.lit (.bool true)], args := [d1, d2, d3] }
  | _ => none }
def numberTellsRow : OpenClaim := { program := "ytffehdfddkgggaadoor", sum := "976c1e4573bd5be83b5ef72a66416408d56c28fc34a8dab63f7fd2fe04b7af0e", func := "guidepost/guidepostlaw05.NumberTells", spec := "numberTells", inPlace := ["internal/bytealg.IndexByteString", "internal/bytealg.IndexString"], unfollowed := true, recurses := true, named := ["unicode/utf8.first", "unicode/utf8.acceptRanges", "internal/bytealg.MaxLen"], apart := false, laid := [("unicode/utf8.acceptRanges", laid_unicode_utf8_acceptRanges), ("unicode/utf8.first", laid_unicode_utf8_first)] }
def NumberTellsSaid : Prop := numberTellsRow.holds Tryd.pinned (OpenSpec.ofChange numberTellsSpec)

/-- ITS FALSE NEIGHBOUR: 'it returns false'. Refute it at one input. -/
def numberTellsWrong : ChangeSpec := { name := "numberTells", fn := fun _ => fun
  | [d1, d2, d3] => { results := [.lit (.bool false)], args := [d1, d2, d3] }
  | _ => none }
def NumberTellsWrongFalsely : Prop := numberTellsRow.holds Tryd.pinned (OpenSpec.ofChange numberTellsWrong)

/-- 'guidepostlaw05.NumberPowers': WHATEVER THE INPUT: true; the input reads as it did. -/
def numberPowersSpec : ChangeSpec := { name := "numberPowers", fn := fun _ => fun
  | [d1, d2, d3] => { results := [.lit (.bool true)], args := [d1, d2, d3] }
  | _ => none }
def numberPowersRow : OpenClaim := { program := "ytffehdfddkgggaadoor", sum := "976c1e4573bd5be83b5ef72a66416408d56c28fc34a8dab63f7fd2fe04b7af0e", func := "guidepost/guidepostlaw05.NumberPowers", spec := "numberPowers", inPlace := ["internal/bytealg.IndexByteString", "internal/bytealg.IndexString"], unfollowed := true, recurses := true, named := ["unicode/utf8.first", "unicode/utf8.acceptRanges", "internal/bytealg.MaxLen"], apart := false, laid := [("unicode/utf8.acceptRanges", laid_unicode_utf8_acceptRanges), ("unicode/utf8.first", laid_unicode_utf8_first)] }
def NumberPowersSaid : Prop := numberPowersRow.holds Tryd.pinned (OpenSpec.ofChange numberPowersSpec)

/-- ITS FALSE NEIGHBOUR: 'it returns false'. Refute it at one input. -/
def numberPowersWrong : ChangeSpec := { name := "numberPowers", fn := fun _ => fun
  | [d1, d2, d3] => { results := [.lit (.bool false)], args := [d1, d2, d3] }
  | _ => none }
def NumberPowersWrongFalsely : Prop := numberPowersRow.holds Tryd.pinned (OpenSpec.ofChange numberPowersWrong)

/-- 'guidepostlaw05.NumberOrders': WHATEVER THE INPUT: true; the input reads as it did. -/
def numberOrdersSpec : ChangeSpec := { name := "numberOrders", fn := fun _ => fun
  | [d1, d2] => { results := [.lit (.bool true)], args := [d1, d2] }
  | _ => none }
def numberOrdersRow : OpenClaim := { program := "ytffehdfddkgggaadoor", sum := "976c1e4573bd5be83b5ef72a66416408d56c28fc34a8dab63f7fd2fe04b7af0e", func := "guidepost/guidepostlaw05.NumberOrders", spec := "numberOrders", inPlace := ["internal/bytealg.IndexByteString", "internal/bytealg.IndexString"], unfollowed := true, recurses := true, named := ["unicode/utf8.first", "unicode/utf8.acceptRanges", "internal/bytealg.MaxLen"], apart := false, laid := [("unicode/utf8.acceptRanges", laid_unicode_utf8_acceptRanges), ("unicode/utf8.first", laid_unicode_utf8_first)] }
def NumberOrdersSaid : Prop := numberOrdersRow.holds Tryd.pinned (OpenSpec.ofChange numberOrdersSpec)

/-- ITS FALSE NEIGHBOUR: 'it returns false'. Refute it at one input. -/
def numberOrdersWrong : ChangeSpec := { name := "numberOrders", fn := fun _ => fun
  | [d1, d2] => { results := [.lit (.bool false)], args := [d1, d2] }
  | _ => none }
def NumberOrdersWrongFalsely : Prop := numberOrdersRow.holds Tryd.pinned (OpenSpec.ofChange numberOrdersWrong)

/-- 'guidepostlaw05.NumberMoves': WHATEVER THE INPUT: true; the input reads as it did. -/
def numberMovesSpec : ChangeSpec := { name := "numberMoves", fn := fun _ => fun
  | [d1, d2] => { results := [.lit (.bool true)], args := [d1, d2] }
  | _ => none }
def numberMovesRow : OpenClaim := { program := "ytffehdfddkgggaadoor", sum := "976c1e4573bd5be83b5ef72a66416408d56c28fc34a8dab63f7fd2fe04b7af0e", func := "guidepost/guidepostlaw05.NumberMoves", spec := "numberMoves", inPlace := ["internal/bytealg.IndexByteString", "internal/bytealg.IndexString"], unfollowed := true, recurses := true, named := ["unicode/utf8.first", "unicode/utf8.acceptRanges", "internal/bytealg.MaxLen"], apart := false, laid := [("unicode/utf8.acceptRanges", laid_unicode_utf8_acceptRanges), ("unicode/utf8.first", laid_unicode_utf8_first)] }
def NumberMovesSaid : Prop := numberMovesRow.holds Tryd.pinned (OpenSpec.ofChange numberMovesSpec)

/-- ITS FALSE NEIGHBOUR: 'it returns false'. Refute it at one input. -/
def numberMovesWrong : ChangeSpec := { name := "numberMoves", fn := fun _ => fun
  | [d1, d2] => { results := [.lit (.bool false)], args := [d1, d2] }
  | _ => none }
def NumberMovesWrongFalsely : Prop := numberMovesRow.holds Tryd.pinned (OpenSpec.ofChange numberMovesWrong)

/-- 'guidepostlaw05.NumberReckons': WHATEVER THE INPUT: true; the input reads as it did. -/
def numberReckonsSpec : ChangeSpec := { name := "numberReckons", fn := fun _ => fun
  | [d1, d2] => { results := [.lit (.bool true)], args := [d1, d2] }
  | _ => none }
def numberReckonsRow : OpenClaim := { program := "ytffehdfddkgggaadoor", sum := "976c1e4573bd5be83b5ef72a66416408d56c28fc34a8dab63f7fd2fe04b7af0e", func := "guidepost/guidepostlaw05.NumberReckons", spec := "numberReckons", inPlace := ["internal/bytealg.IndexByteString", "internal/bytealg.IndexString"], unfollowed := true, recurses := true, named := ["unicode/utf8.first", "unicode/utf8.acceptRanges", "internal/bytealg.MaxLen"], apart := false, laid := [("unicode/utf8.acceptRanges", laid_unicode_utf8_acceptRanges), ("unicode/utf8.first", laid_unicode_utf8_first)] }
def NumberReckonsSaid : Prop := numberReckonsRow.holds Tryd.pinned (OpenSpec.ofChange numberReckonsSpec)

/-- ITS FALSE NEIGHBOUR: 'it returns false'. Refute it at one input. -/
def numberReckonsWrong : ChangeSpec := { name := "numberReckons", fn := fun _ => fun
  | [d1, d2] => { results := [.lit (.bool false)], args := [d1, d2] }
  | _ => none }
def NumberReckonsWrongFalsely : Prop := numberReckonsRow.holds Tryd.pinned (OpenSpec.ofChange numberReckonsWrong)

/-- 'guidepostlaw05.NumberLaws': WHATEVER THE INPUT: true; the input reads as it did. -/
def numberLawsSpec : ChangeSpec := { name := "numberLaws", fn := fun _ => fun
  | [d1, d2, d3] => { results := [.lit (.bool true)], args := [d1, d2, d3] }
  | _ => none }
def numberLawsRow : OpenClaim := { program := "ytffehdfddkgggaadoor", sum := "976c1e4573bd5be83b5ef72a66416408d56c28fc34a8dab63f7fd2fe04b7af0e", func := "guidepost/guidepostlaw05.NumberLaws", spec := "numberLaws", inPlace := ["internal/bytealg.IndexByteString", "internal/bytealg.IndexString"], unfollowed := true, recurses := true, named := ["unicode/utf8.first", "unicode/utf8.acceptRanges", "internal/bytealg.MaxLen"], apart := false, laid := [("unicode/utf8.acceptRanges", laid_unicode_utf8_acceptRanges), ("unicode/utf8.first", laid_unicode_utf8_first)] }
def NumberLawsSaid : Prop := numberLawsRow.holds Tryd.pinned (OpenSpec.ofChange numberLawsSpec)

/-- ITS FALSE NEIGHBOUR: 'it returns false'. Refute it at one input. -/
def numberLawsWrong : ChangeSpec := { name := "numberLaws", fn := fun _ => fun
  | [d1, d2, d3] => { results := [.lit (.bool false)], args := [d1, d2, d3] }
  | _ => none }
def NumberLawsWrongFalsely : Prop := numberLawsRow.holds Tryd.pinned (OpenSpec.ofChange numberLawsWrong)

/-- 'guidepostlaw05.NumberDivides': WHATEVER THE INPUT: true; the input reads as it did. -/
def numberDividesSpec : ChangeSpec := { name := "numberDivides", fn := fun _ => fun
  | [d1, d2] => { results := [.lit (.bool true)], args := [d1, d2] }
  | _ => none }
def numberDividesRow : OpenClaim := { program := "ytffehdfddkgggaadoor", sum := "976c1e4573bd5be83b5ef72a66416408d56c28fc34a8dab63f7fd2fe04b7af0e", func := "guidepost/guidepostlaw05.NumberDivides", spec := "numberDivides", inPlace := ["internal/bytealg.IndexByteString", "internal/bytealg.IndexString"], unfollowed := true, recurses := true, named := ["unicode/utf8.first", "unicode/utf8.acceptRanges", "internal/bytealg.MaxLen"], apart := false, laid := [("unicode/utf8.acceptRanges", laid_unicode_utf8_acceptRanges), ("unicode/utf8.first", laid_unicode_utf8_first)] }
def NumberDividesSaid : Prop := numberDividesRow.holds Tryd.pinned (OpenSpec.ofChange numberDividesSpec)

/-- ITS FALSE NEIGHBOUR: 'it returns false'. Refute it at one input. -/
def numberDividesWrong : ChangeSpec := { name := "numberDivides", fn := fun _ => fun
  | [d1, d2] => { results := [.lit (.bool false)], args := [d1, d2] }
  | _ => none }
def NumberDividesWrongFalsely : Prop := numberDividesRow.holds Tryd.pinned (OpenSpec.ofChange numberDividesWrong)

/-- 'guidepostlaw05.NumberExponents': WHATEVER THE INPUT: true; the input reads as it did. -/
def numberExponentsSpec : ChangeSpec := { name := "numberExponents", fn := fun _ => fun
  | [d1, d2, d3, d4] => { results := [.lit (.bool true)], args := [d1, d2, d3, d4] }
  | _ => none }
def numberExponentsRow : OpenClaim := { program := "ytffehdfddkgggaadoor", sum := "976c1e4573bd5be83b5ef72a66416408d56c28fc34a8dab63f7fd2fe04b7af0e", func := "guidepost/guidepostlaw05.NumberExponents", spec := "numberExponents", inPlace := ["internal/bytealg.IndexByteString", "internal/bytealg.IndexString"], unfollowed := true, recurses := true, named := ["unicode/utf8.first", "unicode/utf8.acceptRanges", "internal/bytealg.MaxLen"], apart := false, laid := [("unicode/utf8.acceptRanges", laid_unicode_utf8_acceptRanges), ("unicode/utf8.first", laid_unicode_utf8_first)] }
def NumberExponentsSaid : Prop := numberExponentsRow.holds Tryd.pinned (OpenSpec.ofChange numberExponentsSpec)

/-- ITS FALSE NEIGHBOUR: 'it returns false'. Refute it at one input. -/
def numberExponentsWrong : ChangeSpec := { name := "numberExponents", fn := fun _ => fun
  | [d1, d2, d3, d4] => { results := [.lit (.bool false)], args := [d1, d2, d3, d4] }
  | _ => none }
def NumberExponentsWrongFalsely : Prop := numberExponentsRow.holds Tryd.pinned (OpenSpec.ofChange numberExponentsWrong)

/- THE SECOND FORM. 'bulk': how many values and letters a reading holds, each counted each time it is reached (what is shared counts as often as it is met; a slice's spare places count too). A statement '..UptoSaid' is the law's where the arguments, and the package variables that the reading takes, are together of bulk at most 1048576: NARROWER than '..Said'. Prove '..Said' where nothing that the law and all that it calls make is longer than what came in: it says more and counts as full. Else prove '..UptoSaid'. A law counts once. -/
mutual
def uptoBulk {H : Type} : DataW H → Nat
  | .lit (.string bytes) => bytes.length + 1
  | .lit _ => 1
  | .nil => 1
  | .ptr d => uptoBulk d + 1
  | .slice elems spare => uptoBulkAll elems + uptoBulkAll spare + 1
  | .agg parts => uptoBulkAll parts + 1
  | .iface _ d => uptoBulk d + 1
  | .map entries => uptoBulkEntries entries + 1
  | .held _ => 1
def uptoBulkAll {H : Type} : List (DataW H) → Nat
  | [] => 0
  | d :: r => uptoBulk d + uptoBulkAll r
def uptoBulkEntries {H : Type} : List (Lit × DataW H) → Nat
  | [] => 0
  | x :: r => uptoBulkEntry x + uptoBulkEntries r
def uptoBulkEntry {H : Type} : Lit × DataW H → Nat
  | (.string bytes, d) => bytes.length + uptoBulk d + 1
  | (_, d) => uptoBulk d + 1
 end
def uptoSmall : (H : Type) → List (DataW H) → Bool := fun _ ds => decide (uptoBulkAll ds ≤ 1048576)
def OpenSpec.upto (s : _root_.Go.ChangeSpec) : _root_.Go.OpenSpec := { _root_.Go.OpenSpec.ofChange s with cond := some uptoSmall }

/-- 'guidepostlaw05.NumberTells', WHERE WHAT IT READS IS OF BULK AT MOST 1048576: true; the input reads as it did. -/
def numberTellsUptoRow : OpenClaim := { program := "ytffehdfddkgggaadoor", sum := "976c1e4573bd5be83b5ef72a66416408d56c28fc34a8dab63f7fd2fe04b7af0e", func := "guidepost/guidepostlaw05.NumberTells", spec := "numberTells", inPlace := ["internal/bytealg.IndexByteString", "internal/bytealg.IndexString"], unfollowed := true, recurses := true, named := ["unicode/utf8.first", "unicode/utf8.acceptRanges", "internal/bytealg.MaxLen"], apart := false, laid := [("unicode/utf8.acceptRanges", laid_unicode_utf8_acceptRanges), ("unicode/utf8.first", laid_unicode_utf8_first)], narrowed := true }
def NumberTellsUptoSaid : Prop := numberTellsUptoRow.holds Tryd.pinned (OpenSpec.upto numberTellsSpec)

/-- 'guidepostlaw05.NumberPowers', WHERE WHAT IT READS IS OF BULK AT MOST 1048576: true; the input reads as it did. -/
def numberPowersUptoRow : OpenClaim := { program := "ytffehdfddkgggaadoor", sum := "976c1e4573bd5be83b5ef72a66416408d56c28fc34a8dab63f7fd2fe04b7af0e", func := "guidepost/guidepostlaw05.NumberPowers", spec := "numberPowers", inPlace := ["internal/bytealg.IndexByteString", "internal/bytealg.IndexString"], unfollowed := true, recurses := true, named := ["unicode/utf8.first", "unicode/utf8.acceptRanges", "internal/bytealg.MaxLen"], apart := false, laid := [("unicode/utf8.acceptRanges", laid_unicode_utf8_acceptRanges), ("unicode/utf8.first", laid_unicode_utf8_first)], narrowed := true }
def NumberPowersUptoSaid : Prop := numberPowersUptoRow.holds Tryd.pinned (OpenSpec.upto numberPowersSpec)

/-- 'guidepostlaw05.NumberOrders', WHERE WHAT IT READS IS OF BULK AT MOST 1048576: true; the input reads as it did. -/
def numberOrdersUptoRow : OpenClaim := { program := "ytffehdfddkgggaadoor", sum := "976c1e4573bd5be83b5ef72a66416408d56c28fc34a8dab63f7fd2fe04b7af0e", func := "guidepost/guidepostlaw05.NumberOrders", spec := "numberOrders", inPlace := ["internal/bytealg.IndexByteString", "internal/bytealg.IndexString"], unfollowed := true, recurses := true, named := ["unicode/utf8.first", "unicode/utf8.acceptRanges", "internal/bytealg.MaxLen"], apart := false, laid := [("unicode/utf8.acceptRanges", laid_unicode_utf8_acceptRanges), ("unicode/utf8.first", laid_unicode_utf8_first)], narrowed := true }
def NumberOrdersUptoSaid : Prop := numberOrdersUptoRow.holds Tryd.pinned (OpenSpec.upto numberOrdersSpec)

/-- 'guidepostlaw05.NumberMoves', WHERE WHAT IT READS IS OF BULK AT MOST 1048576: true; the input reads as it did. -/
def numberMovesUptoRow : OpenClaim := { program := "ytffehdfddkgggaadoor", sum := "976c1e4573bd5be83b5ef72a66416408d56c28fc34a8dab63f7fd2fe04b7af0e", func := "guidepost/guidepostlaw05.NumberMoves", spec := "numberMoves", inPlace := ["internal/bytealg.IndexByteString", "internal/bytealg.IndexString"], unfollowed := true, recurses := true, named := ["unicode/utf8.first", "unicode/utf8.acceptRanges", "internal/bytealg.MaxLen"], apart := false, laid := [("unicode/utf8.acceptRanges", laid_unicode_utf8_acceptRanges), ("unicode/utf8.first", laid_unicode_utf8_first)], narrowed := true }
def NumberMovesUptoSaid : Prop := numberMovesUptoRow.holds Tryd.pinned (OpenSpec.upto numberMovesSpec)

/-- 'guidepostlaw05.NumberReckons', WHERE WHAT IT READS IS OF BULK AT MOST 1048576: true; the input reads as it did. -/
def numberReckonsUptoRow : OpenClaim := { program := "ytffehdfddkgggaadoor", sum := "976c1e4573bd5be83b5ef72a66416408d56c28fc34a8dab63f7fd2fe04b7af0e", func := "guidepost/guidepostlaw05.NumberReckons", spec := "numberReckons", inPlace := ["internal/bytealg.IndexByteString", "internal/bytealg.IndexString"], unfollowed := true, recurses := true, named := ["unicode/utf8.first", "unicode/utf8.acceptRanges", "internal/bytealg.MaxLen"], apart := false, laid := [("unicode/utf8.acceptRanges", laid_unicode_utf8_acceptRanges), ("unicode/utf8.first", laid_unicode_utf8_first)], narrowed := true }
def NumberReckonsUptoSaid : Prop := numberReckonsUptoRow.holds Tryd.pinned (OpenSpec.upto numberReckonsSpec)

/-- 'guidepostlaw05.NumberLaws', WHERE WHAT IT READS IS OF BULK AT MOST 1048576: true; the input reads as it did. -/
def numberLawsUptoRow : OpenClaim := { program := "ytffehdfddkgggaadoor", sum := "976c1e4573bd5be83b5ef72a66416408d56c28fc34a8dab63f7fd2fe04b7af0e", func := "guidepost/guidepostlaw05.NumberLaws", spec := "numberLaws", inPlace := ["internal/bytealg.IndexByteString", "internal/bytealg.IndexString"], unfollowed := true, recurses := true, named := ["unicode/utf8.first", "unicode/utf8.acceptRanges", "internal/bytealg.MaxLen"], apart := false, laid := [("unicode/utf8.acceptRanges", laid_unicode_utf8_acceptRanges), ("unicode/utf8.first", laid_unicode_utf8_first)], narrowed := true }
def NumberLawsUptoSaid : Prop := numberLawsUptoRow.holds Tryd.pinned (OpenSpec.upto numberLawsSpec)

/-- 'guidepostlaw05.NumberDivides', WHERE WHAT IT READS IS OF BULK AT MOST 1048576: true; the input reads as it did. -/
def numberDividesUptoRow : OpenClaim := { program := "ytffehdfddkgggaadoor", sum := "976c1e4573bd5be83b5ef72a66416408d56c28fc34a8dab63f7fd2fe04b7af0e", func := "guidepost/guidepostlaw05.NumberDivides", spec := "numberDivides", inPlace := ["internal/bytealg.IndexByteString", "internal/bytealg.IndexString"], unfollowed := true, recurses := true, named := ["unicode/utf8.first", "unicode/utf8.acceptRanges", "internal/bytealg.MaxLen"], apart := false, laid := [("unicode/utf8.acceptRanges", laid_unicode_utf8_acceptRanges), ("unicode/utf8.first", laid_unicode_utf8_first)], narrowed := true }
def NumberDividesUptoSaid : Prop := numberDividesUptoRow.holds Tryd.pinned (OpenSpec.upto numberDividesSpec)

/-- 'guidepostlaw05.NumberExponents', WHERE WHAT IT READS IS OF BULK AT MOST 1048576: true; the input reads as it did. -/
def numberExponentsUptoRow : OpenClaim := { program := "ytffehdfddkgggaadoor", sum := "976c1e4573bd5be83b5ef72a66416408d56c28fc34a8dab63f7fd2fe04b7af0e", func := "guidepost/guidepostlaw05.NumberExponents", spec := "numberExponents", inPlace := ["internal/bytealg.IndexByteString", "internal/bytealg.IndexString"], unfollowed := true, recurses := true, named := ["unicode/utf8.first", "unicode/utf8.acceptRanges", "internal/bytealg.MaxLen"], apart := false, laid := [("unicode/utf8.acceptRanges", laid_unicode_utf8_acceptRanges), ("unicode/utf8.first", laid_unicode_utf8_first)], narrowed := true }
def NumberExponentsUptoSaid : Prop := numberExponentsUptoRow.holds Tryd.pinned (OpenSpec.upto numberExponentsSpec)

end Rows
end Go.Proofs.YtffehdfddkgggaaDoor
