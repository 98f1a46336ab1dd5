/-
  No cell of these rows narrows 'for every input' (looked for: loops, veiled, ifaces, maps, wideKeys, modest, calm, conditions, laid).
  DERIVED. THE GIVEN ROWS OF THIS SEAT. 10 by the template 'for every input the law returns true; each argument reads behind the call as it read before'; 0 by the template 'total and deterministic' (their statements: YtlikkpeaepankaaTotals.lean).
  GIVEN WITH THE SEED: the statements are not yours to turn. If you find one false, say at which input.
  Laid BY PROGRAM, IN A SANDBOX (cutbox-rows.mjs): the forced cells as the released guide's own fill.sh prints them over the translation 1defdaee3e1bfce2… (all of the seat's roots in one cut). By AI agents, Wed Nov 11 2026. No macro, syntax, notation, axiom, sorry.
-/
import Derived.Test.YtlikkpeaepankaaChecked
import GoSem.Claim
import GoSem.ClaimJoined
import GoSem.ClaimMapViews
import Derived.JoinedTies
import Derived.KernelRfl
namespace Go.Proofs.Ytlikkpeaepankaa
/- THE CELL 'sum', in the pinned program and in every row, IS THE sha256 OF THE DUMP (.gsa) THAT YtlikkpeaepankaaProg.lean LOADS. Nothing in Lean hashes anything: it is a label: what it is worth is what the hold of that sum in a sandbox is worth. -/
noncomputable def Try.pinned : Pinned := { name := "ytlikkpeaepankaa", sum := "1defdaee3e1bfce2b47c8e2800b1ce2ef3555a0f863b375fa486c9e0252692b1", checked := Try.checked }
namespace Rows
def none {H : Type} : Left H := { results := [], args := [] }

/-- 'guidepostlaw01.NameForms': WHATEVER THE INPUT: true; the input reads as it did. -/
def nameFormsSpec : ChangeSpec := { name := "nameForms", fn := fun _ => fun
  | [d1, d2] => { results := [.lit (.bool true)], args := [d1, d2] }
  | _ => none }
def nameFormsRow : OpenClaim := { program := "ytlikkpeaepankaa", sum := "1defdaee3e1bfce2b47c8e2800b1ce2ef3555a0f863b375fa486c9e0252692b1", func := "guidepost/guidepostlaw01.NameForms", spec := "nameForms", inPlace := ["internal/abi.NoEscape", "internal/bytealg.abigen_runtime_cmpstring"], unfollowed := true, recurses := true, apart := false }
def NameFormsSaid : Prop := nameFormsRow.holds Try.pinned (OpenSpec.ofChange nameFormsSpec)

/-- ITS FALSE NEIGHBOUR: 'it returns false'. Refute it at one input. -/
def nameFormsWrong : ChangeSpec := { name := "nameForms", fn := fun _ => fun
  | [d1, d2] => { results := [.lit (.bool false)], args := [d1, d2] }
  | _ => none }
def NameFormsWrongFalsely : Prop := nameFormsRow.holds Try.pinned (OpenSpec.ofChange nameFormsWrong)

/-- 'guidepostlaw01.NameOrder': WHATEVER THE INPUT: true; the input reads as it did. -/
def nameOrderSpec : ChangeSpec := { name := "nameOrder", fn := fun _ => fun
  | [d1, d2, d3] => { results := [.lit (.bool true)], args := [d1, d2, d3] }
  | _ => none }
def nameOrderRow : OpenClaim := { program := "ytlikkpeaepankaa", sum := "1defdaee3e1bfce2b47c8e2800b1ce2ef3555a0f863b375fa486c9e0252692b1", func := "guidepost/guidepostlaw01.NameOrder", spec := "nameOrder", inPlace := ["internal/abi.NoEscape", "internal/bytealg.abigen_runtime_cmpstring"], unfollowed := true, recurses := true, apart := false }
def NameOrderSaid : Prop := nameOrderRow.holds Try.pinned (OpenSpec.ofChange nameOrderSpec)

/-- ITS FALSE NEIGHBOUR: 'it returns false'. Refute it at one input. -/
def nameOrderWrong : ChangeSpec := { name := "nameOrder", fn := fun _ => fun
  | [d1, d2, d3] => { results := [.lit (.bool false)], args := [d1, d2, d3] }
  | _ => none }
def NameOrderWrongFalsely : Prop := nameOrderRow.holds Try.pinned (OpenSpec.ofChange nameOrderWrong)

/-- 'guidepostlaw01.NameMoves': WHATEVER THE INPUT: true; the input reads as it did. -/
def nameMovesSpec : ChangeSpec := { name := "nameMoves", fn := fun _ => fun
  | [d1, d2, d3] => { results := [.lit (.bool true)], args := [d1, d2, d3] }
  | _ => none }
def nameMovesRow : OpenClaim := { program := "ytlikkpeaepankaa", sum := "1defdaee3e1bfce2b47c8e2800b1ce2ef3555a0f863b375fa486c9e0252692b1", func := "guidepost/guidepostlaw01.NameMoves", spec := "nameMoves", inPlace := ["internal/abi.NoEscape", "internal/bytealg.abigen_runtime_cmpstring"], unfollowed := true, recurses := true, apart := false }
def NameMovesSaid : Prop := nameMovesRow.holds Try.pinned (OpenSpec.ofChange nameMovesSpec)

/-- ITS FALSE NEIGHBOUR: 'it returns false'. Refute it at one input. -/
def nameMovesWrong : ChangeSpec := { name := "nameMoves", fn := fun _ => fun
  | [d1, d2, d3] => { results := [.lit (.bool false)], args := [d1, d2, d3] }
  | _ => none }
def NameMovesWrongFalsely : Prop := nameMovesRow.holds Try.pinned (OpenSpec.ofChange nameMovesWrong)

/-- 'guidepostlaw01.NameMakes': WHATEVER THE INPUT: true; the input reads as it did. -/
def nameMakesSpec : ChangeSpec := { name := "nameMakes", fn := fun _ => fun
  | [d1, d2, d3, d4, d5] => { results := [.lit (.bool true)], args := [d1, d2, d3, d4, d5] }
  | _ => none }
def nameMakesRow : OpenClaim := { program := "ytlikkpeaepankaa", sum := "1defdaee3e1bfce2b47c8e2800b1ce2ef3555a0f863b375fa486c9e0252692b1", func := "guidepost/guidepostlaw01.NameMakes", spec := "nameMakes", inPlace := ["internal/abi.NoEscape", "internal/bytealg.abigen_runtime_cmpstring"], unfollowed := true, recurses := true, apart := false }
def NameMakesSaid : Prop := nameMakesRow.holds Try.pinned (OpenSpec.ofChange nameMakesSpec)

/-- ITS FALSE NEIGHBOUR: 'it returns false'. Refute it at one input. -/
def nameMakesWrong : ChangeSpec := { name := "nameMakes", fn := fun _ => fun
  | [d1, d2, d3, d4, d5] => { results := [.lit (.bool false)], args := [d1, d2, d3, d4, d5] }
  | _ => none }
def NameMakesWrongFalsely : Prop := nameMakesRow.holds Try.pinned (OpenSpec.ofChange nameMakesWrong)

/-- 'guidepostlaw01.NameLongest': WHATEVER THE INPUT: true; the input reads as it did. -/
def nameLongestSpec : ChangeSpec := { name := "nameLongest", fn := fun _ => fun
  | [d1, d2, d3] => { results := [.lit (.bool true)], args := [d1, d2, d3] }
  | _ => none }
def nameLongestRow : OpenClaim := { program := "ytlikkpeaepankaa", sum := "1defdaee3e1bfce2b47c8e2800b1ce2ef3555a0f863b375fa486c9e0252692b1", func := "guidepost/guidepostlaw01.NameLongest", spec := "nameLongest", inPlace := ["internal/abi.NoEscape", "internal/bytealg.abigen_runtime_cmpstring"], unfollowed := true, recurses := true, apart := false }
def NameLongestSaid : Prop := nameLongestRow.holds Try.pinned (OpenSpec.ofChange nameLongestSpec)

/-- ITS FALSE NEIGHBOUR: 'it returns false'. Refute it at one input. -/
def nameLongestWrong : ChangeSpec := { name := "nameLongest", fn := fun _ => fun
  | [d1, d2, d3] => { results := [.lit (.bool false)], args := [d1, d2, d3] }
  | _ => none }
def NameLongestWrongFalsely : Prop := nameLongestRow.holds Try.pinned (OpenSpec.ofChange nameLongestWrong)

/-- 'guidepostlaw01.NameHolds': WHATEVER THE INPUT: true; the input reads as it did. -/
def nameHoldsSpec : ChangeSpec := { name := "nameHolds", fn := fun _ => fun
  | [d1, d2] => { results := [.lit (.bool true)], args := [d1, d2] }
  | _ => none }
def nameHoldsRow : OpenClaim := { program := "ytlikkpeaepankaa", sum := "1defdaee3e1bfce2b47c8e2800b1ce2ef3555a0f863b375fa486c9e0252692b1", func := "guidepost/guidepostlaw01.NameHolds", spec := "nameHolds", inPlace := ["internal/abi.NoEscape", "internal/bytealg.abigen_runtime_cmpstring"], unfollowed := true, recurses := true, apart := false }
def NameHoldsSaid : Prop := nameHoldsRow.holds Try.pinned (OpenSpec.ofChange nameHoldsSpec)

/-- ITS FALSE NEIGHBOUR: 'it returns false'. Refute it at one input. -/
def nameHoldsWrong : ChangeSpec := { name := "nameHolds", fn := fun _ => fun
  | [d1, d2] => { results := [.lit (.bool false)], args := [d1, d2] }
  | _ => none }
def NameHoldsWrongFalsely : Prop := nameHoldsRow.holds Try.pinned (OpenSpec.ofChange nameHoldsWrong)

/-- 'guidepostlaw01.NameJoins': WHATEVER THE INPUT: true; the input reads as it did. -/
def nameJoinsSpec : ChangeSpec := { name := "nameJoins", fn := fun _ => fun
  | [d1, d2] => { results := [.lit (.bool true)], args := [d1, d2] }
  | _ => none }
def nameJoinsRow : OpenClaim := { program := "ytlikkpeaepankaa", sum := "1defdaee3e1bfce2b47c8e2800b1ce2ef3555a0f863b375fa486c9e0252692b1", func := "guidepost/guidepostlaw01.NameJoins", spec := "nameJoins", inPlace := ["internal/abi.NoEscape", "internal/bytealg.abigen_runtime_cmpstring"], unfollowed := true, recurses := true, apart := false }
def NameJoinsSaid : Prop := nameJoinsRow.holds Try.pinned (OpenSpec.ofChange nameJoinsSpec)

/-- ITS FALSE NEIGHBOUR: 'it returns false'. Refute it at one input. -/
def nameJoinsWrong : ChangeSpec := { name := "nameJoins", fn := fun _ => fun
  | [d1, d2] => { results := [.lit (.bool false)], args := [d1, d2] }
  | _ => none }
def NameJoinsWrongFalsely : Prop := nameJoinsRow.holds Try.pinned (OpenSpec.ofChange nameJoinsWrong)

/-- 'guidepostlaw01.NameTexts': WHATEVER THE INPUT: true; the input reads as it did. -/
def nameTextsSpec : ChangeSpec := { name := "nameTexts", fn := fun _ => fun
  | [d1, d2] => { results := [.lit (.bool true)], args := [d1, d2] }
  | _ => none }
def nameTextsRow : OpenClaim := { program := "ytlikkpeaepankaa", sum := "1defdaee3e1bfce2b47c8e2800b1ce2ef3555a0f863b375fa486c9e0252692b1", func := "guidepost/guidepostlaw01.NameTexts", spec := "nameTexts", inPlace := ["internal/abi.NoEscape", "internal/bytealg.abigen_runtime_cmpstring"], unfollowed := true, recurses := true, apart := false }
def NameTextsSaid : Prop := nameTextsRow.holds Try.pinned (OpenSpec.ofChange nameTextsSpec)

/-- ITS FALSE NEIGHBOUR: 'it returns false'. Refute it at one input. -/
def nameTextsWrong : ChangeSpec := { name := "nameTexts", fn := fun _ => fun
  | [d1, d2] => { results := [.lit (.bool false)], args := [d1, d2] }
  | _ => none }
def NameTextsWrongFalsely : Prop := nameTextsRow.holds Try.pinned (OpenSpec.ofChange nameTextsWrong)

/-- 'guidepostlaw01.NameBack': WHATEVER THE INPUT: true; the input reads as it did. -/
def nameBackSpec : ChangeSpec := { name := "nameBack", fn := fun _ => fun
  | [d1, d2] => { results := [.lit (.bool true)], args := [d1, d2] }
  | _ => none }
def nameBackRow : OpenClaim := { program := "ytlikkpeaepankaa", sum := "1defdaee3e1bfce2b47c8e2800b1ce2ef3555a0f863b375fa486c9e0252692b1", func := "guidepost/guidepostlaw01.NameBack", spec := "nameBack", inPlace := ["internal/abi.NoEscape", "internal/bytealg.abigen_runtime_cmpstring"], unfollowed := true, recurses := true, apart := false }
def NameBackSaid : Prop := nameBackRow.holds Try.pinned (OpenSpec.ofChange nameBackSpec)

/-- ITS FALSE NEIGHBOUR: 'it returns false'. Refute it at one input. -/
def nameBackWrong : ChangeSpec := { name := "nameBack", fn := fun _ => fun
  | [d1, d2] => { results := [.lit (.bool false)], args := [d1, d2] }
  | _ => none }
def NameBackWrongFalsely : Prop := nameBackRow.holds Try.pinned (OpenSpec.ofChange nameBackWrong)

/-- 'guidepostlaw01.NameUnder': WHATEVER THE INPUT: true; the input reads as it did. -/
def nameUnderSpec : ChangeSpec := { name := "nameUnder", fn := fun _ => fun
  | [d1, d2, d3] => { results := [.lit (.bool true)], args := [d1, d2, d3] }
  | _ => none }
def nameUnderRow : OpenClaim := { program := "ytlikkpeaepankaa", sum := "1defdaee3e1bfce2b47c8e2800b1ce2ef3555a0f863b375fa486c9e0252692b1", func := "guidepost/guidepostlaw01.NameUnder", spec := "nameUnder", inPlace := ["internal/abi.NoEscape", "internal/bytealg.abigen_runtime_cmpstring"], unfollowed := true, recurses := true, apart := false }
def NameUnderSaid : Prop := nameUnderRow.holds Try.pinned (OpenSpec.ofChange nameUnderSpec)

/-- ITS FALSE NEIGHBOUR: 'it returns false'. Refute it at one input. -/
def nameUnderWrong : ChangeSpec := { name := "nameUnder", fn := fun _ => fun
  | [d1, d2, d3] => { results := [.lit (.bool false)], args := [d1, d2, d3] }
  | _ => none }
def NameUnderWrongFalsely : Prop := nameUnderRow.holds Try.pinned (OpenSpec.ofChange nameUnderWrong)

/- THE SECOND FORM. 'bulk': how many values and letters a reading holds, each counted each time it is reached (what is shared counts as often as it is met; a slice's spare places count too). A statement '..UptoSaid' is the law's where the arguments, and the package variables that the reading takes, are together of bulk at most 1048576: NARROWER than '..Said'. Prove '..Said' where nothing that the law and all that it calls make is longer than what came in: it says more and counts as full. Else prove '..UptoSaid'. A law counts once. -/
mutual
def uptoBulk {H : Type} : DataW H → Nat
  | .lit (.string bytes) => bytes.length + 1
  | .lit _ => 1
  | .nil => 1
  | .ptr d => uptoBulk d + 1
  | .slice elems spare => uptoBulkAll elems + uptoBulkAll spare + 1
  | .agg parts => uptoBulkAll parts + 1
  | .iface _ d => uptoBulk d + 1
  | .map entries => uptoBulkEntries entries + 1
  | .held _ => 1
def uptoBulkAll {H : Type} : List (DataW H) → Nat
  | [] => 0
  | d :: r => uptoBulk d + uptoBulkAll r
def uptoBulkEntries {H : Type} : List (Lit × DataW H) → Nat
  | [] => 0
  | x :: r => uptoBulkEntry x + uptoBulkEntries r
def uptoBulkEntry {H : Type} : Lit × DataW H → Nat
  | (.string bytes, d) => bytes.length + uptoBulk d + 1
  | (_, d) => uptoBulk d + 1
 end
def uptoSmall : (H : Type) → List (DataW H) → Bool := fun _ ds => decide (uptoBulkAll ds ≤ 1048576)
def OpenSpec.upto (s : _root_.Go.ChangeSpec) : _root_.Go.OpenSpec := { _root_.Go.OpenSpec.ofChange s with cond := some uptoSmall }

/-- 'guidepostlaw01.NameForms', WHERE WHAT IT READS IS OF BULK AT MOST 1048576: true; the input reads as it did. -/
def nameFormsUptoRow : OpenClaim := { program := "ytlikkpeaepankaa", sum := "1defdaee3e1bfce2b47c8e2800b1ce2ef3555a0f863b375fa486c9e0252692b1", func := "guidepost/guidepostlaw01.NameForms", spec := "nameForms", inPlace := ["internal/abi.NoEscape", "internal/bytealg.abigen_runtime_cmpstring"], unfollowed := true, recurses := true, apart := false, narrowed := true }
def NameFormsUptoSaid : Prop := nameFormsUptoRow.holds Try.pinned (OpenSpec.upto nameFormsSpec)

/-- 'guidepostlaw01.NameOrder', WHERE WHAT IT READS IS OF BULK AT MOST 1048576: true; the input reads as it did. -/
def nameOrderUptoRow : OpenClaim := { program := "ytlikkpeaepankaa", sum := "1defdaee3e1bfce2b47c8e2800b1ce2ef3555a0f863b375fa486c9e0252692b1", func := "guidepost/guidepostlaw01.NameOrder", spec := "nameOrder", inPlace := ["internal/abi.NoEscape", "internal/bytealg.abigen_runtime_cmpstring"], unfollowed := true, recurses := true, apart := false, narrowed := true }
def NameOrderUptoSaid : Prop := nameOrderUptoRow.holds Try.pinned (OpenSpec.upto nameOrderSpec)

/-- 'guidepostlaw01.NameMoves', WHERE WHAT IT READS IS OF BULK AT MOST 1048576: true; the input reads as it did. -/
def nameMovesUptoRow : OpenClaim := { program := "ytlikkpeaepankaa", sum := "1defdaee3e1bfce2b47c8e2800b1ce2ef3555a0f863b375fa486c9e0252692b1", func := "guidepost/guidepostlaw01.NameMoves", spec := "nameMoves", inPlace := ["internal/abi.NoEscape", "internal/bytealg.abigen_runtime_cmpstring"], unfollowed := true, recurses := true, apart := false, narrowed := true }
def NameMovesUptoSaid : Prop := nameMovesUptoRow.holds Try.pinned (OpenSpec.upto nameMovesSpec)

/-- 'guidepostlaw01.NameMakes', WHERE WHAT IT READS IS OF BULK AT MOST 1048576: true; the input reads as it did. -/
def nameMakesUptoRow : OpenClaim := { program := "ytlikkpeaepankaa", sum := "1defdaee3e1bfce2b47c8e2800b1ce2ef3555a0f863b375fa486c9e0252692b1", func := "guidepost/guidepostlaw01.NameMakes", spec := "nameMakes", inPlace := ["internal/abi.NoEscape", "internal/bytealg.abigen_runtime_cmpstring"], unfollowed := true, recurses := true, apart := false, narrowed := true }
def NameMakesUptoSaid : Prop := nameMakesUptoRow.holds Try.pinned (OpenSpec.upto nameMakesSpec)

/-- 'guidepostlaw01.NameLongest', WHERE WHAT IT READS IS OF BULK AT MOST 1048576: true; the input reads as it did. -/
def nameLongestUptoRow : OpenClaim := { program := "ytlikkpeaepankaa", sum := "1defdaee3e1bfce2b47c8e2800b1ce2ef3555a0f863b375fa486c9e0252692b1", func := "guidepost/guidepostlaw01.NameLongest", spec := "nameLongest", inPlace := ["internal/abi.NoEscape", "internal/bytealg.abigen_runtime_cmpstring"], unfollowed := true, recurses := true, apart := false, narrowed := true }
def NameLongestUptoSaid : Prop := nameLongestUptoRow.holds Try.pinned (OpenSpec.upto nameLongestSpec)

/-- 'guidepostlaw01.NameHolds', WHERE WHAT IT READS IS OF BULK AT MOST 1048576: true; the input reads as it did. -/
def nameHoldsUptoRow : OpenClaim := { program := "ytlikkpeaepankaa", sum := "1defdaee3e1bfce2b47c8e2800b1ce2ef3555a0f863b375fa486c9e0252692b1", func := "guidepost/guidepostlaw01.NameHolds", spec := "nameHolds", inPlace := ["internal/abi.NoEscape", "internal/bytealg.abigen_runtime_cmpstring"], unfollowed := true, recurses := true, apart := false, narrowed := true }
def NameHoldsUptoSaid : Prop := nameHoldsUptoRow.holds Try.pinned (OpenSpec.upto nameHoldsSpec)

/-- 'guidepostlaw01.NameJoins', WHERE WHAT IT READS IS OF BULK AT MOST 1048576: true; the input reads as it did. -/
def nameJoinsUptoRow : OpenClaim := { program := "ytlikkpeaepankaa", sum := "1defdaee3e1bfce2b47c8e2800b1ce2ef3555a0f863b375fa486c9e0252692b1", func := "guidepost/guidepostlaw01.NameJoins", spec := "nameJoins", inPlace := ["internal/abi.NoEscape", "internal/bytealg.abigen_runtime_cmpstring"], unfollowed := true, recurses := true, apart := false, narrowed := true }
def NameJoinsUptoSaid : Prop := nameJoinsUptoRow.holds Try.pinned (OpenSpec.upto nameJoinsSpec)

/-- 'guidepostlaw01.NameTexts', WHERE WHAT IT READS IS OF BULK AT MOST 1048576: true; the input reads as it did. -/
def nameTextsUptoRow : OpenClaim := { program := "ytlikkpeaepankaa", sum := "1defdaee3e1bfce2b47c8e2800b1ce2ef3555a0f863b375fa486c9e0252692b1", func := "guidepost/guidepostlaw01.NameTexts", spec := "nameTexts", inPlace := ["internal/abi.NoEscape", "internal/bytealg.abigen_runtime_cmpstring"], unfollowed := true, recurses := true, apart := false, narrowed := true }
def NameTextsUptoSaid : Prop := nameTextsUptoRow.holds Try.pinned (OpenSpec.upto nameTextsSpec)

/-- 'guidepostlaw01.NameBack', WHERE WHAT IT READS IS OF BULK AT MOST 1048576: true; the input reads as it did. -/
def nameBackUptoRow : OpenClaim := { program := "ytlikkpeaepankaa", sum := "1defdaee3e1bfce2b47c8e2800b1ce2ef3555a0f863b375fa486c9e0252692b1", func := "guidepost/guidepostlaw01.NameBack", spec := "nameBack", inPlace := ["internal/abi.NoEscape", "internal/bytealg.abigen_runtime_cmpstring"], unfollowed := true, recurses := true, apart := false, narrowed := true }
def NameBackUptoSaid : Prop := nameBackUptoRow.holds Try.pinned (OpenSpec.upto nameBackSpec)

/-- 'guidepostlaw01.NameUnder', WHERE WHAT IT READS IS OF BULK AT MOST 1048576: true; the input reads as it did. -/
def nameUnderUptoRow : OpenClaim := { program := "ytlikkpeaepankaa", sum := "1defdaee3e1bfce2b47c8e2800b1ce2ef3555a0f863b375fa486c9e0252692b1", func := "guidepost/guidepostlaw01.NameUnder", spec := "nameUnder", inPlace := ["internal/abi.NoEscape", "internal/bytealg.abigen_runtime_cmpstring"], unfollowed := true, recurses := true, apart := false, narrowed := true }
def NameUnderUptoSaid : Prop := nameUnderUptoRow.holds Try.pinned (OpenSpec.upto nameUnderSpec)

end Rows
end Go.Proofs.Ytlikkpeaepankaa
