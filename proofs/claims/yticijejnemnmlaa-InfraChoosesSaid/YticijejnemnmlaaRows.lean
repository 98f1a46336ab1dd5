/-
  No cell of these rows narrows 'for every input' (looked for: loops, veiled, ifaces, maps, wideKeys, modest, calm, conditions, laid).
  DERIVED. THE GIVEN ROWS OF THIS SEAT. 3 by the template 'for every input the law returns true; each argument reads behind the call as it read before'; 0 by the template 'total and deterministic' (their statements: YticijejnemnmlaaTotals.lean).
  GIVEN WITH THE SEED: the statements are not yours to turn. If you find one false, say at which input.
  Laid BY PROGRAM, IN A SANDBOX (cutbox-rows.mjs): the forced cells as the released guide's own fill.sh prints them over the translation 16c48d82fdff1860… (all of the seat's roots in one cut). By AI agents, Wed Nov 11 2026. No macro, syntax, notation, axiom, sorry.
-/
import Derived.Test.YticijejnemnmlaaChecked
import GoSem.Claim
import GoSem.ClaimJoined
import GoSem.ClaimMapViews
import Derived.JoinedTies
import Derived.KernelRfl
namespace Go.Proofs.Yticijejnemnmlaa
/- THE CELL 'sum', in the pinned program and in every row, IS THE sha256 OF THE DUMP (.gsa) THAT YticijejnemnmlaaProg.lean LOADS. Nothing in Lean hashes anything: it is a label: what it is worth is what the hold of that sum in a sandbox is worth. -/
noncomputable def Try.pinned : Pinned := { name := "yticijejnemnmlaa", sum := "16c48d82fdff1860834b45880909bc05bc830d5ed26415bbecf9f852bd7e79e7", checked := Try.checked }
namespace Rows
def none {H : Type} : Left H := { results := [], args := [] }

/-- 'guidepostlaw18.InfraChooses': WHATEVER THE INPUT: true; the input reads as it did. -/
def infraChoosesSpec : ChangeSpec := { name := "infraChooses", fn := fun _ => fun
  | [d1, d2, d3, d4, d5] => { results := [.lit (.bool true)], args := [d1, d2, d3, d4, d5] }
  | _ => none }
def infraChoosesRow : OpenClaim := { program := "yticijejnemnmlaa", sum := "16c48d82fdff1860834b45880909bc05bc830d5ed26415bbecf9f852bd7e79e7", func := "guidepost/guidepostlaw18.InfraChooses", spec := "infraChooses", unfollowed := true, recurses := true, plainKeys := false, apart := false }
def InfraChoosesSaid : Prop := infraChoosesRow.holds Try.pinned (OpenSpec.ofChange infraChoosesSpec)

/-- ITS FALSE NEIGHBOUR: 'it returns false'. Refute it at one input. -/
def infraChoosesWrong : ChangeSpec := { name := "infraChooses", fn := fun _ => fun
  | [d1, d2, d3, d4, d5] => { results := [.lit (.bool false)], args := [d1, d2, d3, d4, d5] }
  | _ => none }
def InfraChoosesWrongFalsely : Prop := infraChoosesRow.holds Try.pinned (OpenSpec.ofChange infraChoosesWrong)

/-- 'guidepostlaw18.InfraApart': WHATEVER THE INPUT: true; the input reads as it did. -/
def infraApartSpec : ChangeSpec := { name := "infraApart", fn := fun _ => fun
  | [d1, d2, d3, d4] => { results := [.lit (.bool true)], args := [d1, d2, d3, d4] }
  | _ => none }
def infraApartRow : OpenClaim := { program := "yticijejnemnmlaa", sum := "16c48d82fdff1860834b45880909bc05bc830d5ed26415bbecf9f852bd7e79e7", func := "guidepost/guidepostlaw18.InfraApart", spec := "infraApart", unfollowed := true, recurses := true, plainKeys := false, apart := false }
def InfraApartSaid : Prop := infraApartRow.holds Try.pinned (OpenSpec.ofChange infraApartSpec)

/-- ITS FALSE NEIGHBOUR: 'it returns false'. Refute it at one input. -/
def infraApartWrong : ChangeSpec := { name := "infraApart", fn := fun _ => fun
  | [d1, d2, d3, d4] => { results := [.lit (.bool false)], args := [d1, d2, d3, d4] }
  | _ => none }
def InfraApartWrongFalsely : Prop := infraApartRow.holds Try.pinned (OpenSpec.ofChange infraApartWrong)

/-- 'guidepostlaw18.InfraLasts': WHATEVER THE INPUT: true; the input reads as it did. -/
def infraLastsSpec : ChangeSpec := { name := "infraLasts", fn := fun _ => fun
  | [d1, d2, d3, d4, d5, d6] => { results := [.lit (.bool true)], args := [d1, d2, d3, d4, d5, d6] }
  | _ => none }
def infraLastsRow : OpenClaim := { program := "yticijejnemnmlaa", sum := "16c48d82fdff1860834b45880909bc05bc830d5ed26415bbecf9f852bd7e79e7", func := "guidepost/guidepostlaw18.InfraLasts", spec := "infraLasts", unfollowed := true, recurses := true, plainKeys := false, apart := false }
def InfraLastsSaid : Prop := infraLastsRow.holds Try.pinned (OpenSpec.ofChange infraLastsSpec)

/-- ITS FALSE NEIGHBOUR: 'it returns false'. Refute it at one input. -/
def infraLastsWrong : ChangeSpec := { name := "infraLasts", fn := fun _ => fun
  | [d1, d2, d3, d4, d5, d6] => { results := [.lit (.bool false)], args := [d1, d2, d3, d4, d5, d6] }
  | _ => none }
def InfraLastsWrongFalsely : Prop := infraLastsRow.holds Try.pinned (OpenSpec.ofChange infraLastsWrong)

/- THE SECOND FORM. 'bulk': how many values and letters a reading holds, each counted each time it is reached (what is shared counts as often as it is met; a slice's spare places count too). A statement '..UptoSaid' is the law's where the arguments, and the package variables that the reading takes, are together of bulk at most 1048576: NARROWER than '..Said'. Prove '..Said' where nothing that the law and all that it calls make is longer than what came in: it says more and counts as full. Else prove '..UptoSaid'. A law counts once. -/
mutual
def uptoBulk {H : Type} : DataW H → Nat
  | .lit (.string bytes) => bytes.length + 1
  | .lit _ => 1
  | .nil => 1
  | .ptr d => uptoBulk d + 1
  | .slice elems spare => uptoBulkAll elems + uptoBulkAll spare + 1
  | .agg parts => uptoBulkAll parts + 1
  | .iface _ d => uptoBulk d + 1
  | .map entries => uptoBulkEntries entries + 1
  | .held _ => 1
def uptoBulkAll {H : Type} : List (DataW H) → Nat
  | [] => 0
  | d :: r => uptoBulk d + uptoBulkAll r
def uptoBulkEntries {H : Type} : List (Lit × DataW H) → Nat
  | [] => 0
  | x :: r => uptoBulkEntry x + uptoBulkEntries r
def uptoBulkEntry {H : Type} : Lit × DataW H → Nat
  | (.string bytes, d) => bytes.length + uptoBulk d + 1
  | (_, d) => uptoBulk d + 1
 end
def uptoSmall : (H : Type) → List (DataW H) → Bool := fun _ ds => decide (uptoBulkAll ds ≤ 1048576)
def OpenSpec.upto (s : _root_.Go.ChangeSpec) : _root_.Go.OpenSpec := { _root_.Go.OpenSpec.ofChange s with cond := some uptoSmall }

/-- 'guidepostlaw18.InfraChooses', WHERE WHAT IT READS IS OF BULK AT MOST 1048576: true; the input reads as it did. -/
def infraChoosesUptoRow : OpenClaim := { program := "yticijejnemnmlaa", sum := "16c48d82fdff1860834b45880909bc05bc830d5ed26415bbecf9f852bd7e79e7", func := "guidepost/guidepostlaw18.InfraChooses", spec := "infraChooses", unfollowed := true, recurses := true, plainKeys := false, apart := false, narrowed := true }
def InfraChoosesUptoSaid : Prop := infraChoosesUptoRow.holds Try.pinned (OpenSpec.upto infraChoosesSpec)

/-- 'guidepostlaw18.InfraApart', WHERE WHAT IT READS IS OF BULK AT MOST 1048576: true; the input reads as it did. -/
def infraApartUptoRow : OpenClaim := { program := "yticijejnemnmlaa", sum := "16c48d82fdff1860834b45880909bc05bc830d5ed26415bbecf9f852bd7e79e7", func := "guidepost/guidepostlaw18.InfraApart", spec := "infraApart", unfollowed := true, recurses := true, plainKeys := false, apart := false, narrowed := true }
def InfraApartUptoSaid : Prop := infraApartUptoRow.holds Try.pinned (OpenSpec.upto infraApartSpec)

/-- 'guidepostlaw18.InfraLasts', WHERE WHAT IT READS IS OF BULK AT MOST 1048576: true; the input reads as it did. -/
def infraLastsUptoRow : OpenClaim := { program := "yticijejnemnmlaa", sum := "16c48d82fdff1860834b45880909bc05bc830d5ed26415bbecf9f852bd7e79e7", func := "guidepost/guidepostlaw18.InfraLasts", spec := "infraLasts", unfollowed := true, recurses := true, plainKeys := false, apart := false, narrowed := true }
def InfraLastsUptoSaid : Prop := infraLastsUptoRow.holds Try.pinned (OpenSpec.upto infraLastsSpec)

end Rows
end Go.Proofs.Yticijejnemnmlaa
