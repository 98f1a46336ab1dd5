/-
  No cell of these rows narrows 'for every input' (looked for: loops, veiled, ifaces, maps, wideKeys, modest, calm, conditions, laid).
  DERIVED. THE GIVEN ROWS OF THIS SEAT. 10 by the template 'for every input the law returns true; each argument reads behind the call as it read before'; 0 by the template 'total and deterministic' (their statements: YtmgapdbfaoflmaaTotals.lean).
  GIVEN WITH THE SEED: the statements are not yours to turn. If you find one false, say at which input.
  Laid BY PROGRAM, IN A SANDBOX (cutbox-rows.mjs): the forced cells as the released guide's own fill.sh prints them over the translation 0f0d6ae5761d5742… (all of the seat's roots in one cut). By AI agents, Wed Nov 11 2026. No macro, syntax, notation, axiom, sorry.
-/
import Derived.Test.YtmgapdbfaoflmaaChecked
import GoSem.Claim
import GoSem.ClaimJoined
import GoSem.ClaimMapViews
import Derived.JoinedTies
import Derived.KernelRfl
namespace Go.Proofs.Ytmgapdbfaoflmaa
/- THE CELL 'sum', in the pinned program and in every row, IS THE sha256 OF THE DUMP (.gsa) THAT YtmgapdbfaoflmaaProg.lean LOADS. Nothing in Lean hashes anything: it is a label: what it is worth is what the hold of that sum in a sandbox is worth. -/
noncomputable def Try.pinned : Pinned := { name := "ytmgapdbfaoflmaa", sum := "0f0d6ae5761d5742be20bf233201e0e6e073eccd2224921301ef86d4aec46f4a", checked := Try.checked }
namespace Rows
def none {H : Type} : Left H := { results := [], args := [] }

/-- 'guidepostlaw11.TableKeeps': WHATEVER THE INPUT: true; the input reads as it did. -/
def tableKeepsSpec : ChangeSpec := { name := "tableKeeps", fn := fun _ => fun
  | [d1, d2] => { results := [.lit (.bool true)], args := [d1, d2] }
  | _ => none }
def tableKeepsRow : OpenClaim := { program := "ytmgapdbfaoflmaa", sum := "0f0d6ae5761d5742be20bf233201e0e6e073eccd2224921301ef86d4aec46f4a", func := "guidepost/guidepostlaw11.TableKeeps", spec := "tableKeeps", unfollowed := true, recurses := true, apart := false }
def TableKeepsSaid : Prop := tableKeepsRow.holds Try.pinned (OpenSpec.ofChange tableKeepsSpec)

/-- ITS FALSE NEIGHBOUR: 'it returns false'. Refute it at one input. -/
def tableKeepsWrong : ChangeSpec := { name := "tableKeeps", fn := fun _ => fun
  | [d1, d2] => { results := [.lit (.bool false)], args := [d1, d2] }
  | _ => none }
def TableKeepsWrongFalsely : Prop := tableKeepsRow.holds Try.pinned (OpenSpec.ofChange tableKeepsWrong)

/-- 'guidepostlaw11.TablePlays': WHATEVER THE INPUT: true; the input reads as it did. -/
def tablePlaysSpec : ChangeSpec := { name := "tablePlays", fn := fun _ => fun
  | [d1, d2] => { results := [.lit (.bool true)], args := [d1, d2] }
  | _ => none }
def tablePlaysRow : OpenClaim := { program := "ytmgapdbfaoflmaa", sum := "0f0d6ae5761d5742be20bf233201e0e6e073eccd2224921301ef86d4aec46f4a", func := "guidepost/guidepostlaw11.TablePlays", spec := "tablePlays", unfollowed := true, recurses := true, apart := false }
def TablePlaysSaid : Prop := tablePlaysRow.holds Try.pinned (OpenSpec.ofChange tablePlaysSpec)

/-- ITS FALSE NEIGHBOUR: 'it returns false'. Refute it at one input. -/
def tablePlaysWrong : ChangeSpec := { name := "tablePlays", fn := fun _ => fun
  | [d1, d2] => { results := [.lit (.bool false)], args := [d1, d2] }
  | _ => none }
def TablePlaysWrongFalsely : Prop := tablePlaysRow.holds Try.pinned (OpenSpec.ofChange tablePlaysWrong)

/-- 'guidepostlaw11.TableGoes': WHATEVER THE INPUT: true; the input reads as it did. -/
def tableGoesSpec : ChangeSpec := { name := "tableGoes", fn := fun _ => fun
  | [d1, d2, d3] => { results := [.lit (.bool true)], args := [d1, d2, d3] }
  | _ => none }
def tableGoesRow : OpenClaim := { program := "ytmgapdbfaoflmaa", sum := "0f0d6ae5761d5742be20bf233201e0e6e073eccd2224921301ef86d4aec46f4a", func := "guidepost/guidepostlaw11.TableGoes", spec := "tableGoes", unfollowed := true, recurses := true, apart := false }
def TableGoesSaid : Prop := tableGoesRow.holds Try.pinned (OpenSpec.ofChange tableGoesSpec)

/-- ITS FALSE NEIGHBOUR: 'it returns false'. Refute it at one input. -/
def tableGoesWrong : ChangeSpec := { name := "tableGoes", fn := fun _ => fun
  | [d1, d2, d3] => { results := [.lit (.bool false)], args := [d1, d2, d3] }
  | _ => none }
def TableGoesWrongFalsely : Prop := tableGoesRow.holds Try.pinned (OpenSpec.ofChange tableGoesWrong)

/-- 'guidepostlaw12.TimerPlays': WHATEVER THE INPUT: true; the input reads as it did. -/
def timerPlaysSpec : ChangeSpec := { name := "timerPlays", fn := fun _ => fun
  | [d] => { results := [.lit (.bool true)], args := [d] }
  | _ => none }
def timerPlaysRow : OpenClaim := { program := "ytmgapdbfaoflmaa", sum := "0f0d6ae5761d5742be20bf233201e0e6e073eccd2224921301ef86d4aec46f4a", func := "guidepost/guidepostlaw12.TimerPlays", spec := "timerPlays", apart := false }
def TimerPlaysSaid : Prop := timerPlaysRow.holds Try.pinned (OpenSpec.ofChange timerPlaysSpec)

/-- ITS FALSE NEIGHBOUR: 'it returns false'. Refute it at one input. -/
def timerPlaysWrong : ChangeSpec := { name := "timerPlays", fn := fun _ => fun
  | [d] => { results := [.lit (.bool false)], args := [d] }
  | _ => none }
def TimerPlaysWrongFalsely : Prop := timerPlaysRow.holds Try.pinned (OpenSpec.ofChange timerPlaysWrong)

/-- 'guidepostlaw12.RttReckons': WHATEVER THE INPUT: true; the input reads as it did. -/
def rttReckonsSpec : ChangeSpec := { name := "rttReckons", fn := fun _ => fun
  | [d1, d2, d3, d4] => { results := [.lit (.bool true)], args := [d1, d2, d3, d4] }
  | _ => none }
def rttReckonsRow : OpenClaim := { program := "ytmgapdbfaoflmaa", sum := "0f0d6ae5761d5742be20bf233201e0e6e073eccd2224921301ef86d4aec46f4a", func := "guidepost/guidepostlaw12.RttReckons", spec := "rttReckons", apart := false }
def RttReckonsSaid : Prop := rttReckonsRow.holds Try.pinned (OpenSpec.ofChange rttReckonsSpec)

/-- ITS FALSE NEIGHBOUR: 'it returns false'. Refute it at one input. -/
def rttReckonsWrong : ChangeSpec := { name := "rttReckons", fn := fun _ => fun
  | [d1, d2, d3, d4] => { results := [.lit (.bool false)], args := [d1, d2, d3, d4] }
  | _ => none }
def RttReckonsWrongFalsely : Prop := rttReckonsRow.holds Try.pinned (OpenSpec.ofChange rttReckonsWrong)

/-- 'guidepostlaw12.TimerOrder': WHATEVER THE INPUT: true; the input reads as it did. -/
def timerOrderSpec : ChangeSpec := { name := "timerOrder", fn := fun _ => fun
  | [d1, d2] => { results := [.lit (.bool true)], args := [d1, d2] }
  | _ => none }
def timerOrderRow : OpenClaim := { program := "ytmgapdbfaoflmaa", sum := "0f0d6ae5761d5742be20bf233201e0e6e073eccd2224921301ef86d4aec46f4a", func := "guidepost/guidepostlaw12.TimerOrder", spec := "timerOrder", apart := false }
def TimerOrderSaid : Prop := timerOrderRow.holds Try.pinned (OpenSpec.ofChange timerOrderSpec)

/-- ITS FALSE NEIGHBOUR: 'it returns false'. Refute it at one input. -/
def timerOrderWrong : ChangeSpec := { name := "timerOrder", fn := fun _ => fun
  | [d1, d2] => { results := [.lit (.bool false)], args := [d1, d2] }
  | _ => none }
def TimerOrderWrongFalsely : Prop := timerOrderRow.holds Try.pinned (OpenSpec.ofChange timerOrderWrong)

/-- 'guidepostlaw12.RttBounds': WHATEVER THE INPUT: true; the input reads as it did. -/
def rttBoundsSpec : ChangeSpec := { name := "rttBounds", fn := fun _ => fun
  | [d1, d2, d3, d4] => { results := [.lit (.bool true)], args := [d1, d2, d3, d4] }
  | _ => none }
def rttBoundsRow : OpenClaim := { program := "ytmgapdbfaoflmaa", sum := "0f0d6ae5761d5742be20bf233201e0e6e073eccd2224921301ef86d4aec46f4a", func := "guidepost/guidepostlaw12.RttBounds", spec := "rttBounds", apart := false }
def RttBoundsSaid : Prop := rttBoundsRow.holds Try.pinned (OpenSpec.ofChange rttBoundsSpec)

/-- ITS FALSE NEIGHBOUR: 'it returns false'. Refute it at one input. -/
def rttBoundsWrong : ChangeSpec := { name := "rttBounds", fn := fun _ => fun
  | [d1, d2, d3, d4] => { results := [.lit (.bool false)], args := [d1, d2, d3, d4] }
  | _ => none }
def RttBoundsWrongFalsely : Prop := rttBoundsRow.holds Try.pinned (OpenSpec.ofChange rttBoundsWrong)

/-- 'guidepostlaw12.TimerOnce': WHATEVER THE INPUT: true; the input reads as it did. -/
def timerOnceSpec : ChangeSpec := { name := "timerOnce", fn := fun _ => fun
  | [d1, d2, d3] => { results := [.lit (.bool true)], args := [d1, d2, d3] }
  | _ => none }
def timerOnceRow : OpenClaim := { program := "ytmgapdbfaoflmaa", sum := "0f0d6ae5761d5742be20bf233201e0e6e073eccd2224921301ef86d4aec46f4a", func := "guidepost/guidepostlaw12.TimerOnce", spec := "timerOnce", apart := false }
def TimerOnceSaid : Prop := timerOnceRow.holds Try.pinned (OpenSpec.ofChange timerOnceSpec)

/-- ITS FALSE NEIGHBOUR: 'it returns false'. Refute it at one input. -/
def timerOnceWrong : ChangeSpec := { name := "timerOnce", fn := fun _ => fun
  | [d1, d2, d3] => { results := [.lit (.bool false)], args := [d1, d2, d3] }
  | _ => none }
def TimerOnceWrongFalsely : Prop := timerOnceRow.holds Try.pinned (OpenSpec.ofChange timerOnceWrong)

/-- 'guidepostlaw12.DrawsNext': WHATEVER THE INPUT: true; the input reads as it did. -/
def drawsNextSpec : ChangeSpec := { name := "drawsNext", fn := fun _ => fun
  | [d1, d2] => { results := [.lit (.bool true)], args := [d1, d2] }
  | _ => none }
def drawsNextRow : OpenClaim := { program := "ytmgapdbfaoflmaa", sum := "0f0d6ae5761d5742be20bf233201e0e6e073eccd2224921301ef86d4aec46f4a", func := "guidepost/guidepostlaw12.DrawsNext", spec := "drawsNext", apart := false }
def DrawsNextSaid : Prop := drawsNextRow.holds Try.pinned (OpenSpec.ofChange drawsNextSpec)

/-- ITS FALSE NEIGHBOUR: 'it returns false'. Refute it at one input. -/
def drawsNextWrong : ChangeSpec := { name := "drawsNext", fn := fun _ => fun
  | [d1, d2] => { results := [.lit (.bool false)], args := [d1, d2] }
  | _ => none }
def DrawsNextWrongFalsely : Prop := drawsNextRow.holds Try.pinned (OpenSpec.ofChange drawsNextWrong)

/-- 'guidepostlaw12.DrawsApart': WHATEVER THE INPUT: true; the input reads as it did. -/
def drawsApartSpec : ChangeSpec := { name := "drawsApart", fn := fun _ => fun
  | [d1, d2] => { results := [.lit (.bool true)], args := [d1, d2] }
  | _ => none }
def drawsApartRow : OpenClaim := { program := "ytmgapdbfaoflmaa", sum := "0f0d6ae5761d5742be20bf233201e0e6e073eccd2224921301ef86d4aec46f4a", func := "guidepost/guidepostlaw12.DrawsApart", spec := "drawsApart", apart := false }
def DrawsApartSaid : Prop := drawsApartRow.holds Try.pinned (OpenSpec.ofChange drawsApartSpec)

/-- ITS FALSE NEIGHBOUR: 'it returns false'. Refute it at one input. -/
def drawsApartWrong : ChangeSpec := { name := "drawsApart", fn := fun _ => fun
  | [d1, d2] => { results := [.lit (.bool false)], args := [d1, d2] }
  | _ => none }
def DrawsApartWrongFalsely : Prop := drawsApartRow.holds Try.pinned (OpenSpec.ofChange drawsApartWrong)

/- THE SECOND FORM. 'bulk': how many values and letters a reading holds, each counted each time it is reached (what is shared counts as often as it is met; a slice's spare places count too). A statement '..UptoSaid' is the law's where the arguments, and the package variables that the reading takes, are together of bulk at most 1048576: NARROWER than '..Said'. Prove '..Said' where nothing that the law and all that it calls make is longer than what came in: it says more and counts as full. Else prove '..UptoSaid'. A law counts once. -/
mutual
def uptoBulk {H : Type} : DataW H → Nat
  | .lit (.string bytes) => bytes.length + 1
  | .lit _ => 1
  | .nil => 1
  | .ptr d => uptoBulk d + 1
  | .slice elems spare => uptoBulkAll elems + uptoBulkAll spare + 1
  | .agg parts => uptoBulkAll parts + 1
  | .iface _ d => uptoBulk d + 1
  | .map entries => uptoBulkEntries entries + 1
  | .held _ => 1
def uptoBulkAll {H : Type} : List (DataW H) → Nat
  | [] => 0
  | d :: r => uptoBulk d + uptoBulkAll r
def uptoBulkEntries {H : Type} : List (Lit × DataW H) → Nat
  | [] => 0
  | x :: r => uptoBulkEntry x + uptoBulkEntries r
def uptoBulkEntry {H : Type} : Lit × DataW H → Nat
  | (.string bytes, d) => bytes.length + uptoBulk d + 1
  | (_, d) => uptoBulk d + 1
 end
def uptoSmall : (H : Type) → List (DataW H) → Bool := fun _ ds => decide (uptoBulkAll ds ≤ 1048576)
def OpenSpec.upto (s : _root_.Go.ChangeSpec) : _root_.Go.OpenSpec := { _root_.Go.OpenSpec.ofChange s with cond := some uptoSmall }

/-- 'guidepostlaw11.TableKeeps', WHERE WHAT IT READS IS OF BULK AT MOST 1048576: true; the input reads as it did. -/
def tableKeepsUptoRow : OpenClaim := { program := "ytmgapdbfaoflmaa", sum := "0f0d6ae5761d5742be20bf233201e0e6e073eccd2224921301ef86d4aec46f4a", func := "guidepost/guidepostlaw11.TableKeeps", spec := "tableKeeps", unfollowed := true, recurses := true, apart := false, narrowed := true }
def TableKeepsUptoSaid : Prop := tableKeepsUptoRow.holds Try.pinned (OpenSpec.upto tableKeepsSpec)

/-- 'guidepostlaw11.TablePlays', WHERE WHAT IT READS IS OF BULK AT MOST 1048576: true; the input reads as it did. -/
def tablePlaysUptoRow : OpenClaim := { program := "ytmgapdbfaoflmaa", sum := "0f0d6ae5761d5742be20bf233201e0e6e073eccd2224921301ef86d4aec46f4a", func := "guidepost/guidepostlaw11.TablePlays", spec := "tablePlays", unfollowed := true, recurses := true, apart := false, narrowed := true }
def TablePlaysUptoSaid : Prop := tablePlaysUptoRow.holds Try.pinned (OpenSpec.upto tablePlaysSpec)

/-- 'guidepostlaw11.TableGoes', WHERE WHAT IT READS IS OF BULK AT MOST 1048576: true; the input reads as it did. -/
def tableGoesUptoRow : OpenClaim := { program := "ytmgapdbfaoflmaa", sum := "0f0d6ae5761d5742be20bf233201e0e6e073eccd2224921301ef86d4aec46f4a", func := "guidepost/guidepostlaw11.TableGoes", spec := "tableGoes", unfollowed := true, recurses := true, apart := false, narrowed := true }
def TableGoesUptoSaid : Prop := tableGoesUptoRow.holds Try.pinned (OpenSpec.upto tableGoesSpec)

/-- 'guidepostlaw12.TimerPlays', WHERE WHAT IT READS IS OF BULK AT MOST 1048576: true; the input reads as it did. -/
def timerPlaysUptoRow : OpenClaim := { program := "ytmgapdbfaoflmaa", sum := "0f0d6ae5761d5742be20bf233201e0e6e073eccd2224921301ef86d4aec46f4a", func := "guidepost/guidepostlaw12.TimerPlays", spec := "timerPlays", apart := false, narrowed := true }
def TimerPlaysUptoSaid : Prop := timerPlaysUptoRow.holds Try.pinned (OpenSpec.upto timerPlaysSpec)

/-- 'guidepostlaw12.RttReckons', WHERE WHAT IT READS IS OF BULK AT MOST 1048576: true; the input reads as it did. -/
def rttReckonsUptoRow : OpenClaim := { program := "ytmgapdbfaoflmaa", sum := "0f0d6ae5761d5742be20bf233201e0e6e073eccd2224921301ef86d4aec46f4a", func := "guidepost/guidepostlaw12.RttReckons", spec := "rttReckons", apart := false, narrowed := true }
def RttReckonsUptoSaid : Prop := rttReckonsUptoRow.holds Try.pinned (OpenSpec.upto rttReckonsSpec)

/-- 'guidepostlaw12.TimerOrder', WHERE WHAT IT READS IS OF BULK AT MOST 1048576: true; the input reads as it did. -/
def timerOrderUptoRow : OpenClaim := { program := "ytmgapdbfaoflmaa", sum := "0f0d6ae5761d5742be20bf233201e0e6e073eccd2224921301ef86d4aec46f4a", func := "guidepost/guidepostlaw12.TimerOrder", spec := "timerOrder", apart := false, narrowed := true }
def TimerOrderUptoSaid : Prop := timerOrderUptoRow.holds Try.pinned (OpenSpec.upto timerOrderSpec)

/-- 'guidepostlaw12.RttBounds', WHERE WHAT IT READS IS OF BULK AT MOST 1048576: true; the input reads as it did. -/
def rttBoundsUptoRow : OpenClaim := { program := "ytmgapdbfaoflmaa", sum := "0f0d6ae5761d5742be20bf233201e0e6e073eccd2224921301ef86d4aec46f4a", func := "guidepost/guidepostlaw12.RttBounds", spec := "rttBounds", apart := false, narrowed := true }
def RttBoundsUptoSaid : Prop := rttBoundsUptoRow.holds Try.pinned (OpenSpec.upto rttBoundsSpec)

/-- 'guidepostlaw12.TimerOnce', WHERE WHAT IT READS IS OF BULK AT MOST 1048576: true; the input reads as it did. -/
def timerOnceUptoRow : OpenClaim := { program := "ytmgapdbfaoflmaa", sum := "0f0d6ae5761d5742be20bf233201e0e6e073eccd2224921301ef86d4aec46f4a", func := "guidepost/guidepostlaw12.TimerOnce", spec := "timerOnce", apart := false, narrowed := true }
def TimerOnceUptoSaid : Prop := timerOnceUptoRow.holds Try.pinned (OpenSpec.upto timerOnceSpec)

/-- 'guidepostlaw12.DrawsNext', WHERE WHAT IT READS IS OF BULK AT MOST 1048576: true; the input reads as it did. -/
def drawsNextUptoRow : OpenClaim := { program := "ytmgapdbfaoflmaa", sum := "0f0d6ae5761d5742be20bf233201e0e6e073eccd2224921301ef86d4aec46f4a", func := "guidepost/guidepostlaw12.DrawsNext", spec := "drawsNext", apart := false, narrowed := true }
def DrawsNextUptoSaid : Prop := drawsNextUptoRow.holds Try.pinned (OpenSpec.upto drawsNextSpec)

/-- 'guidepostlaw12.DrawsApart', WHERE WHAT IT READS IS OF BULK AT MOST 1048576: true; the input reads as it did. -/
def drawsApartUptoRow : OpenClaim := { program := "ytmgapdbfaoflmaa", sum := "0f0d6ae5761d5742be20bf233201e0e6e073eccd2224921301ef86d4aec46f4a", func := "guidepost/guidepostlaw12.DrawsApart", spec := "drawsApart", apart := false, narrowed := true }
def DrawsApartUptoSaid : Prop := drawsApartUptoRow.holds Try.pinned (OpenSpec.upto drawsApartSpec)

end Rows
end Go.Proofs.Ytmgapdbfaoflmaa
