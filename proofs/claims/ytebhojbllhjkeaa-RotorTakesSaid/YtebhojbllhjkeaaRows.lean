/-
  No cell of these rows narrows 'for every input' (looked for: loops, veiled, ifaces, maps, wideKeys, modest, calm, conditions, laid).
  DERIVED. THE GIVEN ROWS OF THIS SEAT. 8 by the template 'for every input the law returns true; each argument reads behind the call as it read before'; 0 by the template 'total and deterministic' (their statements: YtebhojbllhjkeaaTotals.lean).
  GIVEN WITH THE SEED: the statements are not yours to turn. If you find one false, say at which input.
  Laid BY PROGRAM, IN A SANDBOX (cutbox-rows.mjs): the forced cells as the released guide's own fill.sh prints them over the translation f61a9401d2bb0854… (all of the seat's roots in one cut). By AI agents, Wed Nov 11 2026. No macro, syntax, notation, axiom, sorry.
-/
import Derived.Test.YtebhojbllhjkeaaChecked
import GoSem.Claim
import GoSem.ClaimJoined
import GoSem.ClaimMapViews
import Derived.JoinedTies
import Derived.KernelRfl
namespace Go.Proofs.Ytebhojbllhjkeaa
/- THE CELL 'sum', in the pinned program and in every row, IS THE sha256 OF THE DUMP (.gsa) THAT YtebhojbllhjkeaaProg.lean LOADS. Nothing in Lean hashes anything: it is a label: what it is worth is what the hold of that sum in a sandbox is worth. -/
noncomputable def Try.pinned : Pinned := { name := "ytebhojbllhjkeaa", sum := "f61a9401d2bb0854d9d8cb6326ef57d021391afe504bb917ee59b8b87a0c83f8", checked := Try.checked }
namespace Rows
def none {H : Type} : Left H := { results := [], args := [] }

/-- 'bellropelaw02.WordRounds': WHATEVER THE INPUT: true; the input reads as it did. -/
def wordRoundsSpec : ChangeSpec := { name := "wordRounds", fn := fun _ => fun
  | [d1, d2, d3] => { results := [.lit (.bool true)], args := [d1, d2, d3] }
  | _ => none }
def wordRoundsRow : OpenClaim := { program := "ytebhojbllhjkeaa", sum := "f61a9401d2bb0854d9d8cb6326ef57d021391afe504bb917ee59b8b87a0c83f8", func := "bellrope/bellropelaw02.WordRounds", spec := "wordRounds", unfollowed := true, recurses := true, apart := false }
def WordRoundsSaid : Prop := wordRoundsRow.holds Try.pinned (OpenSpec.ofChange wordRoundsSpec)

/-- ITS FALSE NEIGHBOUR: 'it returns false'. Refute it at one input. -/
def wordRoundsWrong : ChangeSpec := { name := "wordRounds", fn := fun _ => fun
  | [d1, d2, d3] => { results := [.lit (.bool false)], args := [d1, d2, d3] }
  | _ => none }
def WordRoundsWrongFalsely : Prop := wordRoundsRow.holds Try.pinned (OpenSpec.ofChange wordRoundsWrong)

/-- 'bellropelaw08.NestPlays': WHATEVER THE INPUT: true; the input reads as it did. -/
def nestPlaysSpec : ChangeSpec := { name := "nestPlays", fn := fun _ => fun
  | [d] => { results := [.lit (.bool true)], args := [d] }
  | _ => none }
def nestPlaysRow : OpenClaim := { program := "ytebhojbllhjkeaa", sum := "f61a9401d2bb0854d9d8cb6326ef57d021391afe504bb917ee59b8b87a0c83f8", func := "bellrope/bellropelaw08.NestPlays", spec := "nestPlays", unfollowed := true, recurses := true, apart := false }
def NestPlaysSaid : Prop := nestPlaysRow.holds Try.pinned (OpenSpec.ofChange nestPlaysSpec)

/-- ITS FALSE NEIGHBOUR: 'it returns false'. Refute it at one input. -/
def nestPlaysWrong : ChangeSpec := { name := "nestPlays", fn := fun _ => fun
  | [d] => { results := [.lit (.bool false)], args := [d] }
  | _ => none }
def NestPlaysWrongFalsely : Prop := nestPlaysRow.holds Try.pinned (OpenSpec.ofChange nestPlaysWrong)

/-- 'bellropelaw08.NestRises': WHATEVER THE INPUT: true; the input reads as it did. -/
def nestRisesSpec : ChangeSpec := { name := "nestRises", fn := fun _ => fun
  | [d] => { results := [.lit (.bool true)], args := [d] }
  | _ => none }
def nestRisesRow : OpenClaim := { program := "ytebhojbllhjkeaa", sum := "f61a9401d2bb0854d9d8cb6326ef57d021391afe504bb917ee59b8b87a0c83f8", func := "bellrope/bellropelaw08.NestRises", spec := "nestRises", unfollowed := true, recurses := true, apart := false }
def NestRisesSaid : Prop := nestRisesRow.holds Try.pinned (OpenSpec.ofChange nestRisesSpec)

/-- ITS FALSE NEIGHBOUR: 'it returns false'. Refute it at one input. -/
def nestRisesWrong : ChangeSpec := { name := "nestRises", fn := fun _ => fun
  | [d] => { results := [.lit (.bool false)], args := [d] }
  | _ => none }
def NestRisesWrongFalsely : Prop := nestRisesRow.holds Try.pinned (OpenSpec.ofChange nestRisesWrong)

/-- 'bellropelaw04.GaussReckons': WHATEVER THE INPUT: true; the input reads as it did. -/
def gaussReckonsSpec : ChangeSpec := { name := "gaussReckons", fn := fun _ => fun
  | [d1, d2, d3, d4] => { results := [.lit (.bool true)], args := [d1, d2, d3, d4] }
  | _ => none }
def gaussReckonsRow : OpenClaim := { program := "ytebhojbllhjkeaa", sum := "f61a9401d2bb0854d9d8cb6326ef57d021391afe504bb917ee59b8b87a0c83f8", func := "bellrope/bellropelaw04.GaussReckons", spec := "gaussReckons", unfollowed := true, recurses := true, apart := false }
def GaussReckonsSaid : Prop := gaussReckonsRow.holds Try.pinned (OpenSpec.ofChange gaussReckonsSpec)

/-- ITS FALSE NEIGHBOUR: 'it returns false'. Refute it at one input. -/
def gaussReckonsWrong : ChangeSpec := { name := "gaussReckons", fn := fun _ => fun
  | [d1, d2, d3, d4] => { results := [.lit (.bool false)], args := [d1, d2, d3, d4] }
  | _ => none }
def GaussReckonsWrongFalsely : Prop := gaussReckonsRow.holds Try.pinned (OpenSpec.ofChange gaussReckonsWrong)

/-- 'bellropelaw04.GaussLaws': WHATEVER THE INPUT: true; the input reads as it did. -/
def gaussLawsSpec : ChangeSpec := { name := "gaussLaws", fn := fun _ => fun
  | [d1, d2, d3] => { results := [.lit (.bool true)], args := [d1, d2, d3] }
  | _ => none }
def gaussLawsRow : OpenClaim := { program := "ytebhojbllhjkeaa", sum := "f61a9401d2bb0854d9d8cb6326ef57d021391afe504bb917ee59b8b87a0c83f8", func := "bellrope/bellropelaw04.GaussLaws", spec := "gaussLaws", unfollowed := true, recurses := true, apart := false }
def GaussLawsSaid : Prop := gaussLawsRow.holds Try.pinned (OpenSpec.ofChange gaussLawsSpec)

/-- ITS FALSE NEIGHBOUR: 'it returns false'. Refute it at one input. -/
def gaussLawsWrong : ChangeSpec := { name := "gaussLaws", fn := fun _ => fun
  | [d1, d2, d3] => { results := [.lit (.bool false)], args := [d1, d2, d3] }
  | _ => none }
def GaussLawsWrongFalsely : Prop := gaussLawsRow.holds Try.pinned (OpenSpec.ofChange gaussLawsWrong)

/-- 'bellropelaw05.RotorTakes': WHATEVER THE INPUT: true; the input reads as it did. -/
def rotorTakesSpec : ChangeSpec := { name := "rotorTakes", fn := fun _ => fun
  | [d1, d2, d3, d4] => { results := [.lit (.bool true)], args := [d1, d2, d3, d4] }
  | _ => none }
def rotorTakesRow : OpenClaim := { program := "ytebhojbllhjkeaa", sum := "f61a9401d2bb0854d9d8cb6326ef57d021391afe504bb917ee59b8b87a0c83f8", func := "bellrope/bellropelaw05.RotorTakes", spec := "rotorTakes", unfollowed := true, recurses := true, apart := false }
def RotorTakesSaid : Prop := rotorTakesRow.holds Try.pinned (OpenSpec.ofChange rotorTakesSpec)

/-- ITS FALSE NEIGHBOUR: 'it returns false'. Refute it at one input. -/
def rotorTakesWrong : ChangeSpec := { name := "rotorTakes", fn := fun _ => fun
  | [d1, d2, d3, d4] => { results := [.lit (.bool false)], args := [d1, d2, d3, d4] }
  | _ => none }
def RotorTakesWrongFalsely : Prop := rotorTakesRow.holds Try.pinned (OpenSpec.ofChange rotorTakesWrong)

/-- 'bellropelaw05.RotorTurns': WHATEVER THE INPUT: true; the input reads as it did. -/
def rotorTurnsSpec : ChangeSpec := { name := "rotorTurns", fn := fun _ => fun
  | [d1, d2] => { results := [.lit (.bool true)], args := [d1, d2] }
  | _ => none }
def rotorTurnsRow : OpenClaim := { program := "ytebhojbllhjkeaa", sum := "f61a9401d2bb0854d9d8cb6326ef57d021391afe504bb917ee59b8b87a0c83f8", func := "bellrope/bellropelaw05.RotorTurns", spec := "rotorTurns", unfollowed := true, recurses := true, apart := false }
def RotorTurnsSaid : Prop := rotorTurnsRow.holds Try.pinned (OpenSpec.ofChange rotorTurnsSpec)

/-- ITS FALSE NEIGHBOUR: 'it returns false'. Refute it at one input. -/
def rotorTurnsWrong : ChangeSpec := { name := "rotorTurns", fn := fun _ => fun
  | [d1, d2] => { results := [.lit (.bool false)], args := [d1, d2] }
  | _ => none }
def RotorTurnsWrongFalsely : Prop := rotorTurnsRow.holds Try.pinned (OpenSpec.ofChange rotorTurnsWrong)

/-- 'bellropelaw05.RotorLaws': WHATEVER THE INPUT: true; the input reads as it did. -/
def rotorLawsSpec : ChangeSpec := { name := "rotorLaws", fn := fun _ => fun
  | [d1, d2, d3] => { results := [.lit (.bool true)], args := [d1, d2, d3] }
  | _ => none }
def rotorLawsRow : OpenClaim := { program := "ytebhojbllhjkeaa", sum := "f61a9401d2bb0854d9d8cb6326ef57d021391afe504bb917ee59b8b87a0c83f8", func := "bellrope/bellropelaw05.RotorLaws", spec := "rotorLaws", unfollowed := true, recurses := true, apart := false }
def RotorLawsSaid : Prop := rotorLawsRow.holds Try.pinned (OpenSpec.ofChange rotorLawsSpec)

/-- ITS FALSE NEIGHBOUR: 'it returns false'. Refute it at one input. -/
def rotorLawsWrong : ChangeSpec := { name := "rotorLaws", fn := fun _ => fun
  | [d1, d2, d3] => { results := [.lit (.bool false)], args := [d1, d2, d3] }
  | _ => none }
def RotorLawsWrongFalsely : Prop := rotorLawsRow.holds Try.pinned (OpenSpec.ofChange rotorLawsWrong)

/- THE SECOND FORM. 'bulk': how many values and letters a reading holds, each counted each time it is reached (what is shared counts as often as it is met; a slice's spare places count too). A statement '..UptoSaid' is the law's where the arguments, and the package variables that the reading takes, are together of bulk at most 1048576: NARROWER than '..Said'. Prove '..Said' where nothing that the law and all that it calls make is longer than what came in: it says more and counts as full. Else prove '..UptoSaid'. A law counts once. -/
mutual
def uptoBulk {H : Type} : DataW H → Nat
  | .lit (.string bytes) => bytes.length + 1
  | .lit _ => 1
  | .nil => 1
  | .ptr d => uptoBulk d + 1
  | .slice elems spare => uptoBulkAll elems + uptoBulkAll spare + 1
  | .agg parts => uptoBulkAll parts + 1
  | .iface _ d => uptoBulk d + 1
  | .map entries => uptoBulkEntries entries + 1
  | .held _ => 1
def uptoBulkAll {H : Type} : List (DataW H) → Nat
  | [] => 0
  | d :: r => uptoBulk d + uptoBulkAll r
def uptoBulkEntries {H : Type} : List (Lit × DataW H) → Nat
  | [] => 0
  | x :: r => uptoBulkEntry x + uptoBulkEntries r
def uptoBulkEntry {H : Type} : Lit × DataW H → Nat
  | (.string bytes, d) => bytes.length + uptoBulk d + 1
  | (_, d) => uptoBulk d + 1
 end
def uptoSmall : (H : Type) → List (DataW H) → Bool := fun _ ds => decide (uptoBulkAll ds ≤ 1048576)
def OpenSpec.upto (s : _root_.Go.ChangeSpec) : _root_.Go.OpenSpec := { _root_.Go.OpenSpec.ofChange s with cond := some uptoSmall }

/-- 'bellropelaw02.WordRounds', WHERE WHAT IT READS IS OF BULK AT MOST 1048576: true; the input reads as it did. -/
def wordRoundsUptoRow : OpenClaim := { program := "ytebhojbllhjkeaa", sum := "f61a9401d2bb0854d9d8cb6326ef57d021391afe504bb917ee59b8b87a0c83f8", func := "bellrope/bellropelaw02.WordRounds", spec := "wordRounds", unfollowed := true, recurses := true, apart := false, narrowed := true }
def WordRoundsUptoSaid : Prop := wordRoundsUptoRow.holds Try.pinned (OpenSpec.upto wordRoundsSpec)

/-- 'bellropelaw08.NestPlays', WHERE WHAT IT READS IS OF BULK AT MOST 1048576: true; the input reads as it did. -/
def nestPlaysUptoRow : OpenClaim := { program := "ytebhojbllhjkeaa", sum := "f61a9401d2bb0854d9d8cb6326ef57d021391afe504bb917ee59b8b87a0c83f8", func := "bellrope/bellropelaw08.NestPlays", spec := "nestPlays", unfollowed := true, recurses := true, apart := false, narrowed := true }
def NestPlaysUptoSaid : Prop := nestPlaysUptoRow.holds Try.pinned (OpenSpec.upto nestPlaysSpec)

/-- 'bellropelaw08.NestRises', WHERE WHAT IT READS IS OF BULK AT MOST 1048576: true; the input reads as it did. -/
def nestRisesUptoRow : OpenClaim := { program := "ytebhojbllhjkeaa", sum := "f61a9401d2bb0854d9d8cb6326ef57d021391afe504bb917ee59b8b87a0c83f8", func := "bellrope/bellropelaw08.NestRises", spec := "nestRises", unfollowed := true, recurses := true, apart := false, narrowed := true }
def NestRisesUptoSaid : Prop := nestRisesUptoRow.holds Try.pinned (OpenSpec.upto nestRisesSpec)

/-- 'bellropelaw04.GaussReckons', WHERE WHAT IT READS IS OF BULK AT MOST 1048576: true; the input reads as it did. -/
def gaussReckonsUptoRow : OpenClaim := { program := "ytebhojbllhjkeaa", sum := "f61a9401d2bb0854d9d8cb6326ef57d021391afe504bb917ee59b8b87a0c83f8", func := "bellrope/bellropelaw04.GaussReckons", spec := "gaussReckons", unfollowed := true, recurses := true, apart := false, narrowed := true }
def GaussReckonsUptoSaid : Prop := gaussReckonsUptoRow.holds Try.pinned (OpenSpec.upto gaussReckonsSpec)

/-- 'bellropelaw04.GaussLaws', WHERE WHAT IT READS IS OF BULK AT MOST 1048576: true; the input reads as it did. -/
def gaussLawsUptoRow : OpenClaim := { program := "ytebhojbllhjkeaa", sum := "f61a9401d2bb0854d9d8cb6326ef57d021391afe504bb917ee59b8b87a0c83f8", func := "bellrope/bellropelaw04.GaussLaws", spec := "gaussLaws", unfollowed := true, recurses := true, apart := false, narrowed := true }
def GaussLawsUptoSaid : Prop := gaussLawsUptoRow.holds Try.pinned (OpenSpec.upto gaussLawsSpec)

/-- 'bellropelaw05.RotorTakes', WHERE WHAT IT READS IS OF BULK AT MOST 1048576: true; the input reads as it did. -/
def rotorTakesUptoRow : OpenClaim := { program := "ytebhojbllhjkeaa", sum := "f61a9401d2bb0854d9d8cb6326ef57d021391afe504bb917ee59b8b87a0c83f8", func := "bellrope/bellropelaw05.RotorTakes", spec := "rotorTakes", unfollowed := true, recurses := true, apart := false, narrowed := true }
def RotorTakesUptoSaid : Prop := rotorTakesUptoRow.holds Try.pinned (OpenSpec.upto rotorTakesSpec)

/-- 'bellropelaw05.RotorTurns', WHERE WHAT IT READS IS OF BULK AT MOST 1048576: true; the input reads as it did. -/
def rotorTurnsUptoRow : OpenClaim := { program := "ytebhojbllhjkeaa", sum := "f61a9401d2bb0854d9d8cb6326ef57d021391afe504bb917ee59b8b87a0c83f8", func := "bellrope/bellropelaw05.RotorTurns", spec := "rotorTurns", unfollowed := true, recurses := true, apart := false, narrowed := true }
def RotorTurnsUptoSaid : Prop := rotorTurnsUptoRow.holds Try.pinned (OpenSpec.upto rotorTurnsSpec)

/-- 'bellropelaw05.RotorLaws', WHERE WHAT IT READS IS OF BULK AT MOST 1048576: true; the input reads as it did. -/
def rotorLawsUptoRow : OpenClaim := { program := "ytebhojbllhjkeaa", sum := "f61a9401d2bb0854d9d8cb6326ef57d021391afe504bb917ee59b8b87a0c83f8", func := "bellrope/bellropelaw05.RotorLaws", spec := "rotorLaws", unfollowed := true, recurses := true, apart := false, narrowed := true }
def RotorLawsUptoSaid : Prop := rotorLawsUptoRow.holds Try.pinned (OpenSpec.upto rotorLawsSpec)

end Rows
end Go.Proofs.Ytebhojbllhjkeaa
