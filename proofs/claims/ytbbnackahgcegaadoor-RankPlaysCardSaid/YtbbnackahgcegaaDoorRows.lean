/-
  NARROWER THAN 'FOR EVERY INPUT', by the rows' own cells (each row's printed sentence says how): PendHighest: laid · PendPlays: laid · TaskLast: laid · TaskEnds: laid · RankPlays: laid · RankRows: laid · RankTurns: laid · GateHighest: laid · GateNil: laid.
  DERIVED. THE GIVEN ROWS OF THIS SEAT. 9 by the template 'for every input the law returns true; each argument reads behind the call as it read before'; 0 by the template 'total and deterministic' (their statements: YtbbnackahgcegaaDoorTotals.lean).
  GIVEN WITH THE SEED: the statements are not yours to turn. If you find one false, say at which input.
  Laid BY PROGRAM, IN A SANDBOX (cutbox-rows.mjs): the forced cells as the released guide's own fill.sh prints them over the translation 8346e7f8a70669e0… (all of the seat's roots in one cut). By AI agents, Wed Nov 11 2026. No macro, syntax, notation, axiom, sorry.
-/
import Derived.Test.YtbbnackahgcegaaDoorChecked
import GoSem.Claim
import GoSem.ClaimJoined
import GoSem.ClaimMapViews
import Derived.JoinedTies
import Derived.KernelRfl
namespace Go.Proofs.YtbbnackahgcegaaDoor
/- THE CELL 'sum', in the pinned program and in every row, IS THE sha256 OF THE DUMP (.gsa) THAT YtbbnackahgcegaaDoorProg.lean LOADS. Nothing in Lean hashes anything: it is a label: what it is worth is what the hold of that sum in a sandbox is worth. -/
noncomputable def Tryd.pinned : Pinned := { name := "ytbbnackahgcegaadoor", sum := "8346e7f8a70669e0e3ca9920bb44bec320130f0429fb8a0b1a250681e63ab021", checked := Tryd.checked }
namespace Rows
def none {H : Type} : Left H := { results := [], args := [] }

/- WHAT THE LISTED PACKAGE-LEVEL VARIABLES READ AS WHEN THE CALL BEGINS. Each datum BY PROGRAM (the guide's laid-datum.mjs) off the statement by which the dump's own 'gosem.cut.vars' lays the variable. In a bare row this is a premise. The card (YtbbnackahgcegaaDoorCards.lean) ties it to the program's text. -/
def laid_math_bits_deBruijn32tab {H : Type} : DataW H := .agg [.lit (.int .u8 0), .lit (.int .u8 1), .lit (.int .u8 28), .lit (.int .u8 2), .lit (.int .u8 29), .lit (.int .u8 14), .lit (.int .u8 24), .lit (.int .u8 3), .lit (.int .u8 30), .lit (.int .u8 22), .lit (.int .u8 20), .lit (.int .u8 15), .lit (.int .u8 25), .lit (.int .u8 17), .lit (.int .u8 4), .lit (.int .u8 8), .lit (.int .u8 31), .lit (.int .u8 27), .lit (.int .u8 13), .lit (.int .u8 23), .lit (.int .u8 21), .lit (.int .u8 19), .lit (.int .u8 16), .lit (.int .u8 7), .lit (.int .u8 26), .lit (.int .u8 12), .lit (.int .u8 18), .lit (.int .u8 6), .lit (.int .u8 11), .lit (.int .u8 5), .lit (.int .u8 10), .lit (.int .u8 9)]

/-- 'bellropelaw07.PendHighest': WHATEVER THE INPUT: true; the input reads as it did. -/
def pendHighestSpec : ChangeSpec := { name := "pendHighest", fn := fun _ => fun
  | [d] => { results := [.lit (.bool true)], args := [d] }
  | _ => none }
def pendHighestRow : OpenClaim := { program := "ytbbnackahgcegaadoor", sum := "8346e7f8a70669e0e3ca9920bb44bec320130f0429fb8a0b1a250681e63ab021", func := "bellrope/bellropelaw07.PendHighest", spec := "pendHighest", unfollowed := true, recurses := true, named := ["math/bits.deBruijn32tab"], apart := false, laid := [("math/bits.deBruijn32tab", laid_math_bits_deBruijn32tab)] }
def PendHighestSaid : Prop := pendHighestRow.holds Tryd.pinned (OpenSpec.ofChange pendHighestSpec)

/-- ITS FALSE NEIGHBOUR: 'it returns false'. Refute it at one input. -/
def pendHighestWrong : ChangeSpec := { name := "pendHighest", fn := fun _ => fun
  | [d] => { results := [.lit (.bool false)], args := [d] }
  | _ => none }
def PendHighestWrongFalsely : Prop := pendHighestRow.holds Tryd.pinned (OpenSpec.ofChange pendHighestWrong)

/-- 'bellropelaw07.PendPlays': WHATEVER THE INPUT: true; the input reads as it did. -/
def pendPlaysSpec : ChangeSpec := { name := "pendPlays", fn := fun _ => fun
  | [d1, d2] => { results := [.lit (.bool true)], args := [d1, d2] }
  | _ => none }
def pendPlaysRow : OpenClaim := { program := "ytbbnackahgcegaadoor", sum := "8346e7f8a70669e0e3ca9920bb44bec320130f0429fb8a0b1a250681e63ab021", func := "bellrope/bellropelaw07.PendPlays", spec := "pendPlays", unfollowed := true, recurses := true, named := ["math/bits.deBruijn32tab"], apart := false, laid := [("math/bits.deBruijn32tab", laid_math_bits_deBruijn32tab)] }
def PendPlaysSaid : Prop := pendPlaysRow.holds Tryd.pinned (OpenSpec.ofChange pendPlaysSpec)

/-- ITS FALSE NEIGHBOUR: 'it returns false'. Refute it at one input. -/
def pendPlaysWrong : ChangeSpec := { name := "pendPlays", fn := fun _ => fun
  | [d1, d2] => { results := [.lit (.bool false)], args := [d1, d2] }
  | _ => none }
def PendPlaysWrongFalsely : Prop := pendPlaysRow.holds Tryd.pinned (OpenSpec.ofChange pendPlaysWrong)

/-- 'bellropelaw26.TaskLast': WHATEVER THE INPUT: true; the input reads as it did. -/
def taskLastSpec : ChangeSpec := { name := "taskLast", fn := fun _ => fun
  | [d1, d2] => { results := [.lit (.bool true)], args := [d1, d2] }
  | _ => none }
def taskLastRow : OpenClaim := { program := "ytbbnackahgcegaadoor", sum := "8346e7f8a70669e0e3ca9920bb44bec320130f0429fb8a0b1a250681e63ab021", func := "bellrope/bellropelaw26.TaskLast", spec := "taskLast", unfollowed := true, recurses := true, named := ["math/bits.deBruijn32tab"], apart := false, laid := [("math/bits.deBruijn32tab", laid_math_bits_deBruijn32tab)] }
def TaskLastSaid : Prop := taskLastRow.holds Tryd.pinned (OpenSpec.ofChange taskLastSpec)

/-- ITS FALSE NEIGHBOUR: 'it returns false'. Refute it at one input. -/
def taskLastWrong : ChangeSpec := { name := "taskLast", fn := fun _ => fun
  | [d1, d2] => { results := [.lit (.bool false)], args := [d1, d2] }
  | _ => none }
def TaskLastWrongFalsely : Prop := taskLastRow.holds Tryd.pinned (OpenSpec.ofChange taskLastWrong)

/-- 'bellropelaw26.TaskEnds': WHATEVER THE INPUT: true; the input reads as it did. -/
def taskEndsSpec : ChangeSpec := { name := "taskEnds", fn := fun _ => fun
  | [d1, d2] => { results := [.lit (.bool true)], args := [d1, d2] }
  | _ => none }
def taskEndsRow : OpenClaim := { program := "ytbbnackahgcegaadoor", sum := "8346e7f8a70669e0e3ca9920bb44bec320130f0429fb8a0b1a250681e63ab021", func := "bellrope/bellropelaw26.TaskEnds", spec := "taskEnds", unfollowed := true, recurses := true, named := ["math/bits.deBruijn32tab"], apart := false, laid := [("math/bits.deBruijn32tab", laid_math_bits_deBruijn32tab)] }
def TaskEndsSaid : Prop := taskEndsRow.holds Tryd.pinned (OpenSpec.ofChange taskEndsSpec)

/-- ITS FALSE NEIGHBOUR: 'it returns false'. Refute it at one input. -/
def taskEndsWrong : ChangeSpec := { name := "taskEnds", fn := fun _ => fun
  | [d1, d2] => { results := [.lit (.bool false)], args := [d1, d2] }
  | _ => none }
def TaskEndsWrongFalsely : Prop := taskEndsRow.holds Tryd.pinned (OpenSpec.ofChange taskEndsWrong)

/-- 'bellropelaw23.RankPlays': WHATEVER THE INPUT: true; the input reads as it did. -/
def rankPlaysSpec : ChangeSpec := { name := "rankPlays", fn := fun _ => fun
  | [d1, d2] => { results := [.lit (.bool true)], args := [d1, d2] }
  | _ => none }
def rankPlaysRow : OpenClaim := { program := "ytbbnackahgcegaadoor", sum := "8346e7f8a70669e0e3ca9920bb44bec320130f0429fb8a0b1a250681e63ab021", func := "bellrope/bellropelaw23.RankPlays", spec := "rankPlays", named := ["math/bits.deBruijn32tab"], apart := false, laid := [("math/bits.deBruijn32tab", laid_math_bits_deBruijn32tab)] }
def RankPlaysSaid : Prop := rankPlaysRow.holds Tryd.pinned (OpenSpec.ofChange rankPlaysSpec)

/-- ITS FALSE NEIGHBOUR: 'it returns false'. Refute it at one input. -/
def rankPlaysWrong : ChangeSpec := { name := "rankPlays", fn := fun _ => fun
  | [d1, d2] => { results := [.lit (.bool false)], args := [d1, d2] }
  | _ => none }
def RankPlaysWrongFalsely : Prop := rankPlaysRow.holds Tryd.pinned (OpenSpec.ofChange rankPlaysWrong)

/-- 'bellropelaw23.RankRows': WHATEVER THE INPUT: true; the input reads as it did. -/
def rankRowsSpec : ChangeSpec := { name := "rankRows", fn := fun _ => fun
  | [d] => { results := [.lit (.bool true)], args := [d] }
  | _ => none }
def rankRowsRow : OpenClaim := { program := "ytbbnackahgcegaadoor", sum := "8346e7f8a70669e0e3ca9920bb44bec320130f0429fb8a0b1a250681e63ab021", func := "bellrope/bellropelaw23.RankRows", spec := "rankRows", named := ["math/bits.deBruijn32tab"], apart := false, laid := [("math/bits.deBruijn32tab", laid_math_bits_deBruijn32tab)] }
def RankRowsSaid : Prop := rankRowsRow.holds Tryd.pinned (OpenSpec.ofChange rankRowsSpec)

/-- ITS FALSE NEIGHBOUR: 'it returns false'. Refute it at one input. -/
def rankRowsWrong : ChangeSpec := { name := "rankRows", fn := fun _ => fun
  | [d] => { results := [.lit (.bool false)], args := [d] }
  | _ => none }
def RankRowsWrongFalsely : Prop := rankRowsRow.holds Tryd.pinned (OpenSpec.ofChange rankRowsWrong)

/-- 'bellropelaw23.RankTurns': WHATEVER THE INPUT: true; the input reads as it did. -/
def rankTurnsSpec : ChangeSpec := { name := "rankTurns", fn := fun _ => fun
  | [d] => { results := [.lit (.bool true)], args := [d] }
  | _ => none }
def rankTurnsRow : OpenClaim := { program := "ytbbnackahgcegaadoor", sum := "8346e7f8a70669e0e3ca9920bb44bec320130f0429fb8a0b1a250681e63ab021", func := "bellrope/bellropelaw23.RankTurns", spec := "rankTurns", named := ["math/bits.deBruijn32tab"], apart := false, laid := [("math/bits.deBruijn32tab", laid_math_bits_deBruijn32tab)] }
def RankTurnsSaid : Prop := rankTurnsRow.holds Tryd.pinned (OpenSpec.ofChange rankTurnsSpec)

/-- ITS FALSE NEIGHBOUR: 'it returns false'. Refute it at one input. -/
def rankTurnsWrong : ChangeSpec := { name := "rankTurns", fn := fun _ => fun
  | [d] => { results := [.lit (.bool false)], args := [d] }
  | _ => none }
def RankTurnsWrongFalsely : Prop := rankTurnsRow.holds Tryd.pinned (OpenSpec.ofChange rankTurnsWrong)

/-- 'bellropelaw09.GateHighest': WHATEVER THE INPUT: true; the input reads as it did. -/
def gateHighestSpec : ChangeSpec := { name := "gateHighest", fn := fun _ => fun
  | [d1, d2] => { results := [.lit (.bool true)], args := [d1, d2] }
  | _ => none }
def gateHighestRow : OpenClaim := { program := "ytbbnackahgcegaadoor", sum := "8346e7f8a70669e0e3ca9920bb44bec320130f0429fb8a0b1a250681e63ab021", func := "bellrope/bellropelaw09.GateHighest", spec := "gateHighest", unfollowed := true, recurses := true, named := ["math/bits.deBruijn32tab"], apart := false, laid := [("math/bits.deBruijn32tab", laid_math_bits_deBruijn32tab)] }
def GateHighestSaid : Prop := gateHighestRow.holds Tryd.pinned (OpenSpec.ofChange gateHighestSpec)

/-- ITS FALSE NEIGHBOUR: 'it returns false'. Refute it at one input. -/
def gateHighestWrong : ChangeSpec := { name := "gateHighest", fn := fun _ => fun
  | [d1, d2] => { results := [.lit (.bool false)], args := [d1, d2] }
  | _ => none }
def GateHighestWrongFalsely : Prop := gateHighestRow.holds Tryd.pinned (OpenSpec.ofChange gateHighestWrong)

/-- 'bellropelaw09.GateNil': WHATEVER THE INPUT: true; the input reads as it did. -/
def gateNilSpec : ChangeSpec := { name := "gateNil", fn := fun _ => fun
  | [d] => { results := [.lit (.bool true)], args := [d] }
  | _ => none }
def gateNilRow : OpenClaim := { program := "ytbbnackahgcegaadoor", sum := "8346e7f8a70669e0e3ca9920bb44bec320130f0429fb8a0b1a250681e63ab021", func := "bellrope/bellropelaw09.GateNil", spec := "gateNil", unfollowed := true, recurses := true, named := ["math/bits.deBruijn32tab"], apart := false, laid := [("math/bits.deBruijn32tab", laid_math_bits_deBruijn32tab)] }
def GateNilSaid : Prop := gateNilRow.holds Tryd.pinned (OpenSpec.ofChange gateNilSpec)

/-- ITS FALSE NEIGHBOUR: 'it returns false'. Refute it at one input. -/
def gateNilWrong : ChangeSpec := { name := "gateNil", fn := fun _ => fun
  | [d] => { results := [.lit (.bool false)], args := [d] }
  | _ => none }
def GateNilWrongFalsely : Prop := gateNilRow.holds Tryd.pinned (OpenSpec.ofChange gateNilWrong)

/- THE SECOND FORM. 'bulk': how many values and letters a reading holds, each counted each time it is reached (what is shared counts as often as it is met; a slice's spare places count too). A statement '..UptoSaid' is the law's where the arguments, and the package variables that the reading takes, are together of bulk at most 1048576: NARROWER than '..Said'. Prove '..Said' where nothing that the law and all that it calls make is longer than what came in: it says more and counts as full. Else prove '..UptoSaid'. A law counts once. -/
mutual
def uptoBulk {H : Type} : DataW H → Nat
  | .lit (.string bytes) => bytes.length + 1
  | .lit _ => 1
  | .nil => 1
  | .ptr d => uptoBulk d + 1
  | .slice elems spare => uptoBulkAll elems + uptoBulkAll spare + 1
  | .agg parts => uptoBulkAll parts + 1
  | .iface _ d => uptoBulk d + 1
  | .map entries => uptoBulkEntries entries + 1
  | .held _ => 1
def uptoBulkAll {H : Type} : List (DataW H) → Nat
  | [] => 0
  | d :: r => uptoBulk d + uptoBulkAll r
def uptoBulkEntries {H : Type} : List (Lit × DataW H) → Nat
  | [] => 0
  | x :: r => uptoBulkEntry x + uptoBulkEntries r
def uptoBulkEntry {H : Type} : Lit × DataW H → Nat
  | (.string bytes, d) => bytes.length + uptoBulk d + 1
  | (_, d) => uptoBulk d + 1
 end
def uptoSmall : (H : Type) → List (DataW H) → Bool := fun _ ds => decide (uptoBulkAll ds ≤ 1048576)
def OpenSpec.upto (s : _root_.Go.ChangeSpec) : _root_.Go.OpenSpec := { _root_.Go.OpenSpec.ofChange s with cond := some uptoSmall }

/-- 'bellropelaw07.PendHighest', WHERE WHAT IT READS IS OF BULK AT MOST 1048576: true; the input reads as it did. -/
def pendHighestUptoRow : OpenClaim := { program := "ytbbnackahgcegaadoor", sum := "8346e7f8a70669e0e3ca9920bb44bec320130f0429fb8a0b1a250681e63ab021", func := "bellrope/bellropelaw07.PendHighest", spec := "pendHighest", unfollowed := true, recurses := true, named := ["math/bits.deBruijn32tab"], apart := false, laid := [("math/bits.deBruijn32tab", laid_math_bits_deBruijn32tab)], narrowed := true }
def PendHighestUptoSaid : Prop := pendHighestUptoRow.holds Tryd.pinned (OpenSpec.upto pendHighestSpec)

/-- 'bellropelaw07.PendPlays', WHERE WHAT IT READS IS OF BULK AT MOST 1048576: true; the input reads as it did. -/
def pendPlaysUptoRow : OpenClaim := { program := "ytbbnackahgcegaadoor", sum := "8346e7f8a70669e0e3ca9920bb44bec320130f0429fb8a0b1a250681e63ab021", func := "bellrope/bellropelaw07.PendPlays", spec := "pendPlays", unfollowed := true, recurses := true, named := ["math/bits.deBruijn32tab"], apart := false, laid := [("math/bits.deBruijn32tab", laid_math_bits_deBruijn32tab)], narrowed := true }
def PendPlaysUptoSaid : Prop := pendPlaysUptoRow.holds Tryd.pinned (OpenSpec.upto pendPlaysSpec)

/-- 'bellropelaw26.TaskLast', WHERE WHAT IT READS IS OF BULK AT MOST 1048576: true; the input reads as it did. -/
def taskLastUptoRow : OpenClaim := { program := "ytbbnackahgcegaadoor", sum := "8346e7f8a70669e0e3ca9920bb44bec320130f0429fb8a0b1a250681e63ab021", func := "bellrope/bellropelaw26.TaskLast", spec := "taskLast", unfollowed := true, recurses := true, named := ["math/bits.deBruijn32tab"], apart := false, laid := [("math/bits.deBruijn32tab", laid_math_bits_deBruijn32tab)], narrowed := true }
def TaskLastUptoSaid : Prop := taskLastUptoRow.holds Tryd.pinned (OpenSpec.upto taskLastSpec)

/-- 'bellropelaw26.TaskEnds', WHERE WHAT IT READS IS OF BULK AT MOST 1048576: true; the input reads as it did. -/
def taskEndsUptoRow : OpenClaim := { program := "ytbbnackahgcegaadoor", sum := "8346e7f8a70669e0e3ca9920bb44bec320130f0429fb8a0b1a250681e63ab021", func := "bellrope/bellropelaw26.TaskEnds", spec := "taskEnds", unfollowed := true, recurses := true, named := ["math/bits.deBruijn32tab"], apart := false, laid := [("math/bits.deBruijn32tab", laid_math_bits_deBruijn32tab)], narrowed := true }
def TaskEndsUptoSaid : Prop := taskEndsUptoRow.holds Tryd.pinned (OpenSpec.upto taskEndsSpec)

/-- 'bellropelaw23.RankPlays', WHERE WHAT IT READS IS OF BULK AT MOST 1048576: true; the input reads as it did. -/
def rankPlaysUptoRow : OpenClaim := { program := "ytbbnackahgcegaadoor", sum := "8346e7f8a70669e0e3ca9920bb44bec320130f0429fb8a0b1a250681e63ab021", func := "bellrope/bellropelaw23.RankPlays", spec := "rankPlays", named := ["math/bits.deBruijn32tab"], apart := false, laid := [("math/bits.deBruijn32tab", laid_math_bits_deBruijn32tab)], narrowed := true }
def RankPlaysUptoSaid : Prop := rankPlaysUptoRow.holds Tryd.pinned (OpenSpec.upto rankPlaysSpec)

/-- 'bellropelaw23.RankRows', WHERE WHAT IT READS IS OF BULK AT MOST 1048576: true; the input reads as it did. -/
def rankRowsUptoRow : OpenClaim := { program := "ytbbnackahgcegaadoor", sum := "8346e7f8a70669e0e3ca9920bb44bec320130f0429fb8a0b1a250681e63ab021", func := "bellrope/bellropelaw23.RankRows", spec := "rankRows", named := ["math/bits.deBruijn32tab"], apart := false, laid := [("math/bits.deBruijn32tab", laid_math_bits_deBruijn32tab)], narrowed := true }
def RankRowsUptoSaid : Prop := rankRowsUptoRow.holds Tryd.pinned (OpenSpec.upto rankRowsSpec)

/-- 'bellropelaw23.RankTurns', WHERE WHAT IT READS IS OF BULK AT MOST 1048576: true; the input reads as it did. -/
def rankTurnsUptoRow : OpenClaim := { program := "ytbbnackahgcegaadoor", sum := "8346e7f8a70669e0e3ca9920bb44bec320130f0429fb8a0b1a250681e63ab021", func := "bellrope/bellropelaw23.RankTurns", spec := "rankTurns", named := ["math/bits.deBruijn32tab"], apart := false, laid := [("math/bits.deBruijn32tab", laid_math_bits_deBruijn32tab)], narrowed := true }
def RankTurnsUptoSaid : Prop := rankTurnsUptoRow.holds Tryd.pinned (OpenSpec.upto rankTurnsSpec)

/-- 'bellropelaw09.GateHighest', WHERE WHAT IT READS IS OF BULK AT MOST 1048576: true; the input reads as it did. -/
def gateHighestUptoRow : OpenClaim := { program := "ytbbnackahgcegaadoor", sum := "8346e7f8a70669e0e3ca9920bb44bec320130f0429fb8a0b1a250681e63ab021", func := "bellrope/bellropelaw09.GateHighest", spec := "gateHighest", unfollowed := true, recurses := true, named := ["math/bits.deBruijn32tab"], apart := false, laid := [("math/bits.deBruijn32tab", laid_math_bits_deBruijn32tab)], narrowed := true }
def GateHighestUptoSaid : Prop := gateHighestUptoRow.holds Tryd.pinned (OpenSpec.upto gateHighestSpec)

/-- 'bellropelaw09.GateNil', WHERE WHAT IT READS IS OF BULK AT MOST 1048576: true; the input reads as it did. -/
def gateNilUptoRow : OpenClaim := { program := "ytbbnackahgcegaadoor", sum := "8346e7f8a70669e0e3ca9920bb44bec320130f0429fb8a0b1a250681e63ab021", func := "bellrope/bellropelaw09.GateNil", spec := "gateNil", unfollowed := true, recurses := true, named := ["math/bits.deBruijn32tab"], apart := false, laid := [("math/bits.deBruijn32tab", laid_math_bits_deBruijn32tab)], narrowed := true }
def GateNilUptoSaid : Prop := gateNilUptoRow.holds Tryd.pinned (OpenSpec.upto gateNilSpec)

end Rows
end Go.Proofs.YtbbnackahgcegaaDoor
