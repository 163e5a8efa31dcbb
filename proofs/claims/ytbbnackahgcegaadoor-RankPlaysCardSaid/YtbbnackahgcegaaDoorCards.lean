/-
  DERIVED. GIVEN WITH THE SEED: THE CARDS: each row of YtbbnackahgcegaaDoorRows.lean that lists a variable, with what it lists TIED to the program's text (the seventh form; the later family's looks); each row that meets fmt, with fmt's text TOLD by the authors' own Lean function (tested against real Go, not proved from fmt's source: count such statements apart). THE CARD IS WHAT COUNTS. Prove the row's statement (the work); the ties are given (YtbbnackahgcegaaDoorTie.lean); close each card by the builder's one call (the guide's Derived/Test/ToyasCard.lean, 'card_holds'). Laid BY PROGRAM, IN A SANDBOX (cutbox-door.mjs). By AI agents, Wed Nov 11 2026. No macro, syntax, notation, axiom, sorry.
-/
import Derived.Test.YtbbnackahgcegaaDoorRows
import GoSem.ClaimSeven
namespace Go.Proofs.YtbbnackahgcegaaDoor
namespace Rows

/-- THE TIED CARD OF 'bellropelaw07.PendHighest'. -/
def pendHighestCard : Claim7 := { stood := { row := pendHighestRow, standIns := [], harness := (true, "5a3765a99fd186adf02b09b4120e8f722dc16f83785fa59e3052ca2368a51fa8"), looks := false }, kinds := [], alts := [], laidByText := true, laidKinds := [.data], laidTests := true, laidLooks := .later }
def PendHighestCardSaid : Prop := Claim7.holds Tryd.pinned (.plain (OpenSpec.ofChange pendHighestSpec)) pendHighestCard

/-- THE TIED CARD OF 'bellropelaw07.PendPlays'. -/
def pendPlaysCard : Claim7 := { stood := { row := pendPlaysRow, standIns := [], harness := (true, "5a3765a99fd186adf02b09b4120e8f722dc16f83785fa59e3052ca2368a51fa8"), looks := false }, kinds := [], alts := [], laidByText := true, laidKinds := [.data], laidTests := true, laidLooks := .later }
def PendPlaysCardSaid : Prop := Claim7.holds Tryd.pinned (.plain (OpenSpec.ofChange pendPlaysSpec)) pendPlaysCard

/-- THE TIED CARD OF 'bellropelaw26.TaskLast'. -/
def taskLastCard : Claim7 := { stood := { row := taskLastRow, standIns := [], harness := (true, "5a3765a99fd186adf02b09b4120e8f722dc16f83785fa59e3052ca2368a51fa8"), looks := false }, kinds := [], alts := [], laidByText := true, laidKinds := [.data], laidTests := true, laidLooks := .later }
def TaskLastCardSaid : Prop := Claim7.holds Tryd.pinned (.plain (OpenSpec.ofChange taskLastSpec)) taskLastCard

/-- THE TIED CARD OF 'bellropelaw26.TaskEnds'. -/
def taskEndsCard : Claim7 := { stood := { row := taskEndsRow, standIns := [], harness := (true, "5a3765a99fd186adf02b09b4120e8f722dc16f83785fa59e3052ca2368a51fa8"), looks := false }, kinds := [], alts := [], laidByText := true, laidKinds := [.data], laidTests := true, laidLooks := .later }
def TaskEndsCardSaid : Prop := Claim7.holds Tryd.pinned (.plain (OpenSpec.ofChange taskEndsSpec)) taskEndsCard

/-- THE TIED CARD OF 'bellropelaw23.RankPlays'. -/
def rankPlaysCard : Claim7 := { stood := { row := rankPlaysRow, standIns := [], harness := (true, "5a3765a99fd186adf02b09b4120e8f722dc16f83785fa59e3052ca2368a51fa8"), looks := false }, kinds := [], alts := [], laidByText := true, laidKinds := [.data], laidTests := true, laidLooks := .later }
def RankPlaysCardSaid : Prop := Claim7.holds Tryd.pinned (.plain (OpenSpec.ofChange rankPlaysSpec)) rankPlaysCard

/-- THE TIED CARD OF 'bellropelaw23.RankRows'. -/
def rankRowsCard : Claim7 := { stood := { row := rankRowsRow, standIns := [], harness := (true, "5a3765a99fd186adf02b09b4120e8f722dc16f83785fa59e3052ca2368a51fa8"), looks := false }, kinds := [], alts := [], laidByText := true, laidKinds := [.data], laidTests := true, laidLooks := .later }
def RankRowsCardSaid : Prop := Claim7.holds Tryd.pinned (.plain (OpenSpec.ofChange rankRowsSpec)) rankRowsCard

/-- THE TIED CARD OF 'bellropelaw23.RankTurns'. -/
def rankTurnsCard : Claim7 := { stood := { row := rankTurnsRow, standIns := [], harness := (true, "5a3765a99fd186adf02b09b4120e8f722dc16f83785fa59e3052ca2368a51fa8"), looks := false }, kinds := [], alts := [], laidByText := true, laidKinds := [.data], laidTests := true, laidLooks := .later }
def RankTurnsCardSaid : Prop := Claim7.holds Tryd.pinned (.plain (OpenSpec.ofChange rankTurnsSpec)) rankTurnsCard

/-- THE TIED CARD OF 'bellropelaw09.GateHighest'. -/
def gateHighestCard : Claim7 := { stood := { row := gateHighestRow, standIns := [], harness := (true, "5a3765a99fd186adf02b09b4120e8f722dc16f83785fa59e3052ca2368a51fa8"), looks := false }, kinds := [], alts := [], laidByText := true, laidKinds := [.data], laidTests := true, laidLooks := .later }
def GateHighestCardSaid : Prop := Claim7.holds Tryd.pinned (.plain (OpenSpec.ofChange gateHighestSpec)) gateHighestCard

/-- THE TIED CARD OF 'bellropelaw09.GateNil'. -/
def gateNilCard : Claim7 := { stood := { row := gateNilRow, standIns := [], harness := (true, "5a3765a99fd186adf02b09b4120e8f722dc16f83785fa59e3052ca2368a51fa8"), looks := false }, kinds := [], alts := [], laidByText := true, laidKinds := [.data], laidTests := true, laidLooks := .later }
def GateNilCardSaid : Prop := Claim7.holds Tryd.pinned (.plain (OpenSpec.ofChange gateNilSpec)) gateNilCard

/-- THE SECOND FORM's CARD OF 'bellropelaw07.PendHighest'. -/
def pendHighestUptoCard : Claim7 := { stood := { row := pendHighestUptoRow, standIns := [], harness := (true, "5a3765a99fd186adf02b09b4120e8f722dc16f83785fa59e3052ca2368a51fa8"), looks := false }, kinds := [], alts := [], laidByText := true, laidKinds := [.data], laidTests := true, laidLooks := .later }
def PendHighestUptoCardSaid : Prop := Claim7.holds Tryd.pinned (.plain (OpenSpec.upto pendHighestSpec)) pendHighestUptoCard

/-- THE SECOND FORM's CARD OF 'bellropelaw07.PendPlays'. -/
def pendPlaysUptoCard : Claim7 := { stood := { row := pendPlaysUptoRow, standIns := [], harness := (true, "5a3765a99fd186adf02b09b4120e8f722dc16f83785fa59e3052ca2368a51fa8"), looks := false }, kinds := [], alts := [], laidByText := true, laidKinds := [.data], laidTests := true, laidLooks := .later }
def PendPlaysUptoCardSaid : Prop := Claim7.holds Tryd.pinned (.plain (OpenSpec.upto pendPlaysSpec)) pendPlaysUptoCard

/-- THE SECOND FORM's CARD OF 'bellropelaw26.TaskLast'. -/
def taskLastUptoCard : Claim7 := { stood := { row := taskLastUptoRow, standIns := [], harness := (true, "5a3765a99fd186adf02b09b4120e8f722dc16f83785fa59e3052ca2368a51fa8"), looks := false }, kinds := [], alts := [], laidByText := true, laidKinds := [.data], laidTests := true, laidLooks := .later }
def TaskLastUptoCardSaid : Prop := Claim7.holds Tryd.pinned (.plain (OpenSpec.upto taskLastSpec)) taskLastUptoCard

/-- THE SECOND FORM's CARD OF 'bellropelaw26.TaskEnds'. -/
def taskEndsUptoCard : Claim7 := { stood := { row := taskEndsUptoRow, standIns := [], harness := (true, "5a3765a99fd186adf02b09b4120e8f722dc16f83785fa59e3052ca2368a51fa8"), looks := false }, kinds := [], alts := [], laidByText := true, laidKinds := [.data], laidTests := true, laidLooks := .later }
def TaskEndsUptoCardSaid : Prop := Claim7.holds Tryd.pinned (.plain (OpenSpec.upto taskEndsSpec)) taskEndsUptoCard

/-- THE SECOND FORM's CARD OF 'bellropelaw23.RankPlays'. -/
def rankPlaysUptoCard : Claim7 := { stood := { row := rankPlaysUptoRow, standIns := [], harness := (true, "5a3765a99fd186adf02b09b4120e8f722dc16f83785fa59e3052ca2368a51fa8"), looks := false }, kinds := [], alts := [], laidByText := true, laidKinds := [.data], laidTests := true, laidLooks := .later }
def RankPlaysUptoCardSaid : Prop := Claim7.holds Tryd.pinned (.plain (OpenSpec.upto rankPlaysSpec)) rankPlaysUptoCard

/-- THE SECOND FORM's CARD OF 'bellropelaw23.RankRows'. -/
def rankRowsUptoCard : Claim7 := { stood := { row := rankRowsUptoRow, standIns := [], harness := (true, "5a3765a99fd186adf02b09b4120e8f722dc16f83785fa59e3052ca2368a51fa8"), looks := false }, kinds := [], alts := [], laidByText := true, laidKinds := [.data], laidTests := true, laidLooks := .later }
def RankRowsUptoCardSaid : Prop := Claim7.holds Tryd.pinned (.plain (OpenSpec.upto rankRowsSpec)) rankRowsUptoCard

/-- THE SECOND FORM's CARD OF 'bellropelaw23.RankTurns'. -/
def rankTurnsUptoCard : Claim7 := { stood := { row := rankTurnsUptoRow, standIns := [], harness := (true, "5a3765a99fd186adf02b09b4120e8f722dc16f83785fa59e3052ca2368a51fa8"), looks := false }, kinds := [], alts := [], laidByText := true, laidKinds := [.data], laidTests := true, laidLooks := .later }
def RankTurnsUptoCardSaid : Prop := Claim7.holds Tryd.pinned (.plain (OpenSpec.upto rankTurnsSpec)) rankTurnsUptoCard

/-- THE SECOND FORM's CARD OF 'bellropelaw09.GateHighest'. -/
def gateHighestUptoCard : Claim7 := { stood := { row := gateHighestUptoRow, standIns := [], harness := (true, "5a3765a99fd186adf02b09b4120e8f722dc16f83785fa59e3052ca2368a51fa8"), looks := false }, kinds := [], alts := [], laidByText := true, laidKinds := [.data], laidTests := true, laidLooks := .later }
def GateHighestUptoCardSaid : Prop := Claim7.holds Tryd.pinned (.plain (OpenSpec.upto gateHighestSpec)) gateHighestUptoCard

/-- THE SECOND FORM's CARD OF 'bellropelaw09.GateNil'. -/
def gateNilUptoCard : Claim7 := { stood := { row := gateNilUptoRow, standIns := [], harness := (true, "5a3765a99fd186adf02b09b4120e8f722dc16f83785fa59e3052ca2368a51fa8"), looks := false }, kinds := [], alts := [], laidByText := true, laidKinds := [.data], laidTests := true, laidLooks := .later }
def GateNilUptoCardSaid : Prop := Claim7.holds Tryd.pinned (.plain (OpenSpec.upto gateNilSpec)) gateNilUptoCard
end Rows
end Go.Proofs.YtbbnackahgcegaaDoor
