/- What every card of this seat shares: the table that math/bits reads, off the row's list and in the witness' world. -/
import Derived.Test.YtbbnackahgcegaaDoorWordCB
import Derived.Test.YtbbnackahgcegaaDoorCards
import Derived.Test.YtbbnackahgcegaaDoorTie
import Derived.WalkKit
import Derived.ProofKit
import Derived.OpenShut
import Derived.ShutString
import Derived.ChangeOld
import Derived.Below
import Derived.Deep.DeepHandedRow
import Derived.Lib.LaidTab
namespace Go.Proofs.YtbbnackahgcegaaDoor.door
open Go.ChangeShapes Go.WideShapes Go.ChangeAt Go.RowKit

theorem own : ownKnob Tryd.prog.godebug = none := by kernel_rfl
theorem gTab : Tryd.prog.globalNamed "math/bits.deBruijn32tab" = some 0 := by kernel_rfl
theorem gTabType : (Tryd.prog.globals[0]?).map (·.type) = some 108 := by kernel_rfl
theorem cellsTab : Tryd.prog.cellsOf 108 = 32 := by kernel_rfl
theorem cellsByte : Tryd.prog.cellsOf 5 = 1 := by kernel_rfl

/-- the table, as integers -/
abbrev tabI : List Int := [0, 1, 28, 2, 29, 14, 24, 3, 30, 22, 20, 15, 25, 17, 4, 8, 31, 27, 13, 23, 21, 19, 16, 7, 26, 12, 18, 6, 11, 5, 10, 9]
theorem tabI_eq : tabI = Lib.deBruijn32tab.map Int.ofNat := by decide

theorem tab_of {W : World} (h : laidMetH Tryd.prog [("math/bits.deBruijn32tab", Rows.laid_math_bits_deBruijn32tab)] W) : Tab W := by
  have hT : Lib.TabIs Tryd.prog W "math/bits.deBruijn32tab" .u8 tabI := Lib.tabIs_of_head (rest := []) gTab gTabType Tryd.underlying108 Tryd.underlying5 cellsByte cellsTab h
  intro j hj
  have hj' : j < 32 := hj
  have hc := hT.cell gTab j (by simpa using hj')
  rw [hc]
  have hall : ∀ j : Nat, j < 32 → tabI.getD j 0 = ((Lib.deBruijn32tab.getD j 0 : Nat) : Int) := by decide +kernel
  rw [← hall j hj']

/-- a world for the witness: the settled one, the table holding what its initialiser lays -/
noncomputable def laidWorld (os : Os) : World :=
  { World.holding Tryd.prog os ⟨#[], #[], []⟩ with heap := (World.holding Tryd.prog os ⟨#[], #[], []⟩).heap.modify 0 fun
      | .cells _ t frozen => .cells (tabI.map (Value.int .u8)).toArray t frozen
      | o => o }
end Go.Proofs.YtbbnackahgcegaaDoor.door
