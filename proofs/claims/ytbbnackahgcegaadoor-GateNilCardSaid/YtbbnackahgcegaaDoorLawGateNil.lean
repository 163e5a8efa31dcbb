/- GateNil: of no gate there is nothing, and nothing is done. -/
import Derived.Test.YtbbnackahgcegaaDoorGateNil
import Derived.ProofKit
import Derived.OpenShut
import Derived.Deep.DeepCutAuto
import Derived.ChangeOld
namespace Go.Proofs.YtbbnackahgcegaaDoor.gateNil
open Go.ChangeShapes Go.WideShapes Go.ChangeAt Go.RowKit
set_option linter.all false

set_option maxHeartbeats 1000000 in
theorem walk (k : Int) (w : World) (hT : Tab w) :
    Calls Tryd.prog 11 #[.int .i64 k] w fun e w' => e = .returned (.bool true) ∧ Below w.heap.size w w' := by
  go_enter Tryd.func11, Tryd.ntmps11
  go_wp2_with (first
    | (go_at_call 59; refine (gnext_nil _).mono ?_; rintro e w1 ⟨rfl, rfl⟩)
    | (go_at_call 56; refine (gleave_nil _).mono ?_; rintro e w1 ⟨rfl, rfl⟩)
    | (go_at_call 60; refine (gcount_nil _).mono ?_; rintro e w1 ⟨rfl, rfl⟩)
    | (go_at_call 55; refine (graise_nil _ _).mono ?_; rintro e w1 ⟨rfl, rfl⟩)
    | (go_at_call 58; refine (glevel_nil _).mono ?_; rintro e w1 ⟨rfl, rfl⟩)
    | (go_at_call 57; refine (gpending_nil _).mono ?_; rintro e w1 ⟨rfl, rfl⟩)
    | (go_at_call 61; refine (gmask_any _ _).mono ?_; rintro e w1 ⟨rfl, rfl⟩)
    | (go_at_call 62; refine (gserved_nil _).mono ?_; rintro e w1 ⟨rfl, rfl⟩)
    | (go_at_call 63; refine (glevels_nil _).mono ?_; rintro e w1 ⟨rfl, rfl⟩)
    | (go_at_call 53; refine (alive09 _ hT).mono ?_; rintro e w1 ⟨rfl, hb⟩))
  go_ret
  exact ⟨rfl, hb⟩

theorem walkAll (k : Int) (w : World) (w0 : (Lit.int .i64 k).wf = true) (hT : Tab w) :
    Calls Tryd.prog 11 #[.int .i64 k] w fun e w' => e = .returned (.bool true) ∧ Below w.heap.size w w' := walk k w hT
end Go.Proofs.YtbbnackahgcegaaDoor.gateNil
