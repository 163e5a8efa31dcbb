/- The law's 'alive': what must come at any rate. -/
import Derived.Test.YtebhojbllhjkeaaGaussDiv
namespace Go.Proofs.Ytebhojbllhjkeaa
open Go.RowKit
set_option linter.all false

theorem mul_at (w : World) : Calls Try.prog 35 #[numV 1 2, numV 3 (-1)] w fun e w' => e = .returned (.tuple #[numV 5 5, .bool true]) ∧ Below w.heap.size w w' :=
  mul_any 1 2 3 (-1) w
theorem div_at (w : World) : Calls Try.prog 48 #[numV 5 3, numV 2 1] w fun e w' => e = .returned (.tuple #[numV 3 0, numV (-1) 0, .bool true]) ∧ Below w.heap.size w w' :=
  div_any 5 3 2 1 w

set_option maxRecDepth 10000 in
set_option maxHeartbeats 1000000 in
theorem alive_gauss (w : World) : Calls Try.prog 32 #[] w fun e w' => e = .returned (.bool true) ∧ Below w.heap.size w w' := by
  go_enter Try.func32, Try.ntmps32
  go_wp2_with (first
    | (go_at_call 35; with_reducible refine (mul_at _).mono ?_; rintro e w1 ⟨rfl, hb1⟩)
    | (go_at_call 48; with_reducible refine (div_at _).mono ?_; rintro e w2 ⟨rfl, hb2⟩; obtain ⟨hcl2, hfr2⟩ := bcell hb2; have hz2 := size_one hb2))
  go_ret
  exact ⟨rfl, below_trans ((hb1.alloc (hb1.size) _).trans (hb2.mono (by have := hb1.size; simp; omega))) (below_two _ _ _)⟩
end Go.Proofs.Ytebhojbllhjkeaa
