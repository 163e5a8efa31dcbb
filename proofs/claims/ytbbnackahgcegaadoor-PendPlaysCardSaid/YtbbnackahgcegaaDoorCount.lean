/- pend's Count (out of LawGateHighest). -/
import Derived.Test.YtbbnackahgcegaaDoorPendLaw
namespace Go.Proofs.YtbbnackahgcegaaDoor
open Go.RowKit
set_option linter.all false

set_option maxHeartbeats 800000 in
theorem pcount_any (B o : Nat) (b r m : Int) (w : World) (h : PendAt w B o b r m) :
    Calls Tryd.prog 19 #[.pointer (some ⟨B, o, none⟩)] w fun e w' => e = .returned (.tuple #[.int .i64 r, .int .i64 m]) ∧ ∃ n, w' = w.drewN n := by
  obtain ⟨cb, cr, cm, fb, fr, fm, lo, hi⟩ := h
  go_enter Tryd.func19, Tryd.ntmps19
  go_wp2
  · go_ret2
    exact ⟨by simp [*], 0, rfl⟩
  all_goals
    go_quiet (fail)
    go_wp2
    go_ret2
    exact ⟨by first | rfl | simp [*], _, rfl⟩
end Go.Proofs.YtbbnackahgcegaaDoor
