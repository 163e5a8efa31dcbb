/- The contracts of word.Ahead and word.Before, and of layer 2's 'alive', which every law of that layer calls. -/
import Derived.Test.YtebhojbllhjkeaaDoorWord
namespace Go.Proofs.YtebhojbllhjkeaaDoor
open Go.RowKit
set_option linter.unusedVariables false

set_option maxHeartbeats 400000 in
theorem ahead_any (a b : Int) (w : World) :
    Calls Tryd.prog 12 #[.int .u32 a, .int .u32 b] w fun e w' => e = .returned (.int .u32 ((a - b) % 4294967296)) ∧ w = w' := by
  go_enter Tryd.func12, Tryd.ntmps12
  go_wp2
  go_ret
  exact ⟨rfl, rfl⟩

set_option maxHeartbeats 400000 in
theorem before_any (a b : Int) (w : World) :
    Calls Tryd.prog 13 #[.int .u32 a, .int .u32 b] w fun e w' => e = .returned (.bool (decide (2147483648 ≤ (a - b) % 4294967296))) ∧ w = w' := by
  go_enter Tryd.func13, Tryd.ntmps13
  go_wp2
  go_ret
  refine ⟨ret_bool ?_, rfl⟩
  rw [Bool.eq_iff_iff]
  simp only [decide_eq_true_eq]
  unfold wrap32
  omega

theorem high_0 (w : World) : Calls Tryd.prog 19 #[.int .u32 0] w fun e w' => e = .returned (.int .i64 (-1)) ∧ w = w' :=
  (high_any 0 w (by omega) (by omega)).mono fun _ _ ⟨h, hw⟩ => ⟨h.trans (ret_int (by decide)), hw⟩
theorem has_4_2 (w : World) : Calls Tryd.prog 7 #[.int .u32 4, .int .i64 2] w fun e w' => e = .returned (.bool true) ∧ w = w' :=
  (has_any 4 2 w (by omega) (by omega)).mono fun _ _ ⟨h, hw⟩ => ⟨h.trans (ret_bool (by decide)), hw⟩
theorem of_0_2 (w : World) : Calls Tryd.prog 4 #[.slice (some ⟨w.heap.size, 0, none⟩) 2 2] (w.alloc (.cells #[.int .i64 0, .int .i64 2] 3))
    fun e w' => e = .returned (.int .u32 5) ∧ w' = (w.alloc (.cells #[.int .i64 0, .int .i64 2] 3)).alloc (.cells #[.int .u32 5] 22) :=
  (of_any w.heap.size 0 2 2 [0, 2] _ (by simp) (by omega) (by simp) (fun i hi => by
    match i, hi with
    | 0, _ => simp
    | 1, _ => simp)).mono fun _ _ ⟨h, hw⟩ => ⟨h.trans (ret_int (by decide)), hw⟩

set_option maxHeartbeats 800000 in
theorem alive02 (w : World) :
    Calls Tryd.prog 14 #[] w fun e w' => e = .returned (.bool true) ∧ Below w.heap.size w w' := by
  go_enter Tryd.func14, Tryd.ntmps14
  go_wp2_with (first
    | (go_at_call 12; refine (ahead_any _ _ _).mono ?_; rintro e w' ⟨rfl, rfl⟩)
    | (go_at_call 19; refine (high_0 _).mono ?_; rintro e w' ⟨rfl, rfl⟩)
    | (go_at_call 7; refine (has_4_2 _).mono ?_; rintro e w' ⟨rfl, rfl⟩)
    | (go_at_call 4; refine (of_0_2 _).mono ?_; rintro e w' ⟨rfl, rfl⟩))
  go_ret
  exact ⟨rfl, ((Below.refl _ _).alloc (Nat.le_refl _) _).alloc (by simp) _⟩

end Go.Proofs.YtebhojbllhjkeaaDoor
