/- The contracts of word.Ahead and word.Before, and of layer 2's 'alive', which every law of that layer calls. -/
import Derived.Test.YtebhojbllhjkeaaWord
namespace Go.Proofs.Ytebhojbllhjkeaa
open Go.RowKit
set_option linter.unusedVariables false

set_option maxHeartbeats 400000 in
theorem ahead_any (a b : Int) (w : World) :
    Calls Try.prog 11 #[.int .u32 a, .int .u32 b] w fun e w' => e = .returned (.int .u32 ((a - b) % 4294967296)) ∧ w = w' := by
  go_enter Try.func11, Try.ntmps11
  go_wp2
  go_ret
  exact ⟨rfl, rfl⟩

set_option maxHeartbeats 400000 in
theorem before_any (a b : Int) (w : World) :
    Calls Try.prog 13 #[.int .u32 a, .int .u32 b] w fun e w' => e = .returned (.bool (decide (2147483648 ≤ (a - b) % 4294967296))) ∧ w = w' := by
  go_enter Try.func13, Try.ntmps13
  go_wp2
  go_ret
  refine ⟨ret_bool ?_, rfl⟩
  rw [Bool.eq_iff_iff]
  simp only [decide_eq_true_eq]
  unfold wrap32
  omega

theorem high_0 (w : World) : Calls Try.prog 65 #[.int .u32 0] w fun e w' => e = .returned (.int .i64 (-1)) ∧ w = w' :=
  (high_any 0 w (by omega) (by omega)).mono fun _ _ ⟨h, hw⟩ => ⟨h.trans (ret_int (by decide)), hw⟩
theorem has_4_2 (w : World) : Calls Try.prog 66 #[.int .u32 4, .int .i64 2] w fun e w' => e = .returned (.bool true) ∧ w = w' :=
  (has_any 4 2 w (by omega) (by omega)).mono fun _ _ ⟨h, hw⟩ => ⟨h.trans (ret_bool (by decide)), hw⟩
theorem of_0_2 (w : World) : Calls Try.prog 67 #[.slice (some ⟨w.heap.size, 0, none⟩) 2 2] (w.alloc (.cells #[.int .i64 0, .int .i64 2] 3))
    fun e w' => e = .returned (.int .u32 5) ∧ w' = (w.alloc (.cells #[.int .i64 0, .int .i64 2] 3)).alloc (.cells #[.int .u32 5] 22) :=
  (of_any w.heap.size 0 2 2 [0, 2] _ (by simp) (by omega) (by simp) (fun i hi => by
    match i, hi with
    | 0, _ => simp
    | 1, _ => simp)).mono fun _ _ ⟨h, hw⟩ => ⟨h.trans (ret_int (by decide)), hw⟩

set_option maxHeartbeats 800000 in
theorem alive02 (w : World) :
    Calls Try.prog 19 #[] w fun e w' => e = .returned (.bool true) ∧ Below w.heap.size w w' := by
  go_enter Try.func19, Try.ntmps19
  go_wp2_with (first
    | (go_at_call 11; refine (ahead_any _ _ _).mono ?_; rintro e w' ⟨rfl, rfl⟩)
    | (go_at_call 65; refine (high_0 _).mono ?_; rintro e w' ⟨rfl, rfl⟩)
    | (go_at_call 66; refine (has_4_2 _).mono ?_; rintro e w' ⟨rfl, rfl⟩)
    | (go_at_call 67; refine (of_0_2 _).mono ?_; rintro e w' ⟨rfl, rfl⟩))
  go_ret
  exact ⟨rfl, ((Below.refl _ _).alloc (Nat.le_refl _) _).alloc (by simp) _⟩

end Go.Proofs.Ytebhojbllhjkeaa
