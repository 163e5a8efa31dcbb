/- nest's methods on a nil pointer, and what the law NestRises says of its stack. -/
import Derived.Test.YtebhojbllhjkeaaNestLaw
namespace Go.Proofs.Ytebhojbllhjkeaa
open Go.RowKit
set_option linter.unusedVariables false

theorem deep_nil (w : World) : Calls Try.prog 27 #[.pointer none] w fun e w' => e = .returned (.int .i64 0) ∧ w' = w := by
  go_enter Try.func27, Try.ntmps27
  go_wp2
  go_ret
  exact ⟨rfl, rfl⟩
theorem most_nil (w : World) : Calls Try.prog 28 #[.pointer none] w fun e w' => e = .returned (.int .i64 0) ∧ w' = w := by
  go_enter Try.func28, Try.ntmps28
  go_wp2
  go_ret
  exact ⟨rfl, rfl⟩
theorem list_nil (w : World) : Calls Try.prog 30 #[.pointer none] w fun e w' => e = .returned (.slice none 0 0) ∧ w' = w := by
  go_enter Try.func30, Try.ntmps30
  go_wp2
  go_ret
  exact ⟨rfl, rfl⟩
theorem copy_nil (w : World) : Calls Try.prog 31 #[.pointer none] w fun e w' => e = .returned (.pointer none) ∧ w' = w := by
  go_enter Try.func31, Try.ntmps31
  go_wp2
  go_ret
  exact ⟨rfl, rfl⟩
theorem top_nil (w : World) : Calls Try.prog 25 #[.pointer none] w fun e w' => e = .returned (.int .i64 (-1)) ∧ w' = w := by
  go_enter Try.func25, Try.ntmps25
  go_wp2_with (go_at_call 27; refine (deep_nil _).mono ?_; rintro e w' ⟨rfl, rfl⟩)
  go_ret
  exact ⟨rfl, rfl⟩
theorem leave_nil (w : World) : Calls Try.prog 23 #[.pointer none] w fun e w' => e = .returned (.tuple #[.int .i64 0, .bool false]) ∧ w' = w := by
  go_enter Try.func23, Try.ntmps23
  go_wp2_with (go_at_call 27; refine (deep_nil _).mono ?_; rintro e w' ⟨rfl, rfl⟩)
  go_ret2
  exact ⟨rfl, rfl⟩
theorem enter_nil (k : Int) (w : World) : Calls Try.prog 21 #[.pointer none, .int .i64 k] w fun e w' => e = .returned (.bool false) ∧ Below w.heap.size w w' := by
  have hmf : ∀ (fn : Fn) (first cap : Array Value) (w : World), (Instr.makeFunc fn first cap).run Try.prog w = .ok (.func fn first cap) w := fun _ _ _ _ => rfl
  go_enter Try.func21, Try.ntmps21
  go_wp2
  go_ret
  exact ⟨rfl, below_two _ _ _⟩

/-- levels that rise -/
def Up (s : List Int) : Prop := ∀ i, i + 1 < s.length → s.getD i 0 < s.getD (i + 1) 0
theorem Up.push {s : List Int} {k : Int} (h : Up s) (hk : mayB k s = true) : Up (s ++ [k]) := by
  obtain ⟨h0, h1, h2⟩ := of_decide_eq_true hk
  intro i hi
  rw [List.length_append, List.length_singleton] at hi
  by_cases hc : i + 1 = s.length
  · have e1 : (s ++ [k]).getD (i + 1) 0 = k := by rw [hc]; simp
    have e2 : (s ++ [k]).getD i 0 = s.getD i 0 := by simp [List.getElem?_append_left (show i < s.length by omega)]
    rw [e1, e2]
    unfold topI at h2
    rw [if_neg (by omega)] at h2
    have : s.length - 1 = i := by omega
    rwa [this] at h2
  · have := h i (by omega)
    simpa [List.getElem?_append_left (show i < s.length by omega), List.getElem?_append_left (show i + 1 < s.length by omega)] using this

theorem take_snoc (s : List Int) (i : Nat) (h : i < s.length) : s.take (i + 1) = s.take i ++ [s.getD i 0] := by
  rw [List.take_succ_eq_append_getElem h]
  simp [h]
end Go.Proofs.Ytebhojbllhjkeaa
