/- The contracts of package word's functions that set, clear and test bits, and of Of: what each returns for any word and any number. -/
import Derived.Test.YtbbnackahgcegaaDoorRows
import Derived.WalkKit
import Derived.WalkSpells
import Derived.WalkLawsBesides
import Derived.Lib.Hide
import Derived.OneCell
import Derived.Test.YtbbnackahgcegaaDoorShelf
import Derived.Test.YtbbnackahgcegaaDoorBits
import Derived.Test.YtbbnackahgcegaaDoorKit
namespace Go.Proofs.YtbbnackahgcegaaDoor
open Go.RowKit
set_option linter.unusedVariables false


set_option maxHeartbeats 400000 in
theorem has_any (a i : Int) (w : World) (a0 : 0 ≤ a) (a1 : a ≤ 4294967295) :
    Calls Tryd.prog 65 #[.int .u32 a, .int .i64 i] w fun e w' => e = .returned (.bool (hasB a i)) ∧ w = w' := by
  by_cases i0 : 0 ≤ i
  · by_cases i1 : i < 32
    · have hs := Lib.hid (shr_and_one a i a0 a1)
      go_enter Tryd.func65, Tryd.ntmps65
      go_wp2
      go_ret
      exact ⟨ret_bool (by rw [hs.out, hasB_in _ _ i0 i1]), rfl⟩
    · have i2 : 32 ≤ i := by omega
      go_enter Tryd.func65, Tryd.ntmps65
      go_wp2
      go_ret
      exact ⟨ret_bool (hasB_no _ _ (by omega)).symm, rfl⟩
  · have i2 : i < 0 := by omega
    go_enter Tryd.func65, Tryd.ntmps65
    go_wp2
    go_ret
    exact ⟨ret_bool (hasB_no _ _ (by omega)).symm, rfl⟩

set_option maxHeartbeats 400000 in
theorem with_any (a i : Int) (w : World) (a0 : 0 ≤ a) (a1 : a ≤ 4294967295) :
    Calls Tryd.prog 66 #[.int .u32 a, .int .i64 i] w fun e w' => e = .returned (.int .u32 (putT a i)) ∧ w = w' := by
  by_cases i0 : 0 ≤ i
  · by_cases i1 : i < 32
    · have hs := Lib.hid (or_pow a i a0 a1 i0 i1)
      go_enter Tryd.func66, Tryd.ntmps66
      go_wp2
      go_ret
      exact ⟨ret_int (by rw [hs.out, putT_in _ _ i0 i1]), rfl⟩
    · have i2 : 32 ≤ i := by omega
      go_enter Tryd.func66, Tryd.ntmps66
      go_wp2
      go_ret
      exact ⟨ret_int (putT_no _ _ (by omega)).symm, rfl⟩
  · have i2 : i < 0 := by omega
    go_enter Tryd.func66, Tryd.ntmps66
    go_wp2
    go_ret
    exact ⟨ret_int (putT_no _ _ (by omega)).symm, rfl⟩

set_option maxHeartbeats 400000 in
theorem high_any (a : Int) (w : World) (a0 : 0 ≤ a) (a1 : a ≤ 4294967295) :
    Calls Tryd.prog 77 #[.int .u32 a] w fun e w' => e = .returned (.int .i64 ((Lib.bitLen a.toNat : Int) - 1)) ∧ w = w' := by
  have hb := bitLen_bd a.toNat (by omega)
  go_enter Tryd.func77, Tryd.ntmps77
  go_wp2_with (go_at_call 86; refine (Tryd.bits_Len32 _ _ a0 a1).mono ?_; rintro e w' ⟨rfl, rfl⟩)
  go_ret
  exact ⟨rfl, rfl⟩
end Go.Proofs.YtbbnackahgcegaaDoor
