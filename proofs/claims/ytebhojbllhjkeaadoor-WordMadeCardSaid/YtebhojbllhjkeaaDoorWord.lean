/- The contracts of package word's functions that set, clear and test bits, and of Of: what each returns for any word and any number. -/
import Derived.Test.YtebhojbllhjkeaaDoorRows
import Derived.WalkKit
import Derived.WalkSpells
import Derived.WalkLawsBesides
import Derived.Lib.Hide
import Derived.OneCell
import Derived.Test.YtebhojbllhjkeaaDoorShelf
import Derived.Test.YtebhojbllhjkeaaDoorBits
import Derived.Test.YtebhojbllhjkeaaDoorKit
namespace Go.Proofs.YtebhojbllhjkeaaDoor
open Go.RowKit
set_option linter.unusedVariables false


set_option maxHeartbeats 400000 in
theorem has_any (a i : Int) (w : World) (a0 : 0 ≤ a) (a1 : a ≤ 4294967295) :
    Calls Tryd.prog 7 #[.int .u32 a, .int .i64 i] w fun e w' => e = .returned (.bool (hasB a i)) ∧ w = w' := by
  by_cases i0 : 0 ≤ i
  · by_cases i1 : i < 32
    · have hs := Lib.hid (shr_and_one a i a0 a1)
      go_enter Tryd.func7, Tryd.ntmps7
      go_wp2
      go_ret
      exact ⟨ret_bool (by rw [hs.out, hasB_in _ _ i0 i1]), rfl⟩
    · have i2 : 32 ≤ i := by omega
      go_enter Tryd.func7, Tryd.ntmps7
      go_wp2
      go_ret
      exact ⟨ret_bool (hasB_no _ _ (by omega)).symm, rfl⟩
  · have i2 : i < 0 := by omega
    go_enter Tryd.func7, Tryd.ntmps7
    go_wp2
    go_ret
    exact ⟨ret_bool (hasB_no _ _ (by omega)).symm, rfl⟩

set_option maxHeartbeats 400000 in
theorem with_any (a i : Int) (w : World) (a0 : 0 ≤ a) (a1 : a ≤ 4294967295) :
    Calls Tryd.prog 8 #[.int .u32 a, .int .i64 i] w fun e w' => e = .returned (.int .u32 (putT a i)) ∧ w = w' := by
  by_cases i0 : 0 ≤ i
  · by_cases i1 : i < 32
    · have hs := Lib.hid (or_pow a i a0 a1 i0 i1)
      go_enter Tryd.func8, Tryd.ntmps8
      go_wp2
      go_ret
      exact ⟨ret_int (by rw [hs.out, putT_in _ _ i0 i1]), rfl⟩
    · have i2 : 32 ≤ i := by omega
      go_enter Tryd.func8, Tryd.ntmps8
      go_wp2
      go_ret
      exact ⟨ret_int (putT_no _ _ (by omega)).symm, rfl⟩
  · have i2 : i < 0 := by omega
    go_enter Tryd.func8, Tryd.ntmps8
    go_wp2
    go_ret
    exact ⟨ret_int (putT_no _ _ (by omega)).symm, rfl⟩

set_option maxHeartbeats 400000 in
theorem high_any (a : Int) (w : World) (a0 : 0 ≤ a) (a1 : a ≤ 4294967295) :
    Calls Tryd.prog 19 #[.int .u32 a] w fun e w' => e = .returned (.int .i64 ((Lib.bitLen a.toNat : Int) - 1)) ∧ w = w' := by
  have hb := bitLen_bd a.toNat (by omega)
  go_enter Tryd.func19, Tryd.ntmps19
  go_wp2_with (go_at_call 20; refine (Tryd.bits_Len32 _ _ a0 a1).mono ?_; rintro e w' ⟨rfl, rfl⟩)
  go_ret
  exact ⟨rfl, rfl⟩

/-- the closure in Of: it sets one bit of the cell that it captured -/
theorem put_any (i x : Int) (b : Nat) (w : World) (x0 : 0 ≤ x) (x1 : x ≤ 4294967295) (hc : w.cell? ⟨b, 0, none⟩ = some (.int .u32 x)) (hf : w.frozen? ⟨b, 0, none⟩ = false) :
    Calls Tryd.prog 15 #[.int .i64 i, .pointer (some ⟨b, 0, none⟩)] w fun e w' => e = .returned (.tuple #[]) ∧ w' = w.setCell ⟨b, 0, none⟩ (.int .u32 (putT x i)) := by
  go_enter Tryd.func15, Tryd.ntmps15
  go_wp2_with (go_at_call 8; refine (with_any _ _ _ x0 x1).mono ?_; rintro e w' ⟨rfl, rfl⟩)
  go_end0
  exact ⟨rfl, rfl⟩

set_option maxHeartbeats 800000 in
/-- Of: the word that the bits make; 'zs': the slice's cells. -/
theorem of_any (b off len cap : Nat) (zs : List Int) (w : World) (hl : len ≤ zs.length) (hm : len ≤ 9223372036854775807) (hb : b < w.heap.size)
    (hc : ∀ i, i < len → w.cell? ⟨b, off + i, none⟩ = some (.int .i64 (zs.getD i 0))) :
    Calls Tryd.prog 4 #[.slice (some ⟨b, off, none⟩) len cap] w fun e w' => e = .returned (.int .u32 (ofL (zs.take len))) ∧ w' = w.alloc (.cells #[.int .u32 (ofL (zs.take len))] 22) := by
  have hmf : ∀ (fn : Fn) (first cap : Array Value) (w : World), (Instr.makeFunc fn first cap).run Tryd.prog w = .ok (.func fn first cap) w := fun _ _ _ _ => rfl
  go_enter Tryd.func4, Tryd.ntmps4
  go_wp2
  go_loopw [9] (fun i wr => ∃ k : Nat, k ≤ len ∧ i = .int .i64 k ∧ wr = w.alloc (.cells #[.int .u32 (ofL (zs.take k))] 22)) (fun i _ => len - (intOf i).toNat)
  case atStart => exact ⟨0, Nat.zero_le _, rfl, rfl⟩
  case round =>
    obtain ⟨k, hk, rfl, rfl⟩ := hrel
    have hbd := ofL_bd (zs.take k)
    by_cases hlt : k < len
    · have hcell := hc k hlt
      have hne : b ≠ w.heap.size := by omega
      have hs := Lib.hid (ofL_take_succ zs k (by omega))
      go_wp2_with (go_at_call 15; refine (put_any _ (ofL (zs.take k)) w.heap.size _ hbd.1 hbd.2 (by simp) (by simp)).mono ?_; rintro e w' ⟨rfl, rfl⟩)
      go_roundw
      case rel => exact ⟨k + 1, by omega, by go_num, by rw [hs.out]; simp⟩
      case measure => simp [intOf]; omega
    · obtain rfl : k = len := by omega
      go_wp2
      exact bodyPost_ret (v := .int .u32 (ofL (zs.take k))) (by simp [results, Tryd.results4, go_sem]) rfl ⟨rfl, rfl⟩

set_option maxHeartbeats 800000 in
/-- Of nothing: 0. -/
theorem of_nil (c : Nat) (w : World) :
    Calls Tryd.prog 4 #[.slice none 0 c] w fun e w' => e = .returned (.int .u32 0) ∧ w' = w.alloc (.cells #[.int .u32 0] 22) := by
  have hmf : ∀ (fn : Fn) (first cap : Array Value) (w : World), (Instr.makeFunc fn first cap).run Tryd.prog w = .ok (.func fn first cap) w := fun _ _ _ _ => rfl
  go_enter Tryd.func4, Tryd.ntmps4
  go_wp2
  go_loopw [9] (fun i wr => i = .int .i64 0 ∧ wr = w.alloc (.cells #[.int .u32 0] 22)) (fun i _ => 0)
  case atStart => exact ⟨rfl, rfl⟩
  case round =>
    obtain ⟨rfl, rfl⟩ := hrel
    go_wp2
    exact bodyPost_ret (v := .int .u32 0) (by simp [results, Tryd.results4, go_sem]) rfl ⟨rfl, rfl⟩

end Go.Proofs.YtebhojbllhjkeaaDoor
