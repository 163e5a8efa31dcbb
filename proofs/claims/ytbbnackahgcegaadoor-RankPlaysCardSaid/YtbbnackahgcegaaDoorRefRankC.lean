/- The document's rank: Bits, List, First. -/
import Derived.Test.YtbbnackahgcegaaDoorRefRankB
import Derived.Test.YtbbnackahgcegaaDoorBools
namespace Go.Proofs.YtbbnackahgcegaaDoor
open Go.RowKit
set_option linter.all false

set_option maxRecDepth 100000 in
set_option maxHeartbeats 1000000 in
theorem fbits23_any (a : Option Addr) (c : Nat) (L : List (Int × Int)) (w : World) (h : RdL w a L) (hg : ∀ x ∈ L, 0 ≤ x.2 ∧ x.2 < 32) :
    Calls Tryd.prog 47 #[.agg #[.slice a L.length c]] w fun e w' => ∃ b, e = .returned (.int .u32 b) ∧ 0 ≤ b ∧ b ≤ 4294967295 ∧ (∀ p, p < 32 → b.toNat.testBit p = decide (∃ k, k < L.length ∧ (L.getD k (0, 0)).2 = (p : Int))) ∧ Below w.heap.size w w' := by
  have hR := h.up (below_one w (.cells #[.slice a L.length c] 70))
  have hle := h.le
  have Hat := Lib.hid hR.at_
  have Hg := Lib.hid hg
  have hcs : (w.alloc (.cells #[.slice a L.length c] 70)).cell? ⟨w.heap.size, 0, none⟩ = some (.slice a L.length c) := World.cell?_alloc_at _ _ _ _ (by simp)
  have hb1 := below_one w (.cells #[.slice a L.length c] 70)
  have hsz : w.heap.size < (w.alloc (.cells #[.slice a L.length c] 70)).heap.size := by simp
  clear h hR hg
  go_enter Tryd.func47, Tryd.ntmps47
  go_upto_region 2 with fail
  generalize (w.alloc (.cells #[.slice a L.length c] 70)) = W1 at *
  go_wp2
  go_loopw [3, 4] (fun y i wr => ∃ (k : Nat) (b : Int), k ≤ L.length ∧ i = .int .i64 k ∧ y = .int .u32 b ∧ Below W1.heap.size W1 wr ∧ 0 ≤ b ∧ b ≤ 4294967295 ∧ (∀ p, p < 32 → b.toNat.testBit p = decide (∃ j, j < k ∧ (L.getD j (0, 0)).2 = (p : Int)))) (fun _ i _ => L.length - (intOf i).toNat)
  case atStart => exact ⟨0, 0, Nat.zero_le _, rfl, rfl, Below.refl _ _, by omega, by omega, fun p _ => by simp⟩
  case round =>
    obtain ⟨k, b, hk, rfl, rfl, hbw, b0, b1, hbt⟩ := hrel
    have Hbt := Lib.hid hbt
    clear hbt
    have hds := (hbw.cell (p := ⟨w.heap.size, 0, none⟩) hsz).trans hcs
    by_cases hlt : k < L.length
    · obtain ⟨g, rfl, hc⟩ := Hat.out (by omega)
      have hc0 := (hc k hlt).2
      have hc2 := (hbw.cell (p := ⟨g, k * 2 + 1, none⟩) (block_lt_of_cell hc0)).trans hc0
      obtain ⟨z0, z1⟩ := Hg.out (L.getD k (0, 0)) (by simp [hlt])
      obtain ⟨P, hP⟩ := Int.eq_ofNat_of_zero_le z0
      rw [hP] at hc2
      have hP32 : P < 32 := by omega
      have hpu := fun W => fput_any b P true W b0 b1 hP32
      have hbd := putX_bd b P true b0 b1
      have htb := fun j => tb_putX (a := b) true b0 b1 hP32 j
      have hnew : ∀ p, p < 32 → (putX b P true).toNat.testBit p = decide (∃ j, j < k + 1 ∧ (L.getD j (0, 0)).2 = (p : Int)) := fun p hp => by
        rw [htb p]
        by_cases e : p = P
        · subst e
          rw [if_pos rfl, decide_eq_true (show ∃ j, j < k + 1 ∧ (L.getD j (0, 0)).2 = (p : Int) from ⟨k, by omega, hP⟩)]
        · rw [if_neg e, Hbt.out p hp]
          apply decide_eq_decide.2
          constructor
          · rintro ⟨j, hj, hz⟩
            exact ⟨j, by omega, hz⟩
          · rintro ⟨j, hj, hz⟩
            by_cases ej : j = k
            · subst ej
              rw [hP] at hz
              omega
            · exact ⟨j, by omega, hz⟩
      have Hnew := Lib.hid (And.intro hnew hbd)
      clear hnew htb hbd hc hc0 z0 z1 hP
      generalize putX b P true = b2 at *
      go_wp2_with (go_at_call 69; with_reducible refine (hpu _).mono ?_; rintro e w2 ⟨rfl, hb2⟩)
      go_roundw
      case rel => exact ⟨k + 1, b2, by omega, by go_num, rfl, below_trans hbw hb2, Hnew.out.2.1, Hnew.out.2.2, Hnew.out.1⟩
      case measure => simp [intOf]; omega
    · obtain rfl : k = L.length := by omega
      go_wp2
      go_ret
      exact ⟨b, rfl, b0, b1, Hbt.out, below_trans hb1 hbw⟩
end Go.Proofs.YtbbnackahgcegaaDoor
