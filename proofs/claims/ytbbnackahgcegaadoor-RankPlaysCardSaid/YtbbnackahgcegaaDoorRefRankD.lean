/- The document's rank: List, First. -/
import Derived.Test.YtbbnackahgcegaaDoorRefRankC
import Derived.Test.YtbbnackahgcegaaDoorRankList
namespace Go.Proofs.YtbbnackahgcegaaDoor
open Go.RowKit
set_option linter.all false

theorem rowL_len (L : List (Int × Int)) (p : Nat) : (rowL L p).length ≤ L.length := by
  unfold rowL
  rw [List.length_map]
  exact List.length_filter_le _ _
theorem rowL_take {L : List (Int × Int)} {k : Nat} (h : k < L.length) (p : Nat) : rowL (L.take (k + 1)) p = rowL (L.take k) p ++ (if (L.getD k (0, 0)).2 = (p : Int) then [(L.getD k (0, 0)).1] else []) := by
  have e : L.take (k + 1) = L.take k ++ [L.getD k (0, 0)] := by rw [List.take_succ]; simp [h]
  rw [e, rowL_append]
  congr 1
  unfold rowL
  by_cases hz : (L.getD k (0, 0)).2 = (p : Int)
  · rw [if_pos hz, List.filter_cons, if_pos (decide_eq_true hz)]; rfl
  · rw [if_neg hz, List.filter_cons, if_neg (by simpa using hz)]; rfl

set_option maxRecDepth 100000 in
set_option maxHeartbeats 1000000 in
theorem flist_any (a : Option Addr) (c : Nat) (L : List (Int × Int)) (w : World) (h : RdL w a L) (hl : L.length ≤ 16) :
    Calls Tryd.prog 51 #[.agg #[.slice a L.length c]] w fun e w' => ∃ v, e = .returned v ∧ Iv w' w.heap.size v (catQ (rowL L) 32) ∧ Below w.heap.size w w' := by
  have hR := h.up (below_one w (.cells #[.slice a L.length c] 70))
  have hle := h.le
  have Hat := Lib.hid hR.at_
  have hcs : (w.alloc (.cells #[.slice a L.length c] 70)).cell? ⟨w.heap.size, 0, none⟩ = some (.slice a L.length c) := World.cell?_alloc_at _ _ _ _ (by simp)
  have hb1 := below_one w (.cells #[.slice a L.length c] 70)
  have hsz : w.heap.size < (w.alloc (.cells #[.slice a L.length c] 70)).heap.size := by simp
  clear h hR
  go_enter Tryd.func51, Tryd.ntmps51
  go_upto_region 2 with fail
  generalize (w.alloc (.cells #[.slice a L.length c] 70)) = W1 at *
  go_wp2
  obtain ⟨i0, hi, hz0, hz1, hz2⟩ := info_parts infoI
  have Hcl := Lib.hid (catQ_len (q := rowL L) (fun p _ => Nat.le_trans (rowL_len L p) hl))
  go_loopw [3, 4] (fun y i wr => ∃ (cc : Nat) (acc : List Int), cc ≤ 32 ∧ i = .int .i64 ((cc : Int) - 1) ∧ acc ++ catQ (rowL L) cc = catQ (rowL L) 32 ∧ Iv wr W1.heap.size y acc ∧ Below W1.heap.size W1 wr) (fun _ i _ => (intOf i + 1).toNat)
  case atStart => exact ⟨32, [], by omega, rfl, rfl, World.ownsRow_nil _ _ _ _, Below.refl _ _⟩
  case round =>
    obtain ⟨cc, acc, hcc, rfl, hcat, hv, hbw⟩ := hrel
    cases cc with
    | zero =>
      have Hv := Lib.hid (And.intro hcat hv)
      clear hcat hv
      have e : ((0 : Nat) : Int) - 1 = -1 := by omega
      simp only [e]
      go_wp2
      go_ret
      refine ⟨_, rfl, ?_, below_trans hb1 hbw⟩
      have h1 := Hv.out.1
      rw [catQ, List.append_nil] at h1
      rw [← h1]
      exact owns_base Hv.out.2 (by omega)
    | succ p =>
      have e : ((p + 1 : Nat) : Int) - 1 = (p : Int) := by omega
      simp only [e]
      have hp0 : decide ((0 : Int) ≤ (p : Int)) = true := decide_eq_true (by omega)
      have hlacc : acc.length + (rowL L p).length ≤ 512 := by
        have h4 := Hcl.out 32 (by omega)
        rw [← hcat, catQ, List.length_append, List.length_append] at h4
        omega
      have Hcat := Lib.hid hcat
      clear hcat
      have St0 := Lib.hid (And.intro hv hbw)
      clear hv hbw
      go_wp2
      go_loopw [3, 5] (fun y i wr => ∃ (k : Nat), k ≤ L.length ∧ i = .int .i64 k ∧ Iv wr W1.heap.size y (acc ++ rowL (L.take k) p) ∧ Below W1.heap.size W1 wr) (fun _ i _ => L.length - (intOf i).toNat)
      case atStart => exact ⟨0, Nat.zero_le _, rfl, by rw [List.take_zero]; simpa [rowL] using St0.out.1, St0.out.2⟩
      case round =>
        obtain ⟨k, hk, rfl, hv, hbw⟩ := hrel
        have hds := (hbw.cell (p := ⟨w.heap.size, 0, none⟩) hsz).trans hcs
        by_cases hlt : k < L.length
        · obtain ⟨g, rfl, hc⟩ := Hat.out (by omega)
          have hc1 := (hbw.cell (p := ⟨g, k * 2, none⟩) (block_lt_of_cell (hc k hlt).1)).trans (hc k hlt).1
          have hc2 := (hbw.cell (p := ⟨g, k * 2 + 1, none⟩) (block_lt_of_cell (hc k hlt).2)).trans (hc k hlt).2
          have htk := Lib.hid (rowL_take hlt p)
          have hlk : (rowL (L.take k) p).length ≤ 16 := Nat.le_trans (rowL_len _ _) (by simp; omega)
          generalize (L.getD k (0, 0)).1 = t at *
          generalize (L.getD k (0, 0)).2 = z at *
          by_cases hz : z = (p : Int)
          · subst hz
            have hzb : ((p : Int) == (p : Int)) = true := by simp
            have Hv := Lib.hid hv
            clear hv hc
            go_wp2_with (at_builtin; apply stop)
            refine Stop.go ?_
            refine wpList_append_own _ rfl (.tmp 25) (.tmp 32) 22 rfl W1.heap.size 3 i0 (.int .i64 0) 1 8 Tryd.underlying22 hi hz0 hz1 hz2 rfl (by decide) _ (acc ++ rowL (L.take k) p).length ((acc ++ rowL (L.take k) p).map (Value.int .i64)) rfl (Hv.out.alloc _) ⟨wr.heap.size, 0, none⟩ 1 1 [.int .i64 t] rfl (by simp) (cell_one_new _ _ _) (by simp [Value.oneCell']) (by unfold maxLen; rw [List.length_append]; omega) (by rw [List.length_append]; omega) (by have := hbw.size; simp; omega) ?_
            intro v3 w3 hown3 hgr3 _
            have hb3 := below_append' hbw hbw.size Hv.out hgr3
            have hO : Iv w3 W1.heap.size v3 (acc ++ rowL (L.take (k + 1)) p) := by
              rw [htk.out, if_pos (by trivial), ← List.append_assoc]
              generalize acc ++ rowL (L.take k) p = s at hown3 ⊢
              exact ⟨by simp, by have := hown3.2; simpa using this⟩
            clear hgr3 hown3
            have HO := Lib.hid hO
            clear hO
            go_wp2
            go_roundw
            case rel => exact ⟨k + 1, by omega, by go_num, HO.out, hb3⟩
            case measure => simp [intOf]; omega
          · have hzb : (z == (p : Int)) = false := by simpa using hz
            have hO := hv
            rw [show rowL (L.take k) p = rowL (L.take (k + 1)) p by rw [htk.out, if_neg hz, List.append_nil]] at hO
            have HO := Lib.hid hO
            clear hv hO hc hz
            go_wp2
            go_roundw
            case rel => exact ⟨k + 1, by omega, by go_num, HO.out, hbw⟩
            case measure => simp [intOf]; omega
        · obtain rfl : k = L.length := by omega
          rw [List.take_length] at hv
          have Hv := Lib.hid hv
          clear hv
          go_wp2
          go_roundw
          case rel => exact ⟨p, acc ++ rowL L p, by omega, by go_num, by rw [List.append_assoc]; exact Hcat.out, Hv.out, hbw⟩
          case measure => first | (simp [intOf]; done) | (simp [intOf]; omega)
end Go.Proofs.YtbbnackahgcegaaDoor
