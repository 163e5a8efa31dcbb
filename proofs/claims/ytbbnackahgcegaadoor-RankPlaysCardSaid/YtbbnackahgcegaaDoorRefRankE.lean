/- The document's rank: First. -/
import Derived.Test.YtbbnackahgcegaaDoorRefRankD
namespace Go.Proofs.YtbbnackahgcegaaDoor
open Go.RowKit
set_option linter.all false

set_option maxRecDepth 100000 in
set_option maxHeartbeats 1000000 in
theorem ffirst_any (a : Option Addr) (c : Nat) (L : List (Int × Int)) (w : World) (h : RdL w a L) (hl : L.length ≤ 16) :
    Calls Tryd.prog 43 #[.agg #[.slice a L.length c]] w fun e w' => e = .returned (.tuple #[.int .i64 ((catQ (rowL L) 32).getD 0 0), .bool (decide (0 < (catQ (rowL L) 32).length))]) ∧ Below w.heap.size w w' := by
  have hls := fun W h => flist_any a c L W h hl
  have hR := h.up (below_one w (.cells #[.slice a L.length c] 70))
  generalize catQ (rowL L) 32 = ls at *
  rcases Nat.eq_zero_or_pos ls.length with h0 | h0
  · have e1 : ls.getD 0 0 = 0 := by rw [List.eq_nil_of_length_eq_zero h0]; rfl
    have e2 : decide (0 < ls.length) = false := decide_eq_false (by omega)
    rw [e1, e2]
    clear e1 e2
    go_enter Tryd.func43, Tryd.ntmps43
    go_wp2_with (go_at_call 51; with_reducible refine (hls _ hR).mono ?_; rintro e w2 ⟨v, rfl, hv, hb2⟩; obtain ⟨a2, c2, ev, _, _, hc⟩ := hv.shape; rw [h0] at ev; subst ev)
    exact bodyPost_ret (v := .tuple #[.int .i64 0, .bool false]) (by simp [results, Tryd.results43, go_sem]) rfl ⟨rfl, below_trans (below_one _ _) hb2⟩
  · have e2 : decide (0 < ls.length) = true := decide_eq_true h0
    rw [e2]
    clear e2
    have hnz : ((ls.length : Int) == 0) = false := beq_eq_false_iff_ne.2 (by omega)
    generalize hf : ls.getD 0 0 = f
    have Hf := Lib.hid hf
    clear hf
    have hlz : ¬ ls.length = 0 := by omega
    go_enter Tryd.func43, Tryd.ntmps43
    go_wp2_with (go_at_call 51; with_reducible refine (hls _ hR).mono ?_; rintro e w2 ⟨v, rfl, hv, hb2⟩; obtain ⟨a2, c2, ev, _, _, hc⟩ := hv.shape; obtain ⟨g, ea, _, _, hcc⟩ := hc h0; subst ea; subst ev; have hc0 := hcc 0 h0; rw [Hf.out] at hc0; clear hcc hc)
    exact bodyPost_ret (v := .tuple #[.int .i64 f, .bool true]) (by simp [results, Tryd.results43, go_sem]) rfl ⟨rfl, below_trans (below_one _ _) hb2⟩
end Go.Proofs.YtbbnackahgcegaaDoor
