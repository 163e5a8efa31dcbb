/- rank.Add: a task goes to the end of its row. -/
import Derived.Test.YtbbnackahgcegaaDoorRankMem
namespace Go.Proofs.YtbbnackahgcegaaDoor
open Go.RowKit
set_option linter.all false

/-- the rows with a task more at the end of row p -/
def addQ (q : Nat → List Int) (p : Nat) (t : Int) : Nat → List Int := fun j => if j = p then q p ++ [t] else q j
theorem RK.push {w : World} {B p : Nat} {q : Nat → List Int} {b n t : Int} (h : RK w B q b n) (hp : p < 32) (hl : (q p).length < 16) :
    RK ((((w.setCell ⟨B, p * 17 + (q p).length, none⟩ (.int .i64 t)).setCell ⟨B, p * 17 + 16, none⟩ (.int .i64 (((q p).length : Int) + 1))).setCell ⟨B, 545, none⟩ (.int .i64 (n + 1))).setCell ⟨B, 544, none⟩ (.int .u32 (putT b p))) B (addQ q p t) (putT b p) (n + 1) := by
  obtain ⟨x0, hx0⟩ := h.any p (q p).length hp hl
  have e : ∀ o, o ≠ 544 → o ≠ 545 → o ≠ p * 17 + 16 → o ≠ p * 17 + (q p).length → ((((w.setCell ⟨B, p * 17 + (q p).length, none⟩ (.int .i64 t)).setCell ⟨B, p * 17 + 16, none⟩ (.int .i64 (((q p).length : Int) + 1))).setCell ⟨B, 545, none⟩ (.int .i64 (n + 1))).setCell ⟨B, 544, none⟩ (.int .u32 (putT b p))).cell? ⟨B, o, none⟩ = w.cell? ⟨B, o, none⟩ := fun o h1 h2 h3 h4 => by
    rw [set_other h1, set_other h2, set_other h3, set_other h4]
  have e1 : ((((w.setCell ⟨B, p * 17 + (q p).length, none⟩ (.int .i64 t)).setCell ⟨B, p * 17 + 16, none⟩ (.int .i64 (((q p).length : Int) + 1))).setCell ⟨B, 545, none⟩ (.int .i64 (n + 1))).setCell ⟨B, 544, none⟩ (.int .u32 (putT b p))).cell? ⟨B, p * 17 + (q p).length, none⟩ = some (.int .i64 t) := by
    rw [set_other (by omega), set_other (by omega), set_other (by omega)]
    exact set_same hx0
  have e2 : ((((w.setCell ⟨B, p * 17 + (q p).length, none⟩ (.int .i64 t)).setCell ⟨B, p * 17 + 16, none⟩ (.int .i64 (((q p).length : Int) + 1))).setCell ⟨B, 545, none⟩ (.int .i64 (n + 1))).setCell ⟨B, 544, none⟩ (.int .u32 (putT b p))).cell? ⟨B, p * 17 + 16, none⟩ = some (.int .i64 (((q p).length : Int) + 1)) := by
    rw [set_other (by omega), set_other (by omega)]
    exact set_same (by rw [set_other (by omega)]; exact h.cnt p hp)
  have hb := putT_bd b p h.lo h.hi
  have lenp : ∀ j, j < 32 → (addQ q p t j).length = if j = p then (q p).length + 1 else (q j).length := fun j hj => by
    unfold addQ
    split
    · simp
    · rfl
  refine ⟨fun j i hj hi => ?_, fun j i hj hi => ?_, fun j hj => ?_, ?_, ?_, fun i hi => ?_, fun j hj => ?_, hb.1, hb.2, fun j hj => ?_⟩
  · rw [lenp j hj] at hi
    by_cases hjp : j = p
    · subst hjp
      rw [if_pos rfl] at hi
      by_cases hil : i = (q j).length
      · subst hil
        rw [e1]
        simp [addQ]
      · rw [e _ (by omega) (by omega) (by omega) (by omega), h.lev j i hj (by omega)]
        simp [addQ, List.getElem?_append_left (show i < (q j).length by omega)]
    · rw [if_neg hjp] at hi
      have := h.len j hj
      rw [e _ (by omega) (by omega) (by omega) (by omega), h.lev j i hj (by omega)]
      simp [addQ, hjp]
  · by_cases hjp : j * 17 + i = p * 17 + (q p).length
    · rw [hjp]; exact ⟨t, e1⟩
    · obtain ⟨x, hx⟩ := h.any j i hj hi
      exact ⟨x, by rw [e _ (by omega) (by omega) (by omega) hjp]; exact hx⟩
  · rw [lenp j hj]
    by_cases hjp : j = p
    · subst hjp
      rw [if_pos rfl, e2]
      simp
    · rw [if_neg hjp, e _ (by omega) (by omega) (by omega) (by omega)]
      exact h.cnt j hj
  · exact set_same (by rw [set_other (by omega), set_other (by omega), set_other (by omega)]; exact h.cb)
  · rw [set_other (by omega)]
    exact set_same (by rw [set_other (by omega), set_other (by omega)]; exact h.cn)
  · rw [set_frozen, set_frozen, set_frozen, set_frozen]
    exact h.fr i hi
  · rw [lenp j hj]
    have := h.len j hj
    split <;> omega
  · rw [tb_putT h.lo (by omega) (by omega), h.tb j hj]
    by_cases hjp : j = p
    · subst hjp
      simp [addQ]
    · simp [addQ, hjp]

set_option maxRecDepth 100000 in
set_option maxHeartbeats 1000000 in
theorem radd_yes (B p : Nat) (q : Nat → List Int) (b n task : Int) (w : World) (hT : Tab w) (h : RK w B q b n) (hno : ∀ p, p < 32 → ∀ i, i < (q p).length → (q p).getD i 0 ≠ task)
    (t0 : 0 ≤ task) (t1 : task < 16) (hp : p < 32) (hl : (q p).length < 16) (hn : 0 ≤ n ∧ n ≤ 1000) :
    Calls Tryd.prog 36 #[.pointer (some ⟨B, 0, none⟩), .int .i64 task, .int .i64 p] w fun e w' => e = .returned (.bool true) ∧ RK w' B (addQ q p task) (putT b p) (n + 1) ∧ w.grownBy w' (some B) := by
  have hfi := fun W hT h => find_no B q b n task W hT h hno
  have d1 : decide (task < 0) = false := decide_eq_false (by omega)
  have d2 : decide ((16 : Int) ≤ task) = false := decide_eq_false (by omega)
  have d3 : decide ((p : Int) < 0) = false := decide_eq_false (by omega)
  have d4 : decide ((32 : Int) ≤ p) = false := decide_eq_false (by omega)
  have p1 : (p : Int) < 32 := by omega
  have hwi := fun W => with_any b p W h.lo h.hi
  go_enter Tryd.func36, Tryd.ntmps36
  go_upto_region 4 with (go_at_call 75; with_reducible refine (hfi _ hT h).mono ?_; rintro e w1 ⟨rfl, hb1⟩)
  have h1 := h.up hb1
  have hg1 := only_of_below hb1 (some B)
  clear h hb1 hfi d1 d2 d3 d4 hno
  have hcnt := h1.cnt p hp
  obtain ⟨x0, hx0⟩ := h1.any p (q p).length hp hl
  have hf1 := h1.fr (p * 17 + (q p).length) (by omega)
  have hf2 := h1.fr (p * 17 + 16) (by omega)
  have hf3 := h1.fr 544 (by omega)
  have hf4 := h1.fr 545 (by omega)
  have hcb := h1.cb
  have hcn := h1.cn
  have hPush := Lib.hid (h1.push (t := task) hp hl)
  have l1 : ((q p).length : Int) < 16 := by omega
  have Hlen := Lib.hid (rfl : (q p).length = (q p).length)
  generalize hL : (q p).length = L at *
  have HL := Lib.hid hL
  clear hL
  go_upto_region 5 with fail
  go_region
  go_wp2_with (go_at_call 66; with_reducible refine (hwi _).mono ?_; rintro e w2 ⟨rfl, rfl⟩)
  go_ret
  refine ⟨rfl, ?_, ?_⟩
  · first | exact hPush.out | exact hPush.out.drewN 1
  · first | exact only_set (only_set (only_set (only_set hg1 _) _) _) _ | exact only_drewN (only_set (only_set (only_set (only_set hg1 _) _) _) _) 1

set_option maxRecDepth 100000 in
set_option maxHeartbeats 1000000 in
theorem radd_no_had (B : Nat) (task prio x y : Int) (s : Bool) (hs : s = true) (w : World) (hfi : Calls Tryd.prog 75 #[.pointer (some ⟨B, 0, none⟩), .int .i64 task] w fun e w' => e = .returned (.tuple #[.int .i64 x, .int .i64 y, .bool s]) ∧ Below w.heap.size w w') :
    Calls Tryd.prog 36 #[.pointer (some ⟨B, 0, none⟩), .int .i64 task, .int .i64 prio] w fun e w' => e = .returned (.bool false) ∧ Below w.heap.size w w' := by
  subst hs
  go_enter Tryd.func36, Tryd.ntmps36
  go_wp2_with (go_at_call 75; with_reducible refine hfi.mono ?_; rintro e w1 ⟨rfl, hb1⟩)
  go_ret
  exact ⟨rfl, hb1⟩

set_option maxRecDepth 100000 in
set_option maxHeartbeats 1000000 in
theorem radd_no_lo (B : Nat) (task prio x y : Int) (s : Bool) (hs : s = false) (d0 : decide (task < 0) = true) (w : World) (hfi : Calls Tryd.prog 75 #[.pointer (some ⟨B, 0, none⟩), .int .i64 task] w fun e w' => e = .returned (.tuple #[.int .i64 x, .int .i64 y, .bool s]) ∧ Below w.heap.size w w') :
    Calls Tryd.prog 36 #[.pointer (some ⟨B, 0, none⟩), .int .i64 task, .int .i64 prio] w fun e w' => e = .returned (.bool false) ∧ Below w.heap.size w w' := by
  subst hs
  go_enter Tryd.func36, Tryd.ntmps36
  go_wp2_with (go_at_call 75; with_reducible refine hfi.mono ?_; rintro e w1 ⟨rfl, hb1⟩)
  go_ret
  exact ⟨rfl, hb1⟩

set_option maxRecDepth 100000 in
set_option maxHeartbeats 1000000 in
theorem radd_no_hi (B : Nat) (task prio x y : Int) (s : Bool) (hs : s = false) (d0 : decide (task < 0) = false) (d1 : decide ((16 : Int) ≤ task) = true) (w : World) (hfi : Calls Tryd.prog 75 #[.pointer (some ⟨B, 0, none⟩), .int .i64 task] w fun e w' => e = .returned (.tuple #[.int .i64 x, .int .i64 y, .bool s]) ∧ Below w.heap.size w w') :
    Calls Tryd.prog 36 #[.pointer (some ⟨B, 0, none⟩), .int .i64 task, .int .i64 prio] w fun e w' => e = .returned (.bool false) ∧ Below w.heap.size w w' := by
  subst hs
  go_enter Tryd.func36, Tryd.ntmps36
  go_wp2_with (go_at_call 75; with_reducible refine hfi.mono ?_; rintro e w1 ⟨rfl, hb1⟩)
  go_ret
  exact ⟨rfl, hb1⟩

set_option maxRecDepth 100000 in
set_option maxHeartbeats 1000000 in
theorem radd_no_plo (B : Nat) (task prio x y : Int) (s : Bool) (hs : s = false) (d0 : decide (task < 0) = false) (d1 : decide ((16 : Int) ≤ task) = false) (d2 : decide (prio < 0) = true) (w : World) (hfi : Calls Tryd.prog 75 #[.pointer (some ⟨B, 0, none⟩), .int .i64 task] w fun e w' => e = .returned (.tuple #[.int .i64 x, .int .i64 y, .bool s]) ∧ Below w.heap.size w w') :
    Calls Tryd.prog 36 #[.pointer (some ⟨B, 0, none⟩), .int .i64 task, .int .i64 prio] w fun e w' => e = .returned (.bool false) ∧ Below w.heap.size w w' := by
  subst hs
  go_enter Tryd.func36, Tryd.ntmps36
  go_wp2_with (go_at_call 75; with_reducible refine hfi.mono ?_; rintro e w1 ⟨rfl, hb1⟩)
  go_ret
  exact ⟨rfl, hb1⟩

set_option maxRecDepth 100000 in
set_option maxHeartbeats 1000000 in
theorem radd_no_phi (B : Nat) (task prio x y : Int) (s : Bool) (hs : s = false) (d0 : decide (task < 0) = false) (d1 : decide ((16 : Int) ≤ task) = false) (d2 : decide (prio < 0) = false) (d3 : decide ((32 : Int) ≤ prio) = true) (w : World) (hfi : Calls Tryd.prog 75 #[.pointer (some ⟨B, 0, none⟩), .int .i64 task] w fun e w' => e = .returned (.tuple #[.int .i64 x, .int .i64 y, .bool s]) ∧ Below w.heap.size w w') :
    Calls Tryd.prog 36 #[.pointer (some ⟨B, 0, none⟩), .int .i64 task, .int .i64 prio] w fun e w' => e = .returned (.bool false) ∧ Below w.heap.size w w' := by
  subst hs
  go_enter Tryd.func36, Tryd.ntmps36
  go_wp2_with (go_at_call 75; with_reducible refine hfi.mono ?_; rintro e w1 ⟨rfl, hb1⟩)
  go_ret
  exact ⟨rfl, hb1⟩

/-- Add where nobody of that number is there, and the number or the priority is none -/
theorem radd_bad (B : Nat) (q : Nat → List Int) (b n task prio : Int) (w : World) (hT : Tab w) (h : RK w B q b n) (hno : ∀ p, p < 32 → ∀ i, i < (q p).length → (q p).getD i 0 ≠ task)
    (hbad : ¬ (0 ≤ task ∧ task < 16 ∧ 0 ≤ prio ∧ prio < 32)) :
    Calls Tryd.prog 36 #[.pointer (some ⟨B, 0, none⟩), .int .i64 task, .int .i64 prio] w fun e w' => e = .returned (.bool false) ∧ Below w.heap.size w w' := by
  have hfi := find_no B q b n task w hT h hno
  by_cases h0 : task < 0
  · exact radd_no_lo B task prio 0 0 false rfl (decide_eq_true h0) w hfi
  · by_cases h1 : 16 ≤ task
    · exact radd_no_hi B task prio 0 0 false rfl (decide_eq_false h0) (decide_eq_true h1) w hfi
    · by_cases h2 : prio < 0
      · exact radd_no_plo B task prio 0 0 false rfl (decide_eq_false h0) (decide_eq_false h1) (decide_eq_true h2) w hfi
      · exact radd_no_phi B task prio 0 0 false rfl (decide_eq_false h0) (decide_eq_false h1) (decide_eq_false h2) (decide_eq_true (by omega)) w hfi
end Go.Proofs.YtbbnackahgcegaaDoor
