/- rank.Turn, First, Prio, Bits, Len. -/
import Derived.Test.YtbbnackahgcegaaDoorRankRemove
namespace Go.Proofs.YtbbnackahgcegaaDoor
open Go.RowKit
set_option linter.all false

set_option maxRecDepth 100000 in
set_option maxHeartbeats 1000000 in
theorem rlen_any (B : Nat) (q : Nat → List Int) (b n : Int) (w : World) (h : RK w B q b n) :
    Calls Tryd.prog 48 #[.pointer (some ⟨B, 0, none⟩)] w fun e w' => e = .returned (.int .i64 n) ∧ w' = w := by
  have hcn := h.cn
  clear h
  go_enter Tryd.func48, Tryd.ntmps48
  go_wp2
  go_ret
  exact ⟨rfl, rfl⟩

set_option maxRecDepth 100000 in
set_option maxHeartbeats 1000000 in
theorem rbits_any (B : Nat) (q : Nat → List Int) (b n : Int) (w : World) (h : RK w B q b n) :
    Calls Tryd.prog 46 #[.pointer (some ⟨B, 0, none⟩)] w fun e w' => e = .returned (.int .u32 b) ∧ w' = w := by
  have hcb := h.cb
  clear h
  go_enter Tryd.func46, Tryd.ntmps46
  go_wp2
  go_ret
  exact ⟨rfl, rfl⟩

set_option maxRecDepth 100000 in
set_option maxHeartbeats 1000000 in
theorem rprio_any (B : Nat) (task x y : Int) (s : Bool) (w : World) (hfi : Calls Tryd.prog 75 #[.pointer (some ⟨B, 0, none⟩), .int .i64 task] w fun e w' => e = .returned (.tuple #[.int .i64 x, .int .i64 y, .bool s]) ∧ Below w.heap.size w w') :
    Calls Tryd.prog 44 #[.pointer (some ⟨B, 0, none⟩), .int .i64 task] w fun e w' => e = .returned (.tuple #[.int .i64 x, .bool s]) ∧ Below w.heap.size w w' := by
  go_enter Tryd.func44, Tryd.ntmps44
  go_wp2_with (go_at_call 75; with_reducible refine hfi.mono ?_; rintro e w1 ⟨rfl, hb1⟩)
  exact bodyPost_ret (v := .tuple #[.int .i64 x, .bool s]) (by simp [results, Tryd.results44, go_sem]) rfl ⟨rfl, hb1⟩

set_option maxRecDepth 100000 in
set_option maxHeartbeats 1000000 in
theorem rfirst_no (B : Nat) (q : Nat → List Int) (b n : Int) (w : World) (h : RK w B q b n) (hn : n = 0) :
    Calls Tryd.prog 42 #[.pointer (some ⟨B, 0, none⟩)] w fun e w' => e = .returned (.tuple #[.int .i64 0, .bool false]) ∧ Below w.heap.size w w' := by
  subst hn
  have hl := fun W h => rlen_any B q b 0 W h
  go_enter Tryd.func42, Tryd.ntmps42
  go_wp2_with (go_at_call 48; with_reducible refine (hl _ h).mono ?_; rintro e w1 ⟨rfl, rfl⟩)
  exact bodyPost_ret (v := .tuple #[.int .i64 0, .bool false]) (by simp [results, Tryd.results42, go_sem]) rfl ⟨rfl, Below.refl _ _⟩

set_option maxRecDepth 100000 in
set_option maxHeartbeats 1000000 in
theorem rfirst_yes (B P : Nat) (q : Nat → List Int) (b n : Int) (w : World) (h : RK w B q b n) (hn : n ≠ 0) (hP : P < 32) (hhi : hiI b = P) (hq : 0 < (q P).length) :
    Calls Tryd.prog 42 #[.pointer (some ⟨B, 0, none⟩)] w fun e w' => e = .returned (.tuple #[.int .i64 ((q P).getD 0 0), .bool true]) ∧ Below w.heap.size w w' := by
  have hl := fun W h => rlen_any B q b n W h
  have hhg := fun W => high_any b W h.lo h.hi
  unfold hiI at hhi
  rw [hhi] at hhg
  have hz : (n == 0) = false := by simpa using hn
  have p1 : (P : Int) < 32 := by omega
  have hc : w.cell? ⟨B, P * 17, none⟩ = some (.int .i64 ((q P).getD 0 0)) := h.lev P 0 hP hq
  have hcb := h.cb
  go_enter Tryd.func42, Tryd.ntmps42
  go_upto_region 3 with (go_at_call 48; with_reducible refine (hl _ h).mono ?_; rintro e w1 ⟨rfl, rfl⟩)
  have hfo : ∀ W, Calls Tryd.prog 77 #[.int .u32 b] W fun e w' => e = .returned (.int .i64 P) ∧ W = w' := hhg
  clear hhg hl h hn hhi hq
  go_region_with (go_at_call 77; with_reducible refine (hfo _).mono ?_; rintro e w2 ⟨rfl, rfl⟩)
  go_wp2
  exact bodyPost_ret (v := .tuple #[.int .i64 ((q P).getD 0 0), .bool true]) (by simp [results, Tryd.results42, go_sem]) rfl ⟨rfl, below_drewN (Below.refl _ _) 1⟩

theorem Tab.only {w w' : World} {B : Nat} (h : Tab w) (hg : w.grownBy w' (some B)) (hB : 0 < B) : Tab w' := fun j hj => (only_cell hg (p := ⟨0, j, none⟩) h.lt (Nat.ne_of_lt hB)).trans (h j hj)

theorem delQ_no {q : Nat → List Int} {P J : Nat} {task : Int} (hJ : J < (q P).length) (hone : ∀ p, p < 32 → ∀ i, i < (q p).length → (q p).getD i 0 = task → p = P ∧ i = J) :
    ∀ p, p < 32 → ∀ i, i < (delQ q P J p).length → (delQ q P J p).getD i 0 ≠ task := by
  intro p hp i hi he
  unfold delQ at hi he
  by_cases e : p = P
  · subst e
    rw [if_pos rfl] at hi he
    rw [List.length_eraseIdx, if_pos hJ] at hi
    rw [List.getD_eq_getElem?_getD, List.getElem?_eraseIdx] at he
    split at he
    · rw [← List.getD_eq_getElem?_getD] at he
      have := hone p hp i (by omega) he
      omega
    · rw [← List.getD_eq_getElem?_getD] at he
      have := hone p hp (i + 1) (by omega) he
      omega
  · rw [if_neg e] at hi he
    exact e (hone p hp i hi he).1

set_option maxRecDepth 100000 in
set_option maxHeartbeats 1000000 in
theorem rturn_yes (B P J : Nat) (q : Nat → List Int) (b n task : Int) (w : World) (hT : Tab w) (h : RK w B q b n) (hP : P < 32) (hJ : J < (q P).length) (hat : (q P).getD J 0 = task) (hone : ∀ p, p < 32 → ∀ i, i < (q p).length → (q p).getD i 0 = task → p = P ∧ i = J) (hn : 1 ≤ n ∧ n ≤ 1000)
    (t0 : 0 ≤ task) (t1 : task < 16) (hTB : 0 < B) :
    Calls Tryd.prog 40 #[.pointer (some ⟨B, 0, none⟩), .int .i64 task] w fun e w' => e = .returned (.bool true) ∧ (∃ b', RK w' B (addQ (delQ q P J) P task) b' n) ∧ w.grownBy w' (some B) := by
  have hfi := find_yes B P J q b n task w hT h hP hJ hat hone
  have hre := fun W hT h => rremove_yes B P J q b n task W hT h hP hJ hat hone hn (if (q P).length = 1 then putF b P else b) rfl
  have hbl := h.lt
  have hlen := h.len P hP
  have had := fun W b' hT h => radd_yes B P (delQ q P J) b' (n - 1) task W hT h (delQ_no hJ hone) t0 t1 hP (by simp only [delQ, if_true]; rw [List.length_eraseIdx, if_pos hJ]; omega) (by omega)
  go_enter Tryd.func40, Tryd.ntmps40
  go_upto_region 2 with (go_at_call 75; with_reducible refine hfi.mono ?_; rintro e w1 ⟨rfl, hb1⟩)
  have h1 := h.up hb1
  have hg1 := only_of_below hb1 (some B)
  have hT1 := hT.below hb1
  clear h hb1 hfi
  go_wp2_with (first
    | (go_at_call 38; with_reducible refine (hre _ hT1 h1).mono ?_; rintro e w2 ⟨rfl, h2, hg2⟩)
    | (go_at_call 36; with_reducible refine (had _ _ (hT1.only hg2 hTB) h2).mono ?_; rintro e w3 ⟨rfl, h3, hg3⟩))
  go_ret
  exact ⟨rfl, ⟨_, by rw [show n - 1 + 1 = n by omega] at h3; exact h3⟩, only_trans (only_trans hg1 hg2) hg3⟩

set_option maxRecDepth 100000 in
set_option maxHeartbeats 1000000 in
theorem rturn_no (B : Nat) (q : Nat → List Int) (b n task : Int) (w : World) (hT : Tab w) (h : RK w B q b n) (hno : ∀ p, p < 32 → ∀ i, i < (q p).length → (q p).getD i 0 ≠ task) :
    Calls Tryd.prog 40 #[.pointer (some ⟨B, 0, none⟩), .int .i64 task] w fun e w' => e = .returned (.bool false) ∧ Below w.heap.size w w' := by
  have hfi := find_no B q b n task w hT h hno
  go_enter Tryd.func40, Tryd.ntmps40
  go_wp2_with (go_at_call 75; with_reducible refine hfi.mono ?_; rintro e w1 ⟨rfl, hb1⟩)
  go_ret
  exact ⟨rfl, hb1⟩
end Go.Proofs.YtbbnackahgcegaaDoor
