/- task's methods on nil, on the zero task, and Copy. -/
import Derived.Test.YtbbnackahgcegaaDoorTaskLaw
namespace Go.Proofs.YtbbnackahgcegaaDoor
open Go.RowKit
set_option linter.all false

set_option maxHeartbeats 400000 in
theorem state_nil (w : World) : Calls Tryd.prog 31 #[.pointer none] w fun e w' => e = .returned (.int .i64 0) ∧ w' = w := by
  go_enter Tryd.func31, Tryd.ntmps31
  go_wp2
  go_ret
  exact ⟨rfl, rfl⟩
set_option maxHeartbeats 400000 in
theorem tbits_nil (w : World) : Calls Tryd.prog 30 #[.pointer none] w fun e w' => e = .returned (.int .u32 0) ∧ w' = w := by
  go_enter Tryd.func30, Tryd.ntmps30
  go_wp2
  go_ret
  exact ⟨rfl, rfl⟩
set_option maxHeartbeats 400000 in
theorem made_nil (w : World) : Calls Tryd.prog 73 #[.pointer none] w fun e w' => e = .returned (.bool false) ∧ w' = w := by
  go_enter Tryd.func73, Tryd.ntmps73
  go_wp2
  go_ret
  exact ⟨rfl, rfl⟩
set_option maxHeartbeats 400000 in
theorem go_nil (s : Int) (w : World) : Calls Tryd.prog 33 #[.pointer none, .int .i64 s] w fun e w' => e = .returned (.bool false) ∧ w' = w := by
  go_enter Tryd.func33, Tryd.ntmps33
  go_wp2_with (go_at_call 31; refine (state_nil _).mono ?_; rintro e w1 ⟨rfl, rfl⟩)
  go_ret
  exact ⟨rfl, rfl⟩
set_option maxHeartbeats 400000 in
theorem give_nil (x : Bool) (y z : Int) (w : World) : Calls Tryd.prog 27 #[.pointer none, ansV x y z] w fun e w' => e = .returned (.bool false) ∧ Below w.heap.size w w' := by
  go_enter Tryd.func27, Tryd.ntmps27
  go_wp2_with (go_at_call 31; refine (state_nil _).mono ?_; rintro e w1 ⟨rfl, rfl⟩)
  go_ret
  exact ⟨rfl, below_one _ _⟩
set_option maxHeartbeats 400000 in
theorem taken_nil (w : World) : Calls Tryd.prog 28 #[.pointer none] w fun e w' => e = .returned (.tuple #[ansV false 0 0, .bool false]) ∧ Below w.heap.size w w' := by
  go_enter Tryd.func28, Tryd.ntmps28
  go_wp2_with (go_at_call 73; refine (made_nil _).mono ?_; rintro e w1 ⟨rfl, rfl⟩)
  exact bodyPost_ret (v := .tuple #[ansV false 0 0, .bool false]) (by simp [results, Tryd.results28, go_sem]) rfl ⟨rfl, below_one _ _⟩
set_option maxHeartbeats 400000 in
theorem taken_zero (B : Nat) (b : Int) (A : Option (Bool × Int × Int)) (w : World) (h : TaskAt w B 0 b A) :
    Calls Tryd.prog 28 #[.pointer (some ⟨B, 0, none⟩)] w fun e w' => e = .returned (.tuple #[ansV false 0 0, .bool false]) ∧ Below w.heap.size w w' := by
  have st0 := h.up (below_one w (.cells #[.bool false, .int .u32 0, .int .u32 0] 48))
  have hm := fun W h => made_any B 0 b A W h
  rw [decide_eq_false (by decide)] at hm
  go_enter Tryd.func28, Tryd.ntmps28
  go_wp2_with (go_at_call 73; refine (hm _ st0).mono ?_; rintro e w1 ⟨rfl, rfl⟩)
  exact bodyPost_ret (v := .tuple #[ansV false 0 0, .bool false]) (by simp [results, Tryd.results28, go_sem]) rfl ⟨rfl, below_one _ _⟩

set_option maxHeartbeats 400000 in
theorem change_nil (f : Value) (w : World) : Calls Tryd.prog 70 #[.pointer none, f] w fun e w' => e = .returned (.int .u32 0) ∧ w' = w := by
  go_enter Tryd.func70, Tryd.ntmps70
  go_wp2_with (go_at_call 73; refine (made_nil _).mono ?_; rintro e w1 ⟨rfl, rfl⟩)
  go_ret
  exact ⟨rfl, rfl⟩
set_option maxHeartbeats 400000 in
theorem change_zero (B : Nat) (b : Int) (A : Option (Bool × Int × Int)) (f : Value) (w : World) (h : TaskAt w B 0 b A) : Calls Tryd.prog 70 #[.pointer (some ⟨B, 0, none⟩), f] w fun e w' => e = .returned (.int .u32 0) ∧ w' = w := by
  have hm := fun W h => made_any B 0 b A W h
  rw [decide_eq_false (by decide)] at hm
  go_enter Tryd.func70, Tryd.ntmps70
  go_wp2_with (go_at_call 73; refine (hm _ h).mono ?_; rintro e w1 ⟨rfl, rfl⟩)
  go_ret
  exact ⟨rfl, rfl⟩
set_option maxHeartbeats 400000 in
theorem note_nil (x : Int) (w : World) : Calls Tryd.prog 26 #[.pointer none, .int .u32 x] w fun e w' => e = .returned (.int .u32 0) ∧ Below w.heap.size w w' := by
  have hmf : ∀ (fn : Fn) (first cap : Array Value) (w : World), (Instr.makeFunc fn first cap).run Tryd.prog w = .ok (.func fn first cap) w := fun _ _ _ _ => rfl
  go_enter Tryd.func26, Tryd.ntmps26
  go_wp2_with (first
    | (go_at_call 70; refine (change_nil _ _).mono ?_; rintro e w1 ⟨rfl, rfl⟩)
    | (go_at_call 30; refine (tbits_nil _).mono ?_; rintro e w2 ⟨rfl, rfl⟩))
  go_ret
  exact ⟨rfl, below_one _ _⟩
set_option maxHeartbeats 400000 in
theorem note_zero (B : Nat) (x : Int) (A : Option (Bool × Int × Int)) (w : World) (h : TaskAt w B 0 0 A) : Calls Tryd.prog 26 #[.pointer (some ⟨B, 0, none⟩), .int .u32 x] w fun e w' => e = .returned (.int .u32 0) ∧ Below w.heap.size w w' := by
  have hmf : ∀ (fn : Fn) (first cap : Array Value) (w : World), (Instr.makeFunc fn first cap).run Tryd.prog w = .ok (.func fn first cap) w := fun _ _ _ _ => rfl
  have st0 := h.up (below_one w (.cells #[.int .u32 x] 25))
  go_enter Tryd.func26, Tryd.ntmps26
  go_wp2_with (first
    | (go_at_call 70; refine (change_zero B 0 A _ _ st0).mono ?_; rintro e w1 ⟨rfl, rfl⟩)
    | (go_at_call 30; refine (tbits_any B 0 0 A _ st0).mono ?_; rintro e w2 ⟨rfl, rfl⟩))
  go_ret
  exact ⟨rfl, below_one _ _⟩
set_option maxHeartbeats 400000 in
theorem clear_nil (w : World) : Calls Tryd.prog 29 #[.pointer none] w fun e w' => e = .returned (.int .u32 0) ∧ w' = w := by
  go_enter Tryd.func29, Tryd.ntmps29
  go_wp2_with (go_at_call 70; refine (change_nil _ _).mono ?_; rintro e w1 ⟨rfl, rfl⟩)
  go_ret
  exact ⟨rfl, rfl⟩
set_option maxHeartbeats 400000 in
theorem copy_nil (w : World) : Calls Tryd.prog 32 #[.pointer none] w fun e w' => e = .returned (.pointer none) ∧ w' = w := by
  go_enter Tryd.func32, Tryd.ntmps32
  go_wp2
  go_ret
  exact ⟨rfl, rfl⟩

/-- a copy: its answer lies in the block behind it -/
structure CopyAt (w : World) (C : Nat) (st b : Int) (x : Bool) (y z : Int) : Prop where
  cs : w.cell? ⟨C, 0, none⟩ = some (.int .i64 st)
  cb : w.cell? ⟨C, 1, none⟩ = some (.int .u32 b)
  cp : w.cell? ⟨C, 2, none⟩ = some (.pointer (some ⟨C + 1, 0, none⟩))
  ca : AnsAt w (C + 1) x y z
  f0 : w.frozen? ⟨C, 0, none⟩ = false
  f1 : w.frozen? ⟨C, 1, none⟩ = false
  f2 : w.frozen? ⟨C, 2, none⟩ = false
  lo : 0 ≤ b
  hi : b ≤ 4294967295
theorem CopyAt.task {w : World} {C : Nat} {st b : Int} {x : Bool} {y z : Int} (h : CopyAt w C st b x y z) : TaskAt w C st b (some (x, y, z)) :=
  ⟨h.cs, h.cb, ⟨C + 1, h.cp, by omega, h.ca⟩, h.f0, h.f1, h.f2, h.lo, h.hi⟩
theorem CopyAt.kept {w w' : World} {B C : Nat} {st b : Int} {x : Bool} {y z : Int} (h : CopyAt w C st b x y z) (hg : w.grownBy w' (some B)) (hB : B < C) : CopyAt w' C st b x y z := by
  have l1 : C < w.heap.size := block_lt_of_cell h.cs
  have l2 : C + 1 < w.heap.size := block_lt_of_cell h.ca.cx
  exact ⟨(only_cell hg (p := ⟨C, _, none⟩) l1 (by show C ≠ B; omega)).trans h.cs, (only_cell hg (p := ⟨C, _, none⟩) l1 (by show C ≠ B; omega)).trans h.cb, (only_cell hg (p := ⟨C, _, none⟩) l1 (by show C ≠ B; omega)).trans h.cp,
    ⟨(only_cell hg (p := ⟨C + 1, _, none⟩) l2 (by show C + 1 ≠ B; omega)).trans h.ca.cx, (only_cell hg (p := ⟨C + 1, _, none⟩) l2 (by show C + 1 ≠ B; omega)).trans h.ca.cy, (only_cell hg (p := ⟨C + 1, _, none⟩) l2 (by show C + 1 ≠ B; omega)).trans h.ca.cz⟩,
    (only_frozen hg (p := ⟨C, _, none⟩) l1 (by show C ≠ B; omega)).trans h.f0, (only_frozen hg (p := ⟨C, _, none⟩) l1 (by show C ≠ B; omega)).trans h.f1, (only_frozen hg (p := ⟨C, _, none⟩) l1 (by show C ≠ B; omega)).trans h.f2, h.lo, h.hi⟩
theorem CopyAt.up {w w' : World} {C : Nat} {st b : Int} {x : Bool} {y z : Int} (h : CopyAt w C st b x y z) (hb : Below w.heap.size w w') : CopyAt w' C st b x y z := by
  have l1 : C < w.heap.size := block_lt_of_cell h.cs
  have l2 : C + 1 < w.heap.size := block_lt_of_cell h.ca.cx
  exact ⟨(hb.cell (p := ⟨C, _, none⟩) l1).trans h.cs, (hb.cell (p := ⟨C, _, none⟩) l1).trans h.cb, (hb.cell (p := ⟨C, _, none⟩) l1).trans h.cp,
    ⟨(hb.cell (p := ⟨C + 1, _, none⟩) l2).trans h.ca.cx, (hb.cell (p := ⟨C + 1, _, none⟩) l2).trans h.ca.cy, (hb.cell (p := ⟨C + 1, _, none⟩) l2).trans h.ca.cz⟩,
    (hb.frozen (p := ⟨C, _, none⟩) l1).trans h.f0, (hb.frozen (p := ⟨C, _, none⟩) l1).trans h.f1, (hb.frozen (p := ⟨C, _, none⟩) l1).trans h.f2, h.lo, h.hi⟩
theorem TaskAt.kept {w w' : World} {B C : Nat} {st b : Int} (h : TaskAt w C st b none) (hg : w.grownBy w' (some B)) (hB : C ≠ B) : TaskAt w' C st b none := by
  have l1 := h.lt
  exact ⟨(only_cell hg (p := ⟨C, _, none⟩) l1 hB).trans h.cs, (only_cell hg (p := ⟨C, _, none⟩) l1 hB).trans h.cb, (only_cell hg (p := ⟨C, _, none⟩) l1 hB).trans h.ca,
    (only_frozen hg (p := ⟨C, _, none⟩) l1 hB).trans h.f0, (only_frozen hg (p := ⟨C, _, none⟩) l1 hB).trans h.f1, (only_frozen hg (p := ⟨C, _, none⟩) l1 hB).trans h.f2, h.lo, h.hi⟩

set_option maxRecDepth 10000 in
set_option maxHeartbeats 1000000 in
theorem copy_some (B : Nat) (st b : Int) (x : Bool) (y z : Int) (w : World) (h : TaskAt w B st b (some (x, y, z))) :
    Calls Tryd.prog 32 #[.pointer (some ⟨B, 0, none⟩)] w fun e w' => e = .returned (.pointer (some ⟨w.heap.size, 0, none⟩)) ∧ CopyAt w' w.heap.size st b x y z ∧ Below w.heap.size w w' := by
  have hB := h.lt
  obtain ⟨g, hc, hne, hA⟩ := h.ca
  have hg : g < w.heap.size := block_lt_of_cell hA.cx
  have ax := hA.cx
  have ay := hA.cy
  have az := hA.cz
  have hs := h.cs
  have hb := h.cb
  have lo := h.lo
  have hi := h.hi
  clear hA h
  go_enter Tryd.func32, Tryd.ntmps32
  go_wp2
  go_ret
  refine ⟨rfl, ⟨by simp [go_sem], by simp [go_sem], by simp [go_sem], ⟨by simp [go_sem], by simp [go_sem], by simp [go_sem]⟩, by simp [go_sem], by simp [go_sem], by simp [go_sem], lo, hi⟩, below_two _ _ _⟩
end Go.Proofs.YtbbnackahgcegaaDoor
