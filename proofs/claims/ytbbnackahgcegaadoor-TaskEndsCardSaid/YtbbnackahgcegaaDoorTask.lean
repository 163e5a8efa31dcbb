/- The contracts of package task's methods on a task that lies in block 'B': what each returns and what it leaves. -/
import Derived.Test.YtbbnackahgcegaaDoorWordCB
import Derived.Test.YtbbnackahgcegaaDoorPendBits
import Derived.Deep.QuietTactic
import Derived.BigQuiet
import Derived.BigRegion
import Derived.Deep.RegionWith
import Derived.Deep.RegionHeld3
import Derived.Deep.DeepCutAuto
namespace Go.Proofs.YtbbnackahgcegaaDoor
open Go.RowKit
set_option linter.all false

abbrev ansV (x : Bool) (y z : Int) : Value := .agg #[.bool x, .int .u32 y, .int .u32 z]

/-- an answer lies at block g -/
structure AnsAt (w : World) (g : Nat) (x : Bool) (y z : Int) : Prop where
  cx : w.cell? ⟨g, 0, none⟩ = some (.bool x)
  cy : w.cell? ⟨g, 1, none⟩ = some (.int .u32 y)
  cz : w.cell? ⟨g, 2, none⟩ = some (.int .u32 z)

/-- what the task's pointer to an answer says -/
def AnsOf (w : World) (B : Nat) : Option (Bool × Int × Int) → Prop
  | none => w.cell? ⟨B, 2, none⟩ = some (.pointer none)
  | some (x, y, z) => ∃ g, w.cell? ⟨B, 2, none⟩ = some (.pointer (some ⟨g, 0, none⟩)) ∧ g ≠ B ∧ AnsAt w g x y z

structure TaskAt (w : World) (B : Nat) (st b : Int) (A : Option (Bool × Int × Int)) : Prop where
  cs : w.cell? ⟨B, 0, none⟩ = some (.int .i64 st)
  cb : w.cell? ⟨B, 1, none⟩ = some (.int .u32 b)
  ca : AnsOf w B A
  f0 : w.frozen? ⟨B, 0, none⟩ = false
  f1 : w.frozen? ⟨B, 1, none⟩ = false
  f2 : w.frozen? ⟨B, 2, none⟩ = false
  lo : 0 ≤ b
  hi : b ≤ 4294967295
theorem TaskAt.lt {w : World} {B : Nat} {st b : Int} {A : Option (Bool × Int × Int)} (h : TaskAt w B st b A) : B < w.heap.size := block_lt_of_cell h.cs
theorem TaskAt.up {w w' : World} {B : Nat} {st b : Int} {A : Option (Bool × Int × Int)} (h : TaskAt w B st b A) (hb : Below w.heap.size w w') : TaskAt w' B st b A := by
  have hB := h.lt
  refine ⟨(hb.cell (p := ⟨B, _, none⟩) hB).trans h.cs, (hb.cell (p := ⟨B, _, none⟩) hB).trans h.cb, ?_, (hb.frozen (p := ⟨B, _, none⟩) hB).trans h.f0, (hb.frozen (p := ⟨B, _, none⟩) hB).trans h.f1, (hb.frozen (p := ⟨B, _, none⟩) hB).trans h.f2, h.lo, h.hi⟩
  match A, h.ca with
  | none, ha => exact (hb.cell (p := ⟨B, 2, none⟩) hB).trans ha
  | some (x, y, z), ⟨g, hc, hne, hA⟩ =>
    have hg : g < w.heap.size := block_lt_of_cell hA.cx
    exact ⟨g, (hb.cell (p := ⟨B, 2, none⟩) hB).trans hc, hne, ⟨(hb.cell (p := ⟨g, _, none⟩) hg).trans hA.cx, (hb.cell (p := ⟨g, _, none⟩) hg).trans hA.cy, (hb.cell (p := ⟨g, _, none⟩) hg).trans hA.cz⟩⟩
theorem AnsAt.far {w : World} {g : Nat} {x : Bool} {y z : Int} (h : AnsAt w g x y z) {p : Addr} {v : Value} (hp : p.block ≠ g) : AnsAt (w.setCell p v) g x y z :=
  ⟨(set_far (q := ⟨g, 0, none⟩) hp).trans h.cx, (set_far (q := ⟨g, 1, none⟩) hp).trans h.cy, (set_far (q := ⟨g, 2, none⟩) hp).trans h.cz⟩
theorem TaskAt.setb {w : World} {B : Nat} {st b c : Int} {A : Option (Bool × Int × Int)} (h : TaskAt w B st b A) (h0 : 0 ≤ c) (h1 : c ≤ 4294967295) : TaskAt (w.setCell ⟨B, 1, none⟩ (.int .u32 c)) B st c A := by
  refine ⟨(set_other (by decide)).trans h.cs, set_same h.cb, ?_, by rw [set_frozen]; exact h.f0, by rw [set_frozen]; exact h.f1, by rw [set_frozen]; exact h.f2, h0, h1⟩
  match A, h.ca with
  | none, ha => exact (set_other (by decide)).trans ha
  | some (x, y, z), ⟨g, hc, hne, hA⟩ => exact ⟨g, (set_other (by decide)).trans hc, hne, hA.far (by show B ≠ g; omega)⟩
theorem TaskAt.sets {w : World} {B : Nat} {st b c : Int} {A : Option (Bool × Int × Int)} (h : TaskAt w B st b A) : TaskAt (w.setCell ⟨B, 0, none⟩ (.int .i64 c)) B c b A := by
  refine ⟨set_same h.cs, (set_other (by decide)).trans h.cb, ?_, by rw [set_frozen]; exact h.f0, by rw [set_frozen]; exact h.f1, by rw [set_frozen]; exact h.f2, h.lo, h.hi⟩
  match A, h.ca with
  | none, ha => exact (set_other (by decide)).trans ha
  | some (x, y, z), ⟨g, hc, hne, hA⟩ => exact ⟨g, (set_other (by decide)).trans hc, hne, hA.far (by show B ≠ g; omega)⟩
theorem TaskAt.ptr {w : World} {B : Nat} {st b : Int} {A : Option (Bool × Int × Int)} (h : TaskAt w B st b A) : ∃ v, w.cell? ⟨B, 2, none⟩ = some v := by
  match A, h.ca with
  | none, ha => exact ⟨_, ha⟩
  | some (x, y, z), ⟨g, hc, _, _⟩ => exact ⟨_, hc⟩
theorem TaskAt.seta {w : World} {B g : Nat} {st b : Int} {A : Option (Bool × Int × Int)} {x : Bool} {y z : Int} (h : TaskAt w B st b A) (hg : AnsAt w g x y z) (hne : g ≠ B) : TaskAt (w.setCell ⟨B, 2, none⟩ (.pointer (some ⟨g, 0, none⟩))) B st b (some (x, y, z)) := by
  obtain ⟨v, hv⟩ := h.ptr
  exact ⟨(set_other (by decide)).trans h.cs, (set_other (by decide)).trans h.cb, ⟨g, set_same hv, hne, hg.far (by show B ≠ g; omega)⟩, by rw [set_frozen]; exact h.f0, by rw [set_frozen]; exact h.f1, by rw [set_frozen]; exact h.f2, h.lo, h.hi⟩
theorem TaskAt.setn {w : World} {B : Nat} {st b : Int} {A : Option (Bool × Int × Int)} (h : TaskAt w B st b A) : TaskAt (w.setCell ⟨B, 2, none⟩ (.pointer none)) B st b none := by
  obtain ⟨v, hv⟩ := h.ptr
  exact ⟨(set_other (by decide)).trans h.cs, (set_other (by decide)).trans h.cb, set_same hv, by rw [set_frozen]; exact h.f0, by rw [set_frozen]; exact h.f1, by rw [set_frozen]; exact h.f2, h.lo, h.hi⟩

/-- a new answer behind a store that points to it -/
theorem TaskAt.given {w : World} {B : Nat} {st b : Int} {A : Option (Bool × Int × Int)} {x : Bool} {y z : Int} {t : TypeId} (h : TaskAt w B st b A) :
    TaskAt ((w.setCell ⟨B, 2, none⟩ (.pointer (some ⟨w.heap.size, 0, none⟩))).alloc (.cells #[.bool x, .int .u32 y, .int .u32 z] t)) B st b (some (x, y, z)) := by
  obtain ⟨v, hv⟩ := h.ptr
  have hB := h.lt
  have hs : (w.setCell ⟨B, 2, none⟩ (.pointer (some ⟨w.heap.size, 0, none⟩))).heap.size = w.heap.size := by simp [World.setCell]
  have hb := below_one (w.setCell ⟨B, 2, none⟩ (.pointer (some ⟨w.heap.size, 0, none⟩))) (.cells #[.bool x, .int .u32 y, .int .u32 z] t)
  have hB' : B < (w.setCell ⟨B, 2, none⟩ (.pointer (some ⟨w.heap.size, 0, none⟩))).heap.size := by rw [hs]; exact hB
  exact ⟨(hb.cell (p := ⟨B, 0, none⟩) hB').trans ((set_other (by decide)).trans h.cs), (hb.cell (p := ⟨B, 1, none⟩) hB').trans ((set_other (by decide)).trans h.cb),
    ⟨w.heap.size, (hb.cell (p := ⟨B, 2, none⟩) hB').trans (set_same hv), by omega, ⟨World.cell?_alloc_at _ _ _ _ hs.symm, World.cell?_alloc_at _ _ _ _ hs.symm, World.cell?_alloc_at _ _ _ _ hs.symm⟩⟩,
    (hb.frozen (p := ⟨B, 0, none⟩) hB').trans (by rw [set_frozen]; exact h.f0), (hb.frozen (p := ⟨B, 1, none⟩) hB').trans (by rw [set_frozen]; exact h.f1), (hb.frozen (p := ⟨B, 2, none⟩) hB').trans (by rw [set_frozen]; exact h.f2), h.lo, h.hi⟩
theorem AnsAt.same {w : World} {g : Nat} {x : Bool} {y z : Int} (h : AnsAt w g x y z) : AnsAt (((w.setCell ⟨g, 0, none⟩ (.bool x)).setCell ⟨g, 1, none⟩ (.int .u32 y)).setCell ⟨g, 2, none⟩ (.int .u32 z)) g x y z :=
  ⟨(set_other (by decide)).trans ((set_other (by decide)).trans (set_same h.cx)), (set_other (by decide)).trans (set_same ((set_other (by decide)).trans h.cy)), set_same ((set_other (by decide)).trans ((set_other (by decide)).trans h.cz))⟩
theorem AnsAt.three {w : World} {g : Nat} {x : Bool} {y z : Int} (h : AnsAt w g x y z) : w.cell? ⟨g, 0, none⟩ = some (.bool x) ∧ w.cell? ⟨g, 1, none⟩ = some (.int .u32 y) ∧ w.cell? ⟨g, 2, none⟩ = some (.int .u32 z) := ⟨h.cx, h.cy, h.cz⟩
theorem AnsAt.drew {w : World} {g : Nat} {x : Bool} {y z : Int} (h : AnsAt w g x y z) : AnsAt w.drew g x y z := ⟨h.cx, h.cy, h.cz⟩
theorem TaskAt.drew {w : World} {B : Nat} {st b : Int} (h : TaskAt w B st b none) : TaskAt w.drew B st b none := ⟨h.cs, h.cb, h.ca, h.f0, h.f1, h.f2, h.lo, h.hi⟩
theorem TaskAt.far {w : World} {B : Nat} {st b : Int} {p : Addr} {v : Value} (h : TaskAt w B st b none) (hp : p.block ≠ B) : TaskAt (w.setCell p v) B st b none :=
  ⟨(set_far (q := ⟨B, 0, none⟩) hp).trans h.cs, (set_far (q := ⟨B, 1, none⟩) hp).trans h.cb, (set_far (q := ⟨B, 2, none⟩) hp).trans h.ca, by rw [set_frozen]; exact h.f0, by rw [set_frozen]; exact h.f1, by rw [set_frozen]; exact h.f2, h.lo, h.hi⟩

set_option maxHeartbeats 400000 in
theorem new_any (w : World) : Calls Tryd.prog 25 #[] w fun e w' => e = .returned (.pointer (some ⟨w.heap.size, 0, none⟩)) ∧ TaskAt w' w.heap.size 1 0 none ∧ Below w.heap.size w w' := by
  go_enter Tryd.func25, Tryd.ntmps25
  go_wp2
  go_ret
  refine ⟨rfl, ⟨by simp [go_sem], by simp [go_sem], by simp [AnsOf, go_sem], by simp [go_sem], by simp [go_sem], by simp [go_sem], by omega, by omega⟩, below_one _ _⟩

set_option maxHeartbeats 400000 in
theorem state_any (B : Nat) (st b : Int) (A : Option (Bool × Int × Int)) (w : World) (h : TaskAt w B st b A) :
    Calls Tryd.prog 31 #[.pointer (some ⟨B, 0, none⟩)] w fun e w' => e = .returned (.int .i64 st) ∧ w' = w := by
  have hs := h.cs
  clear h
  go_enter Tryd.func31, Tryd.ntmps31
  go_wp2
  go_ret
  exact ⟨rfl, rfl⟩
set_option maxHeartbeats 400000 in
theorem tbits_any (B : Nat) (st b : Int) (A : Option (Bool × Int × Int)) (w : World) (h : TaskAt w B st b A) :
    Calls Tryd.prog 30 #[.pointer (some ⟨B, 0, none⟩)] w fun e w' => e = .returned (.int .u32 b) ∧ w' = w := by
  have hs := h.cb
  clear h
  go_enter Tryd.func30, Tryd.ntmps30
  go_wp2
  go_ret
  exact ⟨rfl, rfl⟩
set_option maxHeartbeats 400000 in
theorem made_any (B : Nat) (st b : Int) (A : Option (Bool × Int × Int)) (w : World) (h : TaskAt w B st b A) :
    Calls Tryd.prog 73 #[.pointer (some ⟨B, 0, none⟩)] w fun e w' => e = .returned (.bool (decide (st ≠ 0))) ∧ w' = w := by
  have hs := h.cs
  clear h
  go_enter Tryd.func73, Tryd.ntmps73
  go_wp2
  go_ret
  exact ⟨ret_bool (by simp [bne]; rfl), rfl⟩

set_option maxHeartbeats 400000 in
theorem give_yes (B : Nat) (b : Int) (A : Option (Bool × Int × Int)) (x : Bool) (y z : Int) (w : World) (h : TaskAt w B 1 b A) :
    Calls Tryd.prog 27 #[.pointer (some ⟨B, 0, none⟩), ansV x y z] w fun e w' => e = .returned (.bool true) ∧ TaskAt w' B 1 b (some (x, y, z)) ∧ w.grownBy w' (some B) := by
  obtain ⟨v, hv⟩ := h.ptr
  have hf := h.f2
  have hB := h.lt
  have st0 := h.up (below_one w (.cells #[.bool x, .int .u32 y, .int .u32 z] 48))
  go_enter Tryd.func27, Tryd.ntmps27
  go_wp2_with (go_at_call 31; refine (state_any B 1 b A _ st0).mono ?_; rintro e w1 ⟨rfl, rfl⟩)
  go_ret
  exact ⟨rfl, h.given, only_alloc (only_set (only_refl _ _) _) _⟩
set_option maxHeartbeats 400000 in
theorem give_no (B : Nat) (st b : Int) (A : Option (Bool × Int × Int)) (x : Bool) (y z : Int) (w : World) (h : TaskAt w B st b A) (hst : st ≠ 1) :
    Calls Tryd.prog 27 #[.pointer (some ⟨B, 0, none⟩), ansV x y z] w fun e w' => e = .returned (.bool false) ∧ Below w.heap.size w w' := by
  have st0 := h.up (below_one w (.cells #[.bool x, .int .u32 y, .int .u32 z] 48))
  go_enter Tryd.func27, Tryd.ntmps27
  go_wp2_with (go_at_call 31; refine (state_any B st b A _ st0).mono ?_; rintro e w1 ⟨rfl, rfl⟩)
  go_ret
  exact ⟨rfl, below_one _ _⟩

theorem ret_ans (x : Bool) (y z : Int) (k : Bool) (w : World) : True := trivial

set_option maxHeartbeats 400000 in
theorem taken_none (B : Nat) (st b : Int) (w : World) (h : TaskAt w B st b none) (hst : st ≠ 0) :
    Calls Tryd.prog 28 #[.pointer (some ⟨B, 0, none⟩)] w fun e w' => e = .returned (.tuple #[ansV false 0 0, .bool false]) ∧ Below w.heap.size w w' := by
  have hB := h.lt
  have st0 := h.up (below_one w (.cells #[.bool false, .int .u32 0, .int .u32 0] 48))
  have ha : w.cell? ⟨B, 2, none⟩ = some (.pointer none) := h.ca
  have hm := fun W h => made_any B st b none W h
  rw [decide_eq_true hst] at hm
  go_enter Tryd.func28, Tryd.ntmps28
  go_wp2_with (go_at_call 73; refine (hm _ st0).mono ?_; rintro e w1 ⟨rfl, rfl⟩)
  exact bodyPost_ret (v := .tuple #[ansV false 0 0, .bool false]) (by simp [results, Tryd.results28, go_sem]) rfl ⟨rfl, below_one _ _⟩

set_option maxRecDepth 10000 in
set_option maxHeartbeats 1000000 in
theorem taken_some (B : Nat) (st b : Int) (x : Bool) (y z : Int) (w : World) (h : TaskAt w B st b (some (x, y, z))) (hst : st ≠ 0) :
    Calls Tryd.prog 28 #[.pointer (some ⟨B, 0, none⟩)] w fun e w' => e = .returned (.tuple #[ansV x y z, .bool true]) ∧ TaskAt w' B st b none ∧ w.grownBy w' (some B) := by
  have hB := h.lt
  have st0 := h.up (below_one w (.cells #[.bool false, .int .u32 0, .int .u32 0] 48))
  obtain ⟨g, hc, hne, hA⟩ := h.ca
  have hg : g < w.heap.size := block_lt_of_cell hA.cx
  have ax := hA.cx
  have ay := hA.cy
  have az := hA.cz
  have f2 := h.f2
  have hm := fun W h => made_any B st b (some (x, y, z)) W h
  rw [decide_eq_true hst] at hm
  go_enter Tryd.func28, Tryd.ntmps28
  go_upto_region 4 with (go_at_call 73; refine (hm _ st0).mono ?_; rintro e w1 ⟨rfl, rfl⟩)
  refine wp_gen (fun W => TaskAt W B st b none ∧ AnsAt W w.heap.size x y z ∧ (∀ i, i < 3 → W.frozen? ⟨w.heap.size, i, none⟩ = false) ∧ w.grownBy W (some B)) ?_ ?_
  · have hs : (w.setCell ⟨B, 2, none⟩ (.pointer none)).heap.size = w.heap.size := by simp [World.setCell]
    refine ⟨h.setn.up (below_one _ _), ⟨World.cell?_alloc_at _ _ _ _ hs.symm, World.cell?_alloc_at _ _ _ _ hs.symm, World.cell?_alloc_at _ _ _ _ hs.symm⟩, fun i hi => World.frozen?_alloc_at _ _ _ _ hs.symm, only_alloc (only_set (only_refl _ _) _) _⟩
  clear st0 hc hA ax ay az f2
  rintro W ⟨hT, hA, hF, hG⟩
  have f0 := hF 0 (by omega)
  have f1 := hF 1 (by omega)
  have f2 := hF 2 (by omega)
  have ax := hA.cx
  have ay := hA.cy
  have az := hA.cz
  have hcase : (x = false ∧ y = 0 ∧ z = 0) ∨ x = true ∨ (x = false ∧ y ≠ 0) ∨ (x = false ∧ y = 0 ∧ z ≠ 0) := by cases x <;> simp <;> omega
  rcases hcase with ⟨rfl, rfl, rfl⟩ | rfl | ⟨rfl, hy⟩ | ⟨rfl, rfl, hz⟩
  · have hm2 := fun W h => made_any B st b none W h
    rw [decide_eq_true hst] at hm2
    have hTd := hT.up (Below.refl _ _).drew
    have hAd := hA.drew
    go_region_held3 (fun W => W.cell? ⟨w.heap.size, 0, none⟩ = some (.bool false) ∧ W.cell? ⟨w.heap.size, 1, none⟩ = some (.int .u32 0) ∧ W.cell? ⟨w.heap.size, 2, none⟩ = some (.int .u32 0)) (first
      | exact AnsAt.three (by assumption)
      | exact AnsAt.three (AnsAt.drew (AnsAt.same hA))) ((go_at_call 73; refine (hm2 _ hTd).mono ?_; rintro e w1 ⟨rfl, rfl⟩))
    all_goals
      clear hm h hm2 hTd hAd
      go_wp2
      exact bodyPost_ret (v := .tuple #[ansV false 0 0, .bool true]) (by simp [results, Tryd.results28, go_sem, ax, ay, az]) rfl ⟨rfl, (((hT.far (by show w.heap.size ≠ B; omega)).far (by show w.heap.size ≠ B; omega)).far (by show w.heap.size ≠ B; omega)).drew, only_drewN (only_setCell (only_setCell (only_setCell hG (.inr (Nat.le_refl _)) _) (.inr (Nat.le_refl _)) _) (.inr (Nat.le_refl _)) _) 1⟩
  · go_region
    all_goals
      clear hm h
      go_wp2
      exact bodyPost_ret (v := .tuple #[ansV true y z, .bool true]) (by simp [results, Tryd.results28, go_sem, ax, ay, az]) rfl ⟨rfl, (((hT.far (by show w.heap.size ≠ B; omega)).far (by show w.heap.size ≠ B; omega)).far (by show w.heap.size ≠ B; omega)).drew, only_drewN (only_setCell (only_setCell (only_setCell hG (.inr (Nat.le_refl _)) _) (.inr (Nat.le_refl _)) _) (.inr (Nat.le_refl _)) _) 1⟩
  · go_region
    all_goals
      clear hm h
      go_wp2
      exact bodyPost_ret (v := .tuple #[ansV false y z, .bool true]) (by simp [results, Tryd.results28, go_sem, ax, ay, az]) rfl ⟨rfl, (((hT.far (by show w.heap.size ≠ B; omega)).far (by show w.heap.size ≠ B; omega)).far (by show w.heap.size ≠ B; omega)).drew, only_drewN (only_setCell (only_setCell (only_setCell hG (.inr (Nat.le_refl _)) _) (.inr (Nat.le_refl _)) _) (.inr (Nat.le_refl _)) _) 1⟩
  · go_region
    all_goals
      clear hm h
      go_wp2
      exact bodyPost_ret (v := .tuple #[ansV false 0 z, .bool true]) (by simp [results, Tryd.results28, go_sem, ax, ay, az]) rfl ⟨rfl, (((hT.far (by show w.heap.size ≠ B; omega)).far (by show w.heap.size ≠ B; omega)).far (by show w.heap.size ≠ B; omega)).drew, only_drewN (only_setCell (only_setCell (only_setCell hG (.inr (Nat.le_refl _)) _) (.inr (Nat.le_refl _)) _) (.inr (Nat.le_refl _)) _) 1⟩
end Go.Proofs.YtbbnackahgcegaaDoor
