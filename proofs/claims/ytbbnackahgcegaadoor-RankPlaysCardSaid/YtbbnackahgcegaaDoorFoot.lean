/- What a callee may write, cell by cell: cells lo .. hi of block B, and new blocks. No program in sight. -/
import Derived.Test.YtbbnackahgcegaaDoorKit
namespace Go.Proofs.YtbbnackahgcegaaDoor
open Go.RowKit
set_option linter.all false

structure Foot (w w' : World) (B lo hi : Nat) : Prop where
  g : w.grownBy w' (some B)
  c : ∀ i, i < lo ∨ hi ≤ i → w'.cell? ⟨B, i, none⟩ = w.cell? ⟨B, i, none⟩
  f : ∀ i, w'.frozen? ⟨B, i, none⟩ = w.frozen? ⟨B, i, none⟩
theorem foot_refl (w : World) (B lo hi : Nat) : Foot w w B lo hi := ⟨only_refl _ _, fun _ _ => rfl, fun _ => rfl⟩
theorem foot_below {w w' : World} {B lo hi : Nat} (h : Below w.heap.size w w') (hB : B < w.heap.size) : Foot w w' B lo hi :=
  ⟨only_of_below h _, fun i _ => h.cell (p := ⟨B, i, none⟩) hB, fun i => h.frozen (p := ⟨B, i, none⟩) hB⟩
theorem foot_alloc {a w : World} {B lo hi : Nat} (h : Foot a w B lo hi) (hB : B < a.heap.size) (o : Obj) : Foot a (w.alloc o) B lo hi := by
  have hB' : B < w.heap.size := Nat.lt_of_lt_of_le hB h.g.size
  exact ⟨only_alloc h.g o, fun i hi => ((below_one w o).cell (p := ⟨B, i, none⟩) hB').trans (h.c i hi), fun i => ((below_one w o).frozen (p := ⟨B, i, none⟩) hB').trans (h.f i)⟩
theorem foot_drewN {a w : World} {B lo hi : Nat} (h : Foot a w B lo hi) (n : Nat) : Foot a (w.drewN n) B lo hi := ⟨only_drewN h.g n, h.c, h.f⟩
theorem foot_set {a w : World} {B lo hi o : Nat} (h : Foot a w B lo hi) (h0 : lo ≤ o) (h1 : o < hi) (u : Value) : Foot a (w.setCell ⟨B, o, none⟩ u) B lo hi :=
  ⟨only_set h.g u, fun i hi => (set_other (by omega)).trans (h.c i hi), fun i => by rw [set_frozen]; exact h.f i⟩
theorem foot_trans {a b c : World} {B lo hi : Nat} (h : Foot a b B lo hi) (k : Foot b c B lo hi) : Foot a c B lo hi :=
  ⟨only_trans h.g k.g, fun i hi => (k.c i hi).trans (h.c i hi), fun i => (k.f i).trans (h.f i)⟩
end Go.Proofs.YtbbnackahgcegaaDoor
