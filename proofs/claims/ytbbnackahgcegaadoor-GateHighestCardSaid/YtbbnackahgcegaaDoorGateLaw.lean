/- gate.New, the law's 'alive' on gate, and gate's methods on nil. -/
import Derived.Test.YtbbnackahgcegaaDoorGate
namespace Go.Proofs.YtbbnackahgcegaaDoor
open Go.RowKit
set_option linter.all false

set_option maxRecDepth 10000 in
set_option maxHeartbeats 2000000 in
theorem GateAt.new (w : World) (mo : Int) (t : TypeId) : GateAt (w.alloc (.cells #[.int .u32 0, .int .i64 0, .int .i64 0, .int .i64 0, .int .i64 0, .int .i64 0, .int .i64 0, .int .i64 0, .int .i64 0, .int .i64 0, .int .i64 0, .int .i64 0, .int .i64 0, .int .i64 0, .int .i64 0, .int .i64 0, .int .i64 0, .int .i64 0, .int .i64 0, .int .i64 0, .int .i64 0, .int .i64 0, .int .i64 0, .int .i64 0, .int .i64 0, .int .i64 0, .int .i64 0, .int .i64 0, .int .i64 0, .int .i64 0, .int .i64 0, .int .i64 0, .int .i64 0, .int .i64 0, .int .i64 0, .int .i64 0, .int .i64 0, .int .i64 mo, .int .i64 0] t)) w.heap.size [] 0 0 0 0 mo 0 := by
  have fr : ∀ i, (w.alloc (.cells #[.int .u32 0, .int .i64 0, .int .i64 0, .int .i64 0, .int .i64 0, .int .i64 0, .int .i64 0, .int .i64 0, .int .i64 0, .int .i64 0, .int .i64 0, .int .i64 0, .int .i64 0, .int .i64 0, .int .i64 0, .int .i64 0, .int .i64 0, .int .i64 0, .int .i64 0, .int .i64 0, .int .i64 0, .int .i64 0, .int .i64 0, .int .i64 0, .int .i64 0, .int .i64 0, .int .i64 0, .int .i64 0, .int .i64 0, .int .i64 0, .int .i64 0, .int .i64 0, .int .i64 0, .int .i64 0, .int .i64 0, .int .i64 0, .int .i64 0, .int .i64 mo, .int .i64 0] t)).frozen? ⟨w.heap.size, i, none⟩ = false := fun i => World.frozen?_alloc_at _ _ _ _ rfl
  have ce : ∀ i, (w.alloc (.cells #[.int .u32 0, .int .i64 0, .int .i64 0, .int .i64 0, .int .i64 0, .int .i64 0, .int .i64 0, .int .i64 0, .int .i64 0, .int .i64 0, .int .i64 0, .int .i64 0, .int .i64 0, .int .i64 0, .int .i64 0, .int .i64 0, .int .i64 0, .int .i64 0, .int .i64 0, .int .i64 0, .int .i64 0, .int .i64 0, .int .i64 0, .int .i64 0, .int .i64 0, .int .i64 0, .int .i64 0, .int .i64 0, .int .i64 0, .int .i64 0, .int .i64 0, .int .i64 0, .int .i64 0, .int .i64 0, .int .i64 0, .int .i64 0, .int .i64 0, .int .i64 mo, .int .i64 0] t)).cell? ⟨w.heap.size, i, none⟩ = (#[.int .u32 0, .int .i64 0, .int .i64 0, .int .i64 0, .int .i64 0, .int .i64 0, .int .i64 0, .int .i64 0, .int .i64 0, .int .i64 0, .int .i64 0, .int .i64 0, .int .i64 0, .int .i64 0, .int .i64 0, .int .i64 0, .int .i64 0, .int .i64 0, .int .i64 0, .int .i64 0, .int .i64 0, .int .i64 0, .int .i64 0, .int .i64 0, .int .i64 0, .int .i64 0, .int .i64 0, .int .i64 0, .int .i64 0, .int .i64 0, .int .i64 0, .int .i64 0, .int .i64 0, .int .i64 0, .int .i64 0, .int .i64 0, .int .i64 0, .int .i64 mo, .int .i64 0] : Array Value)[i]? := fun i => World.cell?_alloc_at _ _ _ _ rfl
  refine ⟨⟨by rw [ce]; rfl, by rw [ce]; rfl, by rw [ce]; rfl, fr _, fr _, fr _, by omega, by omega⟩, ⟨fun i hi => by simp at hi, fun i hi => ⟨0, ?_⟩, by rw [ce]; rfl, by rw [ce]; rfl, fun i hi => fr _⟩, by rw [ce]; rfl, by rw [ce]; rfl, fr _, by simp⟩
  rw [ce]
  have h32 : i = 0 ∨ i = 1 ∨ i = 2 ∨ i = 3 ∨ i = 4 ∨ i = 5 ∨ i = 6 ∨ i = 7 ∨ i = 8 ∨ i = 9 ∨ i = 10 ∨ i = 11 ∨ i = 12 ∨ i = 13 ∨ i = 14 ∨ i = 15 ∨ i = 16 ∨ i = 17 ∨ i = 18 ∨ i = 19 ∨ i = 20 ∨ i = 21 ∨ i = 22 ∨ i = 23 ∨ i = 24 ∨ i = 25 ∨ i = 26 ∨ i = 27 ∨ i = 28 ∨ i = 29 ∨ i = 30 ∨ i = 31 := by omega
  rcases h32 with rfl | rfl | rfl | rfl | rfl | rfl | rfl | rfl | rfl | rfl | rfl | rfl | rfl | rfl | rfl | rfl | rfl | rfl | rfl | rfl | rfl | rfl | rfl | rfl | rfl | rfl | rfl | rfl | rfl | rfl | rfl | rfl <;> rfl

set_option maxRecDepth 10000 in
set_option maxHeartbeats 1000000 in
theorem gnew_any (n : Int) (w : World) :
    Calls Tryd.prog 54 #[.int .i64 n] w fun e w' => e = .returned (.pointer (some ⟨w.heap.size, 0, none⟩)) ∧ GateAt w' w.heap.size [] 0 0 0 0 (min (max n 0) 31) 0 ∧ Below w.heap.size w w' := by
  go_enter Tryd.func54, Tryd.ntmps54
  go_wp2
  go_ret
  exact ⟨rfl, GateAt.new _ _ _, below_one _ _⟩

set_option maxHeartbeats 400000 in
theorem gmask_any (v : Value) (w : World) : Calls Tryd.prog 61 #[v] w fun e w' => e = .returned (.int .u32 0) ∧ w' = w := by
  go_enter Tryd.func61, Tryd.ntmps61
  go_wp2
  go_ret
  exact ⟨rfl, rfl⟩

set_option maxRecDepth 10000 in
set_option maxHeartbeats 2000000 in
theorem alive09 (w : World) (hT : Tab w) : Calls Tryd.prog 53 #[] w fun e w' => e = .returned (.bool true) ∧ Below w.heap.size w w' := by
  have up : ∀ {W W' : World}, Below w.heap.size w W → W.grownBy W' (some w.heap.size) → Below w.heap.size w W' := fun hb hg => hb.grown hg hb.size (fun k hk => by injection hk with hk; omega)
  have h1 : ∀ W, GateAt W w.heap.size [] 0 0 0 0 5 0 → Calls Tryd.prog 55 #[.pointer (some ⟨w.heap.size, 0, none⟩), .int .i64 1] W fun e w' => e = .returned (.bool true) ∧ GateAt w' w.heap.size [] 0 2 1 0 5 0 ∧ W.grownBy w' (some w.heap.size) := fun W h => graise_yes w.heap.size 1 [] 0 0 0 0 5 0 W h (by decide) (by decide) (by decide)
  have h2 : ∀ W, GateAt W w.heap.size [] 0 2 1 0 5 0 → Tab W → Calls Tryd.prog 59 #[.pointer (some ⟨w.heap.size, 0, none⟩)] W fun e w' => e = .returned (.tuple #[.int .i64 1, .bool true]) ∧ GateAt w' w.heap.size [1] 1 0 1 0 5 1 ∧ W.grownBy w' (some w.heap.size) := fun W h hT => gnext_yes w.heap.size [] 0 2 1 0 5 0 W h hT (by decide) (by decide) (by decide)
  have h3 : ∀ W, GateAt W w.heap.size [1] 1 0 1 0 5 1 → Calls Tryd.prog 55 #[.pointer (some ⟨w.heap.size, 0, none⟩), .int .i64 3] W fun e w' => e = .returned (.bool true) ∧ GateAt w' w.heap.size [1] 1 8 2 0 5 1 ∧ W.grownBy w' (some w.heap.size) := fun W h => graise_yes w.heap.size 3 [1] 1 0 1 0 5 1 W h (by decide) (by decide) (by decide)
  have h4 : ∀ W, GateAt W w.heap.size [1] 1 8 2 0 5 1 → Calls Tryd.prog 55 #[.pointer (some ⟨w.heap.size, 0, none⟩), .int .i64 2] W fun e w' => e = .returned (.bool true) ∧ GateAt w' w.heap.size [1] 1 12 3 0 5 1 ∧ W.grownBy w' (some w.heap.size) := fun W h => graise_yes w.heap.size 2 [1] 1 8 2 0 5 1 W h (by decide) (by decide) (by decide)
  have h5 : ∀ W, GateAt W w.heap.size [1] 1 12 3 0 5 1 → Tab W → Calls Tryd.prog 59 #[.pointer (some ⟨w.heap.size, 0, none⟩)] W fun e w' => e = .returned (.tuple #[.int .i64 3, .bool true]) ∧ GateAt w' w.heap.size [1, 3] 2 4 3 0 5 2 ∧ W.grownBy w' (some w.heap.size) := fun W h hT => gnext_yes w.heap.size [1] 1 12 3 0 5 1 W h hT (by decide) (by decide) (by decide)
  have h6 : ∀ W, GateAt W w.heap.size [1, 3] 2 4 3 0 5 2 → Tab W → Calls Tryd.prog 59 #[.pointer (some ⟨w.heap.size, 0, none⟩)] W fun e w' => e = .returned (.tuple #[.int .i64 3, .bool false]) ∧ ∃ n, w' = W.drewN n := fun W h hT => gnext_no w.heap.size [1, 3] 2 4 3 0 5 2 W h hT (by decide)
  have h7 : ∀ W, GateAt W w.heap.size [1, 3] 2 4 3 0 5 2 → Calls Tryd.prog 56 #[.pointer (some ⟨w.heap.size, 0, none⟩)] W fun e w' => e = .returned (.tuple #[.int .i64 3, .bool true]) ∧ GateAt w' w.heap.size [1] 2 4 3 0 5 2 ∧ W.grownBy w' (some w.heap.size) := fun W h => gleave_some w.heap.size [1] 3 2 4 3 0 5 2 W h
  have h8 : ∀ W, GateAt W w.heap.size [1] 2 4 3 0 5 2 → Tab W → Calls Tryd.prog 59 #[.pointer (some ⟨w.heap.size, 0, none⟩)] W fun e w' => e = .returned (.tuple #[.int .i64 2, .bool true]) ∧ GateAt w' w.heap.size [1, 2] 2 0 3 0 5 3 ∧ W.grownBy w' (some w.heap.size) := fun W h hT => gnext_yes w.heap.size [1] 2 4 3 0 5 2 W h hT (by decide) (by decide) (by decide)
  have h0 : ∀ W, Calls Tryd.prog 54 #[.int .i64 5] W fun e w' => e = .returned (.pointer (some ⟨W.heap.size, 0, none⟩)) ∧ GateAt w' W.heap.size [] 0 0 0 0 5 0 ∧ Below W.heap.size W w' := fun W => gnew_any 5 W
  go_enter Tryd.func53, Tryd.ntmps53
  go_wp2_with (first
    | (go_at_call 54; refine (h0 _).mono ?_; rintro e w1 ⟨rfl, st1, bb1⟩)
    | (go_at_call 55; with_reducible refine (h1 _ st1).mono ?_; rintro e w2 ⟨rfl, st2, hg2⟩; have bb2 := up bb1 hg2)
    | (go_at_call 59; with_reducible refine (h2 _ st2 (hT.below bb2)).mono ?_; rintro e w3 ⟨rfl, st3, hg3⟩; have bb3 := up bb2 hg3)
    | (go_at_call 55; with_reducible refine (h3 _ st3).mono ?_; rintro e w4 ⟨rfl, st4, hg4⟩; have bb4 := up bb3 hg4)
    | (go_at_call 55; with_reducible refine (h4 _ st4).mono ?_; rintro e w5 ⟨rfl, st5, hg5⟩; have bb5 := up bb4 hg5)
    | (go_at_call 59; with_reducible refine (h5 _ st5 (hT.below bb5)).mono ?_; rintro e w6 ⟨rfl, st6, hg6⟩; have bb6 := up bb5 hg6)
    | (go_at_call 59; with_reducible refine (h6 _ st6 (hT.below bb6)).mono ?_; rintro e w7 ⟨rfl, n7, rfl⟩; have st7 := st6.drewN n7; have bb7 := below_drewN bb6 n7)
    | (go_at_call 56; with_reducible refine (h7 _ st7).mono ?_; rintro e w8 ⟨rfl, st8, hg8⟩; have bb8 := up bb7 hg8)
    | (go_at_call 59; with_reducible refine (h8 _ st8 (hT.below bb8)).mono ?_; rintro e w9 ⟨rfl, st9, hg9⟩; have bb9 := up bb8 hg9)
    | (go_at_call 61; with_reducible refine (gmask_any _ _).mono ?_; rintro e w10 ⟨rfl, rfl⟩))
  go_ret
  exact ⟨rfl, by assumption⟩
end Go.Proofs.YtbbnackahgcegaaDoor
