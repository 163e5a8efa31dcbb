/- The law's 'alive' on task. -/
import Derived.Test.YtbbnackahgcegaaDoorTaskB
namespace Go.Proofs.YtbbnackahgcegaaDoor
open Go.RowKit
set_option linter.all false

set_option maxHeartbeats 1000000 in
theorem wake_yes (B : Nat) (st b : Int) (A : Option (Bool × Int × Int)) (x : Bool) (y z : Int) (w : World) (h : TaskAt w B st b A) (hs : st = 2 ∨ st = 3) :
    Calls Tryd.prog 34 #[.pointer (some ⟨B, 0, none⟩), ansV x y z] w fun e w' => e = .returned (.bool true) ∧ TaskAt w' B 1 b (some (x, y, z)) ∧ w.grownBy w' (some B) := by
  obtain ⟨v, hv⟩ := h.ptr
  have hc := h.cs
  have hf0 := h.f0
  have hf2 := h.f2
  have hB := h.lt
  have st0 := h.up (below_one w (.cells #[.bool x, .int .u32 y, .int .u32 z] 48))
  have hsz : (w.setCell ⟨B, 0, none⟩ (.int .i64 1)).heap.size = w.heap.size := by simp [World.setCell]
  rcases hs with rfl | rfl <;>
  · go_enter Tryd.func34, Tryd.ntmps34
    go_wp2_with (go_at_call 31; refine (state_any B _ b A _ st0).mono ?_; rintro e w1 ⟨rfl, rfl⟩)
    go_ret
    refine ⟨rfl, ?_, only_alloc (only_set (only_set (only_refl _ _) _) _) _⟩
    have := (h.sets (c := 1)).given (x := x) (y := y) (z := z) (t := 48)
    rw [hsz] at this
    exact this

set_option maxRecDepth 10000 in
set_option maxHeartbeats 2000000 in
theorem alive26 (w : World) : Calls Tryd.prog 24 #[] w fun e w' => e = .returned (.bool true) ∧ Below w.heap.size w w' := by
  have up : ∀ {W W' : World}, Below w.heap.size w W → W.grownBy W' (some w.heap.size) → Below w.heap.size w W' := fun hb hg => hb.grown hg hb.size (fun k hk => by injection hk with hk; omega)
  have h2 := fun W h => go_yes w.heap.size 0 2 none W h (by omega)
  have h3 := fun W h => go_no w.heap.size 2 0 3 none W h (by omega)
  have h4 := fun W h => wake_yes w.heap.size 2 0 none false 0 7 W h (by omega)
  have h5 := fun W h => taken_some w.heap.size 1 0 false 0 7 W h (by omega)
  have h6 := fun W h => taken_none w.heap.size 1 0 W h (by omega)
  have h7 := fun W h => state_any w.heap.size 1 0 none W h
  go_enter Tryd.func24, Tryd.ntmps24
  go_wp2_with (first
    | (go_at_call 25; refine (new_any _).mono ?_; rintro e w1 ⟨rfl, st1, hb1⟩)
    | (go_at_call 33; with_reducible refine (h2 _ st1).mono ?_; rintro e w2 ⟨rfl, st2, hg2⟩; have hb2 := up hb1 hg2)
    | (go_at_call 33; with_reducible refine (h3 _ st2).mono ?_; rintro e w3 ⟨rfl, rfl⟩)
    | (go_at_call 34; with_reducible refine (h4 _ st2).mono ?_; rintro e w4 ⟨rfl, st4, hg4⟩; have hb4 := up hb2 hg4)
    | (go_at_call 28; with_reducible refine (h5 _ st4).mono ?_; rintro e w5 ⟨rfl, st5, hg5⟩; have hb5 := up hb4 hg5; have st5a := fun o => st5.up (below_one w5 o); have hb5a := fun o => below_trans hb5 (below_one w5 o))
    | (go_at_call 28; with_reducible refine (h6 _ (st5a _)).mono ?_; rintro e w6 ⟨rfl, hb6⟩; have st6 := (st5a _).up hb6; obtain ⟨hcl, hfr⟩ := bcell hb6; have hz6 := size_one hb6; have st6a := fun o => st6.up (below_one w6 o))
    | (go_at_call 31; with_reducible refine (h7 _ (st6a _)).mono ?_; rintro e w7 ⟨rfl, rfl⟩))
  go_ret
  exact ⟨rfl, below_trans (below_trans (hb5a _) hb6) (below_one _ _)⟩
end Go.Proofs.YtbbnackahgcegaaDoor
