/- Layer 8's 'alive', and what the two laws of nests share. -/
import Derived.Test.YtebhojbllhjkeaaNestB
namespace Go.Proofs.Ytebhojbllhjkeaa
open Go.RowKit
set_option linter.unusedVariables false

theorem NestAt.new (w : World) (t : TypeId) : NestAt (w.alloc (.cells (Array.replicate 34 (.int .i64 0)) t)) w.heap.size 0 [] 0 := by
  have hc : ∀ i, i < 34 → (w.alloc (.cells (Array.replicate 34 (Value.int .i64 0)) t)).cell? ⟨w.heap.size, 0 + i, none⟩ = some (.int .i64 0) := fun i hi => by
    rw [World.cell?_alloc_at _ _ _ _ rfl, Array.getElem?_replicate, if_pos (by omega)]
  exact ⟨fun i hi => by simp at hi, fun i hi => ⟨0, hc i (by omega)⟩, hc 32 (by omega), hc 33 (by omega), fun i hi => World.frozen?_alloc_at _ _ _ _ rfl⟩

/-- the levels of a stack: each is at least its place, and at most 31 -/
def Stk (s : List Int) : Prop := ∀ i, i < s.length → (i : Int) ≤ s.getD i 0 ∧ s.getD i 0 ≤ 31

theorem snoc_cases (s : List Int) : s = [] ∨ ∃ s0 x, s = s0 ++ [x] := by
  cases h : s with
  | nil => exact .inl rfl
  | cons a l => exact .inr ⟨(a :: l).dropLast, (a :: l).getLast (by simp), (List.dropLast_concat_getLast (by simp)).symm⟩

theorem Stk.nil : Stk [] := fun i hi => by simp at hi
theorem Stk.le {s : List Int} (h : Stk s) : s.length ≤ 32 := by
  apply Decidable.byContradiction
  intro hn
  have := h 32 (by omega)
  omega
theorem Stk.top {s : List Int} (h : Stk s) : (s.length : Int) ≤ topI s + 1 ∧ topI s ≤ 31 ∧ -1 ≤ topI s := by
  unfold topI
  split
  · omega
  · have := h (s.length - 1) (by omega)
    omega
theorem Stk.push {s : List Int} {k : Int} (h : Stk s) (hk : mayB k s = true) : Stk (s ++ [k]) ∧ s.length < 32 := by
  obtain ⟨h0, h1, h2⟩ := of_decide_eq_true hk
  have ht := h.top
  refine ⟨fun i hi => ?_, by omega⟩
  rw [List.length_append, List.length_singleton] at hi
  by_cases hc : i = s.length
  · subst hc
    simp
    omega
  · have := h i (by omega)
    simpa [List.getElem?_append_left (show i < s.length by omega)] using this
theorem Stk.pop {s : List Int} {x : Int} (h : Stk (s ++ [x])) : Stk s := fun i hi => by
  have := h i (by simp; omega)
  simpa [List.getElem?_append_left hi] using this

theorem NestAt.only {w w' : World} {B o g : Nat} {s : List Int} {m : Int} (h : NestAt w B o s m) (hg : w.grownBy w' (some g)) (hB : B < w.heap.size) (hne : B ≠ g) : NestAt w' B o s m :=
  ⟨fun i hi => (only_cell hg (p := ⟨B, o + i, none⟩) hB hne).trans (h.lev i hi), fun i hi => (h.any i hi).elim fun n hn => ⟨n, (only_cell hg (p := ⟨B, o + i, none⟩) hB hne).trans hn⟩,
   (only_cell hg (p := ⟨B, o + 32, none⟩) hB hne).trans h.deep, (only_cell hg (p := ⟨B, o + 33, none⟩) hB hne).trans h.most, fun i hi => (only_frozen hg (p := ⟨B, o + i, none⟩) hB hne).trans (h.fr i hi)⟩

set_option maxRecDepth 100000 in
set_option maxHeartbeats 1000000 in
theorem alive08 (w : World) :
    Calls Try.prog 20 #[] w fun e w' => e = .returned (.bool true) ∧ Below w.heap.size w w' := by
  have h0 := NestAt.new w 33
  go_enter Try.func20, Try.ntmps20
  go_wp2_with (go_at_call 21; apply stop)
  refine Stop.go ?_
  refine (enter_yes w.heap.size 0 2 [] 0 _ h0 (by simp) (by simp) (by decide)).mono ?_
  rintro e w1 ⟨rfl, h1, g1⟩
  have h1 : NestAt w1 w.heap.size 0 [2] 1 := by simpa [show max (0 : Int) 1 = 1 from rfl] using h1
  have b1 : Below w.heap.size w w1 := (below_one w _).grown g1 (by simp) (fun k hk => by injection hk with hk; omega)
  have z1 : w.heap.size < w1.heap.size := by have := g1.size; simp at this; omega
  clear h0 g1
  go_wp2_with (go_at_call 21; apply stop)
  refine Stop.go ?_
  refine (enter_no w.heap.size 0 2 [2] 1 _ h1 (by simp) z1 (by decide)).mono ?_
  rintro e w2 ⟨rfl, hb⟩
  have h2 : NestAt w2 w.heap.size 0 [2] 1 := h1.below hb z1
  have b2 : Below w.heap.size w w2 := below_trans b1 hb
  have z2 : w.heap.size < w2.heap.size := Nat.lt_of_lt_of_le z1 hb.size
  clear hb h1 b1 z1
  go_wp2_with (go_at_call 21; apply stop)
  refine Stop.go ?_
  refine (enter_yes w.heap.size 0 5 [2] 1 _ h2 (by simp) z2 (by decide)).mono ?_
  rintro e w3 ⟨rfl, h3, g3⟩
  have h3 : NestAt w3 w.heap.size 0 ([2] ++ [5]) 2 := by simpa [show max (1 : Int) 2 = 2 from rfl] using h3
  have b3 : Below w.heap.size w w3 := b2.grown g3 (Nat.le_of_lt z2) (fun k hk => by injection hk with hk; omega)
  have z3 : w.heap.size < w3.heap.size := Nat.lt_of_lt_of_le z2 g3.size
  clear h2 b2 z2 g3
  go_wp2_with (go_at_call 23; apply stop)
  refine Stop.go ?_
  refine (leave_some w.heap.size 0 [2] 5 2 _ h3 (by simp)).mono ?_
  rintro e w4 ⟨rfl, h4, g4⟩
  have b4 : Below w.heap.size w w4 := b3.grown g4 (Nat.le_of_lt z3) (fun k hk => by injection hk with hk; omega)
  clear h3 b3 g4
  have hT := top_any w.heap.size 0 [2] 2 w4 h4 (by simp)
  have et : topI [2] = 2 := by decide
  rw [et] at hT
  have HT := Lib.hid hT
  clear hT et
  go_wp2_with (go_at_call 25; refine HT.out.mono ?_; rintro e w5 ⟨rfl, n, rfl⟩)
  go_ret
  exact ⟨rfl, below_drewN b4 _⟩

end Go.Proofs.Ytebhojbllhjkeaa
