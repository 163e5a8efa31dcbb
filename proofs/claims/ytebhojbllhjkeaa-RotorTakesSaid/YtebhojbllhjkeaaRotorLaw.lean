/- The rotor laws' Own and back, and 'alive'. -/
import Derived.Test.YtebhojbllhjkeaaRotorCycle
namespace Go.Proofs.Ytebhojbllhjkeaa
open Go.RowKit
set_option linter.all false

set_option maxRecDepth 10000 in
set_option maxHeartbeats 1000000 in
theorem own05 (z a c : Pt) (p : Int) (w : World) : Calls Try.prog 53 #[rotV z a c p] w fun e w' => e = .returned (rotV z a c p) ∧ Below w.heap.size w w' := by
  go_enter Try.func53, Try.ntmps53
  go_wp2
  exact bodyPost_ret (v := rotV z a c p) (by simp [results, Try.results53, go_sem]) rfl ⟨rfl, below_two _ _ _⟩
set_option maxRecDepth 10000 in
set_option maxHeartbeats 1000000 in
theorem back05 (z a c : Pt) (p : Int) (w : World) : Calls Try.prog 57 #[rotV z a c p] w fun e w' => e = .returned (rotV z a c p) ∧ Below w.heap.size w w' := by
  go_enter Try.func57, Try.ntmps57
  go_wp2
  exact bodyPost_ret (v := rotV z a c p) (by simp [results, Try.results57, go_sem]) rfl ⟨rfl, below_two _ _ _⟩

theorem it_mul {α : Type} {f : α → α} {z : α} {l : Nat} (h : it f l z = z) : ∀ q, it f (l * q) z = z
  | 0 => rfl
  | q + 1 => by rw [Nat.mul_succ, it_add, it_mul h q, h]
theorem orbit_alive : Orbit (fun n => it (ap (0, 1) (0, 0) 3) n (1, 0)) 0 4 := by
  have h4 : it (ap (0, 1) (0, 0) 3) 4 (1, 0) = (1, 0) := by decide
  have per : ∀ n, it (ap (0, 1) (0, 0) 3) n (1, 0) = it (ap (0, 1) (0, 0) 3) (n % 4) (1, 0) := fun n => by
    conv => lhs; rw [show n = 4 * (n / 4) + n % 4 by omega]
    rw [it_add, it_mul h4]
  have dist : ∀ a, a < 4 → ∀ b, b < 4 → it (ap (0, 1) (0, 0) 3) a (1, 0) = it (ap (0, 1) (0, 0) 3) b (1, 0) → a = b := by decide
  refine ⟨by omega, fun i j hij => ?_⟩
  show it (ap (0, 1) (0, 0) 3) i (1, 0) = it (ap (0, 1) (0, 0) 3) j (1, 0) ↔ _
  rw [per i, per j]
  constructor
  · intro h
    have := dist _ (Nat.mod_lt _ (by omega)) _ (Nat.mod_lt _ (by omega)) h
    exact ⟨Nat.zero_le _, by omega⟩
  · rintro ⟨_, h⟩
    rw [show i % 4 = j % 4 by omega]

set_option maxRecDepth 10000 in
set_option maxHeartbeats 1000000 in
theorem alive05 (w : World) : Calls Try.prog 51 #[] w fun e w' => e = .returned (.bool true) ∧ Below w.heap.size w w' := by
  have hcy : ∀ W, Calls Try.prog 55 #[.agg #[.int .i64 1, .int .i64 0, .int .i64 0, .int .i64 1, .int .i64 0, .int .i64 0, .int .i64 3]] W fun e w' => e = .returned (.tuple #[.int .i64 0, .int .i64 4, .bool true]) ∧ Below W.heap.size W w' :=
    fun W => rcycle_yes (1, 0) (0, 1) (0, 0) 3 0 4 W (by decide) orbit_alive (by decide)
  go_enter Try.func51, Try.ntmps51
  go_wp2_with (go_at_call 55; refine (hcy _).mono ?_; rintro e w1 ⟨rfl, hb1⟩)
  go_ret
  exact ⟨rfl, hb1⟩

/-- five numbers of a rotor in a block -/
abbrev Rot := Pt × Pt × Pt × Int
abbrev RBx (W : World) (B : Nat) (r : Rot) : Prop := RB W B r.1 r.2.1 r.2.2.1 r.2.2.2
abbrev rV (r : Rot) : Value := rotV r.1 r.2.1 r.2.2.1 r.2.2.2
/-- a law's memory: its argument in a box, and rotors in blocks of its own -/
structure LM (w W : World) (r : Rot) (G : List (Nat × Rot)) : Prop where
  b : RBx W w.heap.size r
  g : ∀ x ∈ G, RBx W x.1 x.2
  bel : Below w.heap.size w W
theorem LM.up {w W W' : World} {r : Rot} {G : List (Nat × Rot)} (h : LM w W r G) (hb : Below W.heap.size W W') : LM w W' r G :=
  ⟨h.b.up hb, fun x hx => (h.g x hx).up hb, below_trans h.bel hb⟩
theorem LM.drew {w W : World} {r : Rot} {G : List (Nat × Rot)} (h : LM w W r G) : LM w W.drew r G := h.up (Below.refl _ _).drew
theorem LM.push {w W w1 : World} {r : Rot} {G : List (Nat × Rot)} (h : LM w W r G) (hb : Below W.heap.size W w1) (s : Rot) (t : TypeId) :
    LM w (w1.alloc (.cells #[.int .i64 s.1.1, .int .i64 s.1.2, .int .i64 s.2.1.1, .int .i64 s.2.1.2, .int .i64 s.2.2.1.1, .int .i64 s.2.2.1.2, .int .i64 s.2.2.2] t)) r ((w1.heap.size, s) :: G) := by
  have h1 := (h.up hb).up (below_one w1 (.cells #[.int .i64 s.1.1, .int .i64 s.1.2, .int .i64 s.2.1.1, .int .i64 s.2.1.2, .int .i64 s.2.2.1.1, .int .i64 s.2.2.1.2, .int .i64 s.2.2.2] t))
  refine ⟨h1.b, fun x hx => ?_, h1.bel⟩
  rcases List.mem_cons.1 hx with rfl | hx
  · exact RB.new _ _ _ _ _ _
  · exact h1.g x hx
theorem LM.new (w : World) (r : Rot) (t : TypeId) : LM w (w.alloc (.cells #[.int .i64 r.1.1, .int .i64 r.1.2, .int .i64 r.2.1.1, .int .i64 r.2.1.2, .int .i64 r.2.2.1.1, .int .i64 r.2.2.1.2, .int .i64 r.2.2.2] t)) r [] :=
  ⟨RB.new _ _ _ _ _ _, (fun x hx => by cases hx), below_one _ _⟩
end Go.Proofs.Ytebhojbllhjkeaa
