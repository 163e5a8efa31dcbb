/- RotorTakes: the choices of any rotor, and its tail and loop, are the document's (printed by wip/rotortakes.py). -/
import Derived.Test.YtebhojbllhjkeaaRotorLaw
import Derived.Test.YtebhojbllhjkeaaRotorTake
import Derived.Test.YtebhojbllhjkeaaRefCycle
import Derived.Test.YtebhojbllhjkeaaSame
import Derived.ProofKit
import Derived.OpenShut
import Derived.Deep.DeepCutAuto
import Derived.ChangeOld
namespace Go.Proofs.Ytebhojbllhjkeaa.rotorTakes
open Go.ChangeShapes Go.WideShapes Go.ChangeAt Go.RowKit
set_option linter.all false

theorem reads_up {w w' : World} {p : Option Addr} {s : List Int} (h : Reads w p s) (hb : Below w.heap.size w w') : Reads w' p s :=
  ⟨h.1, fun hp => by
    obtain ⟨b, off, he, hc⟩ := h.2 hp
    have hlt := block_lt_of_cell (hc 0 hp)
    exact ⟨b, off, he, fun i hi => (hb.cell (p := ⟨b, off + i, none⟩) hlt).trans (hc i hi)⟩⟩
/-- the law's memory: the rotors, and the rows that were told -/
structure QM (w W : World) (r : Rot) (G : List (Nat × Rot)) (R : List (Option Addr × List Int)) : Prop where
  l : LM w W r G
  q : ∀ x ∈ R, Reads W x.1 x.2
theorem QM.up {w W W' : World} {r : Rot} {G : List (Nat × Rot)} {R : List (Option Addr × List Int)} (h : QM w W r G R) (hb : Below W.heap.size W W') : QM w W' r G R := ⟨h.l.up hb, fun x hx => reads_up (h.q x hx) hb⟩
theorem QM.drew {w W : World} {r : Rot} {G : List (Nat × Rot)} {R : List (Option Addr × List Int)} (h : QM w W r G R) : QM w W.drew r G R := h.up (Below.refl _ _).drew
theorem QM.push {w W w1 : World} {r : Rot} {G : List (Nat × Rot)} {R : List (Option Addr × List Int)} (h : QM w W r G R) (hb : Below W.heap.size W w1) (s : Rot) (t : TypeId) (pa : Option Addr) (xs : List Int) (hr : Reads w1 pa xs) :
    QM w (w1.alloc (.cells #[.int .i64 s.1.1, .int .i64 s.1.2, .int .i64 s.2.1.1, .int .i64 s.2.1.2, .int .i64 s.2.2.1.1, .int .i64 s.2.2.1.2, .int .i64 s.2.2.2] t)) r ((w1.heap.size, s) :: G) ((pa, xs) :: R) := by
  refine ⟨h.l.push hb s t, fun x hx => ?_⟩
  have h1 := (h.up hb).up (below_one w1 (.cells #[.int .i64 s.1.1, .int .i64 s.1.2, .int .i64 s.2.1.1, .int .i64 s.2.1.2, .int .i64 s.2.2.1.1, .int .i64 s.2.2.1.2, .int .i64 s.2.2.2] t))
  rcases List.mem_cons.1 hx with rfl | hx
  · exact reads_up hr (below_one _ _)
  · exact h1.q x hx

theorem same_self (p q : Option Addr) (c d : Nat) (xs : List Int) (w : World) (hp : Reads w p xs) (hq : Reads w q xs) :
    Calls Try.prog 29 #[.slice p xs.length c, .slice q xs.length d] w fun e w' => e = .returned (.bool true) ∧ Below w.heap.size w w' :=
  (same_any p q c d xs xs w hp hq).mono fun e w' ⟨he, n, hw⟩ => ⟨by rw [he]; simp, by rw [hw]; exact below_drewN (Below.refl _ _) n⟩

set_option maxRecDepth 100000 in
set_option maxHeartbeats 4000000 in
theorem walk_aa (z a c z1 a1 c1 : Pt) (p n lv cm p1 t l : Int) (s : List Int) (b1 b2 : Bool) (w : World) 
    (d0 : decide ((2000 : Int) < n) = false)
    (d1 : decide ((60 : Int) < p) = false)
    (T1 : ∀ W, Calls Try.prog 52 #[rotV z a c p, .int .i64 n, .int .i64 lv, .int .i64 cm] W fun e w' => ∃ pa cap, e = .returned (.tuple #[.slice pa s.length cap, rotV z1 a1 c1 p1, .bool b1]) ∧ Reads w' pa s ∧ Below W.heap.size W w')
    (T2 : ∀ W, Calls Try.prog 54 #[rotV z a c p, .int .i64 n, .int .i64 lv, .int .i64 cm] W fun e w' => ∃ pa cap, e = .returned (.tuple #[.slice pa s.length cap, rotV z1 a1 c1 p1, .bool b1]) ∧ Reads w' pa s ∧ Below W.heap.size W w')
    (C1 : ∀ W, Calls Try.prog 55 #[rotV z a c p] W fun e w' => e = .returned (.tuple #[.int .i64 t, .int .i64 l, .bool b2]) ∧ Below W.heap.size W w')
    (C2 : ∀ W, Calls Try.prog 56 #[rotV z a c p] W fun e w' => e = .returned (.tuple #[.int .i64 t, .int .i64 l, .bool b2]) ∧ Below W.heap.size W w') :
    Calls Try.prog 8 #[rotV z a c p, .int .i64 n, .int .i64 lv, .int .i64 cm] w fun e w' => e = .returned (.bool true) ∧ Below w.heap.size w w' := by
  have ow := fun W => own05 z a c p W
  have ba1 := fun W => back05 z1 a1 c1 p1 W
  have St0 := Lib.hid (LM.new w (z, a, c, p) 73)
  go_enter Try.func8, Try.ntmps8
  go_upto_region 3 with fail
  refine wp_gen (fun W => LM w W (z, a, c, p) []) St0.out ?_
  clear St0 d0 d1
  intro W hM
  obtain ⟨x0, x1, x2, x3, x4, x5, x6⟩ := hM.b.all
  go_upto_region 4 with (first
    | (go_at_call 53; with_reducible refine (ow _).mono ?_; rintro e w1 ⟨rfl, hb1⟩; have m1 := hM.up hb1)
    | (go_at_call 52; with_reducible refine (T1 _).mono ?_; rintro e w2 ⟨pa, ca, rfl, hr2, hb2⟩))
  have m2 := QM.push (R := []) ⟨m1, fun x hx => by cases hx⟩ hb2 (z1, a1, c1, p1) 75 pa s hr2
  refine wp_gen (fun W => QM w W (z, a, c, p) ((w2.heap.size, (z1, a1, c1, p1)) :: []) ((pa, s) :: [])) m2 ?_
  clear hM m1 m2 hb1 hb2 hr2 T1 x0 x1 x2 x3 x4 x5 x6
  intro W hM
  generalize w2.heap.size = g1 at *
  clear w2 w1
  obtain ⟨x0, x1, x2, x3, x4, x5, x6⟩ := hM.l.b.all
  go_upto_region 5 with (go_at_call 54; with_reducible refine (T2 _).mono ?_; rintro e w2 ⟨pb, cb, rfl, hr2, hb2⟩)
  have m2 := hM.push hb2 (z1, a1, c1, p1) 73 pb s hr2
  refine wp_gen (fun W => QM w W (z, a, c, p) ((w2.heap.size, (z1, a1, c1, p1)) :: (g1, (z1, a1, c1, p1)) :: []) ((pb, s) :: (pa, s) :: [])) m2 ?_
  clear hM m2 hb2 hr2 T2 x0 x1 x2 x3 x4 x5 x6
  intro W hM
  generalize w2.heap.size = g2 at *
  clear w2
  obtain ⟨x0, x1, x2, x3, x4, x5, x6⟩ := hM.l.b.all
  go_upto_region 6 with (first
    | (go_at_call 53; with_reducible refine (ow _).mono ?_; rintro e w1 ⟨rfl, hb1⟩; have m1 := hM.up hb1)
    | (go_at_call 55; with_reducible refine (C1 _).mono ?_; rintro e w2 ⟨rfl, hb2⟩))
  refine wp_gen (fun W => QM w W (z, a, c, p) ((g2, (z1, a1, c1, p1)) :: (g1, (z1, a1, c1, p1)) :: []) ((pb, s) :: (pa, s) :: [])) (m1.up hb2) ?_
  clear hM m1 hb1 hb2 C1 x0 x1 x2 x3 x4 x5 x6
  intro W hM
  clear w2 w1
  obtain ⟨x0, x1, x2, x3, x4, x5, x6⟩ := hM.l.b.all
  go_upto_region 7 with (go_at_call 56; with_reducible refine (C2 _).mono ?_; rintro e w2 ⟨rfl, hb2⟩)
  refine wp_gen (fun W => QM w W (z, a, c, p) ((g2, (z1, a1, c1, p1)) :: (g1, (z1, a1, c1, p1)) :: []) ((pb, s) :: (pa, s) :: [])) (hM.up hb2) ?_
  clear hM hb2 C2 x0 x1 x2 x3 x4 x5 x6
  intro W hM
  clear w2
  have hS : ∀ W, QM w W (z, a, c, p) ((g2, (z1, a1, c1, p1)) :: (g1, (z1, a1, c1, p1)) :: []) ((pb, s) :: (pa, s) :: []) → (W.cell? ⟨g1, 0, none⟩ = some (.int .i64 z1.1) ∧ W.cell? ⟨g1, 1, none⟩ = some (.int .i64 z1.2) ∧ W.cell? ⟨g1, 2, none⟩ = some (.int .i64 a1.1) ∧ W.cell? ⟨g1, 3, none⟩ = some (.int .i64 a1.2) ∧ W.cell? ⟨g1, 4, none⟩ = some (.int .i64 c1.1) ∧ W.cell? ⟨g1, 5, none⟩ = some (.int .i64 c1.2) ∧ W.cell? ⟨g1, 6, none⟩ = some (.int .i64 p1) ∧ W.cell? ⟨g2, 0, none⟩ = some (.int .i64 z1.1) ∧ W.cell? ⟨g2, 1, none⟩ = some (.int .i64 z1.2) ∧ W.cell? ⟨g2, 2, none⟩ = some (.int .i64 a1.1) ∧ W.cell? ⟨g2, 3, none⟩ = some (.int .i64 a1.2) ∧ W.cell? ⟨g2, 4, none⟩ = some (.int .i64 c1.1) ∧ W.cell? ⟨g2, 5, none⟩ = some (.int .i64 c1.2) ∧ W.cell? ⟨g2, 6, none⟩ = some (.int .i64 p1)) := fun W hM => ⟨(hM.l.g (g1, (z1, a1, c1, p1)) (by simp)).x0, (hM.l.g (g1, (z1, a1, c1, p1)) (by simp)).x1, (hM.l.g (g1, (z1, a1, c1, p1)) (by simp)).x2, (hM.l.g (g1, (z1, a1, c1, p1)) (by simp)).x3, (hM.l.g (g1, (z1, a1, c1, p1)) (by simp)).x4, (hM.l.g (g1, (z1, a1, c1, p1)) (by simp)).x5, (hM.l.g (g1, (z1, a1, c1, p1)) (by simp)).x6, (hM.l.g (g2, (z1, a1, c1, p1)) (by simp)).x0, (hM.l.g (g2, (z1, a1, c1, p1)) (by simp)).x1, (hM.l.g (g2, (z1, a1, c1, p1)) (by simp)).x2, (hM.l.g (g2, (z1, a1, c1, p1)) (by simp)).x3, (hM.l.g (g2, (z1, a1, c1, p1)) (by simp)).x4, (hM.l.g (g2, (z1, a1, c1, p1)) (by simp)).x5, (hM.l.g (g2, (z1, a1, c1, p1)) (by simp)).x6⟩
  have hC := hS _ hM
  obtain ⟨k0, k1, k2, k3, k4, k5, k6, k7, k8, k9, k10, k11, k12, k13⟩ := hC
  go_region_held3 (fun W => (W.cell? ⟨g1, 0, none⟩ = some (.int .i64 z1.1) ∧ W.cell? ⟨g1, 1, none⟩ = some (.int .i64 z1.2) ∧ W.cell? ⟨g1, 2, none⟩ = some (.int .i64 a1.1) ∧ W.cell? ⟨g1, 3, none⟩ = some (.int .i64 a1.2) ∧ W.cell? ⟨g1, 4, none⟩ = some (.int .i64 c1.1) ∧ W.cell? ⟨g1, 5, none⟩ = some (.int .i64 c1.2) ∧ W.cell? ⟨g1, 6, none⟩ = some (.int .i64 p1) ∧ W.cell? ⟨g2, 0, none⟩ = some (.int .i64 z1.1) ∧ W.cell? ⟨g2, 1, none⟩ = some (.int .i64 z1.2) ∧ W.cell? ⟨g2, 2, none⟩ = some (.int .i64 a1.1) ∧ W.cell? ⟨g2, 3, none⟩ = some (.int .i64 a1.2) ∧ W.cell? ⟨g2, 4, none⟩ = some (.int .i64 c1.1) ∧ W.cell? ⟨g2, 5, none⟩ = some (.int .i64 c1.2) ∧ W.cell? ⟨g2, 6, none⟩ = some (.int .i64 p1))) (first
    | exact hS _ (by assumption)
    | exact hS _ (QM.drew (by assumption))) (first
    | (go_at_call 29; with_reducible refine (same_self pa pb ca cb s _ (hM.drew.q (pa, s) (by simp)) (hM.drew.q (pb, s) (by simp))).mono ?_; rintro e v1 ⟨rfl, hb1⟩; have m1 := QM.up hM.drew hb1)
    | (go_at_call 57; with_reducible refine (ba1 _).mono ?_; rintro e v4 ⟨rfl, hb4⟩; have m4 := QM.up m1 hb4)
    | (go_at_call 51; with_reducible refine (alive05 _).mono ?_; rintro e v6 ⟨rfl, hb6⟩; have m6 := QM.up m4 hb6))
  all_goals
    have hbel := m6.l.bel
    clear hM hS m1 m4 m6 hb1 hb4 hb6
    go_wp2
    go_ret
    exact ⟨rfl, hbel⟩

set_option maxRecDepth 100000 in
set_option maxHeartbeats 4000000 in
theorem walk_ab (z a c z1 a1 c1 : Pt) (p n lv cm p1 t l : Int) (s : List Int) (b1 b2 : Bool) (w : World) 
    (d0 : decide ((2000 : Int) < n) = false)
    (d1 : decide ((60 : Int) < p) = true)
    (d2 : decide (p ≤ 1000) = false)
    (T1 : ∀ W, Calls Try.prog 52 #[rotV z a c p, .int .i64 n, .int .i64 lv, .int .i64 cm] W fun e w' => ∃ pa cap, e = .returned (.tuple #[.slice pa s.length cap, rotV z1 a1 c1 p1, .bool b1]) ∧ Reads w' pa s ∧ Below W.heap.size W w')
    (T2 : ∀ W, Calls Try.prog 54 #[rotV z a c p, .int .i64 n, .int .i64 lv, .int .i64 cm] W fun e w' => ∃ pa cap, e = .returned (.tuple #[.slice pa s.length cap, rotV z1 a1 c1 p1, .bool b1]) ∧ Reads w' pa s ∧ Below W.heap.size W w')
    (C1 : ∀ W, Calls Try.prog 55 #[rotV z a c p] W fun e w' => e = .returned (.tuple #[.int .i64 t, .int .i64 l, .bool b2]) ∧ Below W.heap.size W w')
    (C2 : ∀ W, Calls Try.prog 56 #[rotV z a c p] W fun e w' => e = .returned (.tuple #[.int .i64 t, .int .i64 l, .bool b2]) ∧ Below W.heap.size W w') :
    Calls Try.prog 8 #[rotV z a c p, .int .i64 n, .int .i64 lv, .int .i64 cm] w fun e w' => e = .returned (.bool true) ∧ Below w.heap.size w w' := by
  have ow := fun W => own05 z a c p W
  have ba1 := fun W => back05 z1 a1 c1 p1 W
  have St0 := Lib.hid (LM.new w (z, a, c, p) 73)
  go_enter Try.func8, Try.ntmps8
  go_upto_region 3 with fail
  refine wp_gen (fun W => LM w W (z, a, c, p) []) St0.out ?_
  clear St0 d0 d1 d2
  intro W hM
  obtain ⟨x0, x1, x2, x3, x4, x5, x6⟩ := hM.b.all
  go_upto_region 4 with (first
    | (go_at_call 53; with_reducible refine (ow _).mono ?_; rintro e w1 ⟨rfl, hb1⟩; have m1 := hM.up hb1)
    | (go_at_call 52; with_reducible refine (T1 _).mono ?_; rintro e w2 ⟨pa, ca, rfl, hr2, hb2⟩))
  have m2 := QM.push (R := []) ⟨m1, fun x hx => by cases hx⟩ hb2 (z1, a1, c1, p1) 75 pa s hr2
  refine wp_gen (fun W => QM w W (z, a, c, p) ((w2.heap.size, (z1, a1, c1, p1)) :: []) ((pa, s) :: [])) m2 ?_
  clear hM m1 m2 hb1 hb2 hr2 T1 x0 x1 x2 x3 x4 x5 x6
  intro W hM
  generalize w2.heap.size = g1 at *
  clear w2 w1
  obtain ⟨x0, x1, x2, x3, x4, x5, x6⟩ := hM.l.b.all
  go_upto_region 5 with (go_at_call 54; with_reducible refine (T2 _).mono ?_; rintro e w2 ⟨pb, cb, rfl, hr2, hb2⟩)
  have m2 := hM.push hb2 (z1, a1, c1, p1) 73 pb s hr2
  refine wp_gen (fun W => QM w W (z, a, c, p) ((w2.heap.size, (z1, a1, c1, p1)) :: (g1, (z1, a1, c1, p1)) :: []) ((pb, s) :: (pa, s) :: [])) m2 ?_
  clear hM m2 hb2 hr2 T2 x0 x1 x2 x3 x4 x5 x6
  intro W hM
  generalize w2.heap.size = g2 at *
  clear w2
  obtain ⟨x0, x1, x2, x3, x4, x5, x6⟩ := hM.l.b.all
  go_upto_region 6 with (first
    | (go_at_call 53; with_reducible refine (ow _).mono ?_; rintro e w1 ⟨rfl, hb1⟩; have m1 := hM.up hb1)
    | (go_at_call 55; with_reducible refine (C1 _).mono ?_; rintro e w2 ⟨rfl, hb2⟩))
  refine wp_gen (fun W => QM w W (z, a, c, p) ((g2, (z1, a1, c1, p1)) :: (g1, (z1, a1, c1, p1)) :: []) ((pb, s) :: (pa, s) :: [])) (m1.up hb2) ?_
  clear hM m1 hb1 hb2 C1 x0 x1 x2 x3 x4 x5 x6
  intro W hM
  clear w2 w1
  obtain ⟨x0, x1, x2, x3, x4, x5, x6⟩ := hM.l.b.all
  go_upto_region 7 with (go_at_call 56; with_reducible refine (C2 _).mono ?_; rintro e w2 ⟨rfl, hb2⟩)
  refine wp_gen (fun W => QM w W (z, a, c, p) ((g2, (z1, a1, c1, p1)) :: (g1, (z1, a1, c1, p1)) :: []) ((pb, s) :: (pa, s) :: [])) (hM.up hb2) ?_
  clear hM hb2 C2 x0 x1 x2 x3 x4 x5 x6
  intro W hM
  clear w2
  have hS : ∀ W, QM w W (z, a, c, p) ((g2, (z1, a1, c1, p1)) :: (g1, (z1, a1, c1, p1)) :: []) ((pb, s) :: (pa, s) :: []) → (W.cell? ⟨g1, 0, none⟩ = some (.int .i64 z1.1) ∧ W.cell? ⟨g1, 1, none⟩ = some (.int .i64 z1.2) ∧ W.cell? ⟨g1, 2, none⟩ = some (.int .i64 a1.1) ∧ W.cell? ⟨g1, 3, none⟩ = some (.int .i64 a1.2) ∧ W.cell? ⟨g1, 4, none⟩ = some (.int .i64 c1.1) ∧ W.cell? ⟨g1, 5, none⟩ = some (.int .i64 c1.2) ∧ W.cell? ⟨g1, 6, none⟩ = some (.int .i64 p1) ∧ W.cell? ⟨g2, 0, none⟩ = some (.int .i64 z1.1) ∧ W.cell? ⟨g2, 1, none⟩ = some (.int .i64 z1.2) ∧ W.cell? ⟨g2, 2, none⟩ = some (.int .i64 a1.1) ∧ W.cell? ⟨g2, 3, none⟩ = some (.int .i64 a1.2) ∧ W.cell? ⟨g2, 4, none⟩ = some (.int .i64 c1.1) ∧ W.cell? ⟨g2, 5, none⟩ = some (.int .i64 c1.2) ∧ W.cell? ⟨g2, 6, none⟩ = some (.int .i64 p1)) := fun W hM => ⟨(hM.l.g (g1, (z1, a1, c1, p1)) (by simp)).x0, (hM.l.g (g1, (z1, a1, c1, p1)) (by simp)).x1, (hM.l.g (g1, (z1, a1, c1, p1)) (by simp)).x2, (hM.l.g (g1, (z1, a1, c1, p1)) (by simp)).x3, (hM.l.g (g1, (z1, a1, c1, p1)) (by simp)).x4, (hM.l.g (g1, (z1, a1, c1, p1)) (by simp)).x5, (hM.l.g (g1, (z1, a1, c1, p1)) (by simp)).x6, (hM.l.g (g2, (z1, a1, c1, p1)) (by simp)).x0, (hM.l.g (g2, (z1, a1, c1, p1)) (by simp)).x1, (hM.l.g (g2, (z1, a1, c1, p1)) (by simp)).x2, (hM.l.g (g2, (z1, a1, c1, p1)) (by simp)).x3, (hM.l.g (g2, (z1, a1, c1, p1)) (by simp)).x4, (hM.l.g (g2, (z1, a1, c1, p1)) (by simp)).x5, (hM.l.g (g2, (z1, a1, c1, p1)) (by simp)).x6⟩
  have hC := hS _ hM
  obtain ⟨k0, k1, k2, k3, k4, k5, k6, k7, k8, k9, k10, k11, k12, k13⟩ := hC
  go_region_held3 (fun W => (W.cell? ⟨g1, 0, none⟩ = some (.int .i64 z1.1) ∧ W.cell? ⟨g1, 1, none⟩ = some (.int .i64 z1.2) ∧ W.cell? ⟨g1, 2, none⟩ = some (.int .i64 a1.1) ∧ W.cell? ⟨g1, 3, none⟩ = some (.int .i64 a1.2) ∧ W.cell? ⟨g1, 4, none⟩ = some (.int .i64 c1.1) ∧ W.cell? ⟨g1, 5, none⟩ = some (.int .i64 c1.2) ∧ W.cell? ⟨g1, 6, none⟩ = some (.int .i64 p1) ∧ W.cell? ⟨g2, 0, none⟩ = some (.int .i64 z1.1) ∧ W.cell? ⟨g2, 1, none⟩ = some (.int .i64 z1.2) ∧ W.cell? ⟨g2, 2, none⟩ = some (.int .i64 a1.1) ∧ W.cell? ⟨g2, 3, none⟩ = some (.int .i64 a1.2) ∧ W.cell? ⟨g2, 4, none⟩ = some (.int .i64 c1.1) ∧ W.cell? ⟨g2, 5, none⟩ = some (.int .i64 c1.2) ∧ W.cell? ⟨g2, 6, none⟩ = some (.int .i64 p1))) (first
    | exact hS _ (by assumption)
    | exact hS _ (QM.drew (by assumption))) (first
    | (go_at_call 29; with_reducible refine (same_self pa pb ca cb s _ (hM.drew.q (pa, s) (by simp)) (hM.drew.q (pb, s) (by simp))).mono ?_; rintro e v1 ⟨rfl, hb1⟩; have m1 := QM.up hM.drew hb1)
    | (go_at_call 57; with_reducible refine (ba1 _).mono ?_; rintro e v4 ⟨rfl, hb4⟩; have m4 := QM.up m1 hb4)
    | (go_at_call 51; with_reducible refine (alive05 _).mono ?_; rintro e v6 ⟨rfl, hb6⟩; have m6 := QM.up m4 hb6))
  all_goals
    have hbel := m6.l.bel
    clear hM hS m1 m4 m6 hb1 hb4 hb6
    go_wp2
    go_ret
    exact ⟨rfl, hbel⟩

set_option maxRecDepth 100000 in
set_option maxHeartbeats 4000000 in
theorem walk_ba (z a c z1 a1 c1 : Pt) (p n lv cm p1 t l : Int) (s : List Int) (b1 b2 : Bool) (w : World) 
    (d0 : decide ((2000 : Int) < n) = true)
    (d1 : decide (n ≤ 65536) = false)
    (d2 : decide ((60 : Int) < p) = false)
    (T1 : ∀ W, Calls Try.prog 52 #[rotV z a c p, .int .i64 n, .int .i64 lv, .int .i64 cm] W fun e w' => ∃ pa cap, e = .returned (.tuple #[.slice pa s.length cap, rotV z1 a1 c1 p1, .bool b1]) ∧ Reads w' pa s ∧ Below W.heap.size W w')
    (T2 : ∀ W, Calls Try.prog 54 #[rotV z a c p, .int .i64 n, .int .i64 lv, .int .i64 cm] W fun e w' => ∃ pa cap, e = .returned (.tuple #[.slice pa s.length cap, rotV z1 a1 c1 p1, .bool b1]) ∧ Reads w' pa s ∧ Below W.heap.size W w')
    (C1 : ∀ W, Calls Try.prog 55 #[rotV z a c p] W fun e w' => e = .returned (.tuple #[.int .i64 t, .int .i64 l, .bool b2]) ∧ Below W.heap.size W w')
    (C2 : ∀ W, Calls Try.prog 56 #[rotV z a c p] W fun e w' => e = .returned (.tuple #[.int .i64 t, .int .i64 l, .bool b2]) ∧ Below W.heap.size W w') :
    Calls Try.prog 8 #[rotV z a c p, .int .i64 n, .int .i64 lv, .int .i64 cm] w fun e w' => e = .returned (.bool true) ∧ Below w.heap.size w w' := by
  have ow := fun W => own05 z a c p W
  have ba1 := fun W => back05 z1 a1 c1 p1 W
  have St0 := Lib.hid (LM.new w (z, a, c, p) 73)
  go_enter Try.func8, Try.ntmps8
  go_upto_region 3 with fail
  refine wp_gen (fun W => LM w W (z, a, c, p) []) St0.out ?_
  clear St0 d0 d1 d2
  intro W hM
  obtain ⟨x0, x1, x2, x3, x4, x5, x6⟩ := hM.b.all
  go_upto_region 4 with (first
    | (go_at_call 53; with_reducible refine (ow _).mono ?_; rintro e w1 ⟨rfl, hb1⟩; have m1 := hM.up hb1)
    | (go_at_call 52; with_reducible refine (T1 _).mono ?_; rintro e w2 ⟨pa, ca, rfl, hr2, hb2⟩))
  have m2 := QM.push (R := []) ⟨m1, fun x hx => by cases hx⟩ hb2 (z1, a1, c1, p1) 75 pa s hr2
  refine wp_gen (fun W => QM w W (z, a, c, p) ((w2.heap.size, (z1, a1, c1, p1)) :: []) ((pa, s) :: [])) m2 ?_
  clear hM m1 m2 hb1 hb2 hr2 T1 x0 x1 x2 x3 x4 x5 x6
  intro W hM
  generalize w2.heap.size = g1 at *
  clear w2 w1
  obtain ⟨x0, x1, x2, x3, x4, x5, x6⟩ := hM.l.b.all
  go_upto_region 5 with (go_at_call 54; with_reducible refine (T2 _).mono ?_; rintro e w2 ⟨pb, cb, rfl, hr2, hb2⟩)
  have m2 := hM.push hb2 (z1, a1, c1, p1) 73 pb s hr2
  refine wp_gen (fun W => QM w W (z, a, c, p) ((w2.heap.size, (z1, a1, c1, p1)) :: (g1, (z1, a1, c1, p1)) :: []) ((pb, s) :: (pa, s) :: [])) m2 ?_
  clear hM m2 hb2 hr2 T2 x0 x1 x2 x3 x4 x5 x6
  intro W hM
  generalize w2.heap.size = g2 at *
  clear w2
  obtain ⟨x0, x1, x2, x3, x4, x5, x6⟩ := hM.l.b.all
  go_upto_region 6 with (first
    | (go_at_call 53; with_reducible refine (ow _).mono ?_; rintro e w1 ⟨rfl, hb1⟩; have m1 := hM.up hb1)
    | (go_at_call 55; with_reducible refine (C1 _).mono ?_; rintro e w2 ⟨rfl, hb2⟩))
  refine wp_gen (fun W => QM w W (z, a, c, p) ((g2, (z1, a1, c1, p1)) :: (g1, (z1, a1, c1, p1)) :: []) ((pb, s) :: (pa, s) :: [])) (m1.up hb2) ?_
  clear hM m1 hb1 hb2 C1 x0 x1 x2 x3 x4 x5 x6
  intro W hM
  clear w2 w1
  obtain ⟨x0, x1, x2, x3, x4, x5, x6⟩ := hM.l.b.all
  go_upto_region 7 with (go_at_call 56; with_reducible refine (C2 _).mono ?_; rintro e w2 ⟨rfl, hb2⟩)
  refine wp_gen (fun W => QM w W (z, a, c, p) ((g2, (z1, a1, c1, p1)) :: (g1, (z1, a1, c1, p1)) :: []) ((pb, s) :: (pa, s) :: [])) (hM.up hb2) ?_
  clear hM hb2 C2 x0 x1 x2 x3 x4 x5 x6
  intro W hM
  clear w2
  have hS : ∀ W, QM w W (z, a, c, p) ((g2, (z1, a1, c1, p1)) :: (g1, (z1, a1, c1, p1)) :: []) ((pb, s) :: (pa, s) :: []) → (W.cell? ⟨g1, 0, none⟩ = some (.int .i64 z1.1) ∧ W.cell? ⟨g1, 1, none⟩ = some (.int .i64 z1.2) ∧ W.cell? ⟨g1, 2, none⟩ = some (.int .i64 a1.1) ∧ W.cell? ⟨g1, 3, none⟩ = some (.int .i64 a1.2) ∧ W.cell? ⟨g1, 4, none⟩ = some (.int .i64 c1.1) ∧ W.cell? ⟨g1, 5, none⟩ = some (.int .i64 c1.2) ∧ W.cell? ⟨g1, 6, none⟩ = some (.int .i64 p1) ∧ W.cell? ⟨g2, 0, none⟩ = some (.int .i64 z1.1) ∧ W.cell? ⟨g2, 1, none⟩ = some (.int .i64 z1.2) ∧ W.cell? ⟨g2, 2, none⟩ = some (.int .i64 a1.1) ∧ W.cell? ⟨g2, 3, none⟩ = some (.int .i64 a1.2) ∧ W.cell? ⟨g2, 4, none⟩ = some (.int .i64 c1.1) ∧ W.cell? ⟨g2, 5, none⟩ = some (.int .i64 c1.2) ∧ W.cell? ⟨g2, 6, none⟩ = some (.int .i64 p1)) := fun W hM => ⟨(hM.l.g (g1, (z1, a1, c1, p1)) (by simp)).x0, (hM.l.g (g1, (z1, a1, c1, p1)) (by simp)).x1, (hM.l.g (g1, (z1, a1, c1, p1)) (by simp)).x2, (hM.l.g (g1, (z1, a1, c1, p1)) (by simp)).x3, (hM.l.g (g1, (z1, a1, c1, p1)) (by simp)).x4, (hM.l.g (g1, (z1, a1, c1, p1)) (by simp)).x5, (hM.l.g (g1, (z1, a1, c1, p1)) (by simp)).x6, (hM.l.g (g2, (z1, a1, c1, p1)) (by simp)).x0, (hM.l.g (g2, (z1, a1, c1, p1)) (by simp)).x1, (hM.l.g (g2, (z1, a1, c1, p1)) (by simp)).x2, (hM.l.g (g2, (z1, a1, c1, p1)) (by simp)).x3, (hM.l.g (g2, (z1, a1, c1, p1)) (by simp)).x4, (hM.l.g (g2, (z1, a1, c1, p1)) (by simp)).x5, (hM.l.g (g2, (z1, a1, c1, p1)) (by simp)).x6⟩
  have hC := hS _ hM
  obtain ⟨k0, k1, k2, k3, k4, k5, k6, k7, k8, k9, k10, k11, k12, k13⟩ := hC
  go_region_held3 (fun W => (W.cell? ⟨g1, 0, none⟩ = some (.int .i64 z1.1) ∧ W.cell? ⟨g1, 1, none⟩ = some (.int .i64 z1.2) ∧ W.cell? ⟨g1, 2, none⟩ = some (.int .i64 a1.1) ∧ W.cell? ⟨g1, 3, none⟩ = some (.int .i64 a1.2) ∧ W.cell? ⟨g1, 4, none⟩ = some (.int .i64 c1.1) ∧ W.cell? ⟨g1, 5, none⟩ = some (.int .i64 c1.2) ∧ W.cell? ⟨g1, 6, none⟩ = some (.int .i64 p1) ∧ W.cell? ⟨g2, 0, none⟩ = some (.int .i64 z1.1) ∧ W.cell? ⟨g2, 1, none⟩ = some (.int .i64 z1.2) ∧ W.cell? ⟨g2, 2, none⟩ = some (.int .i64 a1.1) ∧ W.cell? ⟨g2, 3, none⟩ = some (.int .i64 a1.2) ∧ W.cell? ⟨g2, 4, none⟩ = some (.int .i64 c1.1) ∧ W.cell? ⟨g2, 5, none⟩ = some (.int .i64 c1.2) ∧ W.cell? ⟨g2, 6, none⟩ = some (.int .i64 p1))) (first
    | exact hS _ (by assumption)
    | exact hS _ (QM.drew (by assumption))) (first
    | (go_at_call 29; with_reducible refine (same_self pa pb ca cb s _ (hM.drew.q (pa, s) (by simp)) (hM.drew.q (pb, s) (by simp))).mono ?_; rintro e v1 ⟨rfl, hb1⟩; have m1 := QM.up hM.drew hb1)
    | (go_at_call 57; with_reducible refine (ba1 _).mono ?_; rintro e v4 ⟨rfl, hb4⟩; have m4 := QM.up m1 hb4)
    | (go_at_call 51; with_reducible refine (alive05 _).mono ?_; rintro e v6 ⟨rfl, hb6⟩; have m6 := QM.up m4 hb6))
  all_goals
    have hbel := m6.l.bel
    clear hM hS m1 m4 m6 hb1 hb4 hb6
    go_wp2
    go_ret
    exact ⟨rfl, hbel⟩

set_option maxRecDepth 100000 in
set_option maxHeartbeats 4000000 in
theorem walk_bb (z a c z1 a1 c1 : Pt) (p n lv cm p1 t l : Int) (s : List Int) (b1 b2 : Bool) (w : World) 
    (d0 : decide ((2000 : Int) < n) = true)
    (d1 : decide (n ≤ 65536) = false)
    (d2 : decide ((60 : Int) < p) = true)
    (d3 : decide (p ≤ 1000) = false)
    (T1 : ∀ W, Calls Try.prog 52 #[rotV z a c p, .int .i64 n, .int .i64 lv, .int .i64 cm] W fun e w' => ∃ pa cap, e = .returned (.tuple #[.slice pa s.length cap, rotV z1 a1 c1 p1, .bool b1]) ∧ Reads w' pa s ∧ Below W.heap.size W w')
    (T2 : ∀ W, Calls Try.prog 54 #[rotV z a c p, .int .i64 n, .int .i64 lv, .int .i64 cm] W fun e w' => ∃ pa cap, e = .returned (.tuple #[.slice pa s.length cap, rotV z1 a1 c1 p1, .bool b1]) ∧ Reads w' pa s ∧ Below W.heap.size W w')
    (C1 : ∀ W, Calls Try.prog 55 #[rotV z a c p] W fun e w' => e = .returned (.tuple #[.int .i64 t, .int .i64 l, .bool b2]) ∧ Below W.heap.size W w')
    (C2 : ∀ W, Calls Try.prog 56 #[rotV z a c p] W fun e w' => e = .returned (.tuple #[.int .i64 t, .int .i64 l, .bool b2]) ∧ Below W.heap.size W w') :
    Calls Try.prog 8 #[rotV z a c p, .int .i64 n, .int .i64 lv, .int .i64 cm] w fun e w' => e = .returned (.bool true) ∧ Below w.heap.size w w' := by
  have ow := fun W => own05 z a c p W
  have ba1 := fun W => back05 z1 a1 c1 p1 W
  have St0 := Lib.hid (LM.new w (z, a, c, p) 73)
  go_enter Try.func8, Try.ntmps8
  go_upto_region 3 with fail
  refine wp_gen (fun W => LM w W (z, a, c, p) []) St0.out ?_
  clear St0 d0 d1 d2 d3
  intro W hM
  obtain ⟨x0, x1, x2, x3, x4, x5, x6⟩ := hM.b.all
  go_upto_region 4 with (first
    | (go_at_call 53; with_reducible refine (ow _).mono ?_; rintro e w1 ⟨rfl, hb1⟩; have m1 := hM.up hb1)
    | (go_at_call 52; with_reducible refine (T1 _).mono ?_; rintro e w2 ⟨pa, ca, rfl, hr2, hb2⟩))
  have m2 := QM.push (R := []) ⟨m1, fun x hx => by cases hx⟩ hb2 (z1, a1, c1, p1) 75 pa s hr2
  refine wp_gen (fun W => QM w W (z, a, c, p) ((w2.heap.size, (z1, a1, c1, p1)) :: []) ((pa, s) :: [])) m2 ?_
  clear hM m1 m2 hb1 hb2 hr2 T1 x0 x1 x2 x3 x4 x5 x6
  intro W hM
  generalize w2.heap.size = g1 at *
  clear w2 w1
  obtain ⟨x0, x1, x2, x3, x4, x5, x6⟩ := hM.l.b.all
  go_upto_region 5 with (go_at_call 54; with_reducible refine (T2 _).mono ?_; rintro e w2 ⟨pb, cb, rfl, hr2, hb2⟩)
  have m2 := hM.push hb2 (z1, a1, c1, p1) 73 pb s hr2
  refine wp_gen (fun W => QM w W (z, a, c, p) ((w2.heap.size, (z1, a1, c1, p1)) :: (g1, (z1, a1, c1, p1)) :: []) ((pb, s) :: (pa, s) :: [])) m2 ?_
  clear hM m2 hb2 hr2 T2 x0 x1 x2 x3 x4 x5 x6
  intro W hM
  generalize w2.heap.size = g2 at *
  clear w2
  obtain ⟨x0, x1, x2, x3, x4, x5, x6⟩ := hM.l.b.all
  go_upto_region 6 with (first
    | (go_at_call 53; with_reducible refine (ow _).mono ?_; rintro e w1 ⟨rfl, hb1⟩; have m1 := hM.up hb1)
    | (go_at_call 55; with_reducible refine (C1 _).mono ?_; rintro e w2 ⟨rfl, hb2⟩))
  refine wp_gen (fun W => QM w W (z, a, c, p) ((g2, (z1, a1, c1, p1)) :: (g1, (z1, a1, c1, p1)) :: []) ((pb, s) :: (pa, s) :: [])) (m1.up hb2) ?_
  clear hM m1 hb1 hb2 C1 x0 x1 x2 x3 x4 x5 x6
  intro W hM
  clear w2 w1
  obtain ⟨x0, x1, x2, x3, x4, x5, x6⟩ := hM.l.b.all
  go_upto_region 7 with (go_at_call 56; with_reducible refine (C2 _).mono ?_; rintro e w2 ⟨rfl, hb2⟩)
  refine wp_gen (fun W => QM w W (z, a, c, p) ((g2, (z1, a1, c1, p1)) :: (g1, (z1, a1, c1, p1)) :: []) ((pb, s) :: (pa, s) :: [])) (hM.up hb2) ?_
  clear hM hb2 C2 x0 x1 x2 x3 x4 x5 x6
  intro W hM
  clear w2
  have hS : ∀ W, QM w W (z, a, c, p) ((g2, (z1, a1, c1, p1)) :: (g1, (z1, a1, c1, p1)) :: []) ((pb, s) :: (pa, s) :: []) → (W.cell? ⟨g1, 0, none⟩ = some (.int .i64 z1.1) ∧ W.cell? ⟨g1, 1, none⟩ = some (.int .i64 z1.2) ∧ W.cell? ⟨g1, 2, none⟩ = some (.int .i64 a1.1) ∧ W.cell? ⟨g1, 3, none⟩ = some (.int .i64 a1.2) ∧ W.cell? ⟨g1, 4, none⟩ = some (.int .i64 c1.1) ∧ W.cell? ⟨g1, 5, none⟩ = some (.int .i64 c1.2) ∧ W.cell? ⟨g1, 6, none⟩ = some (.int .i64 p1) ∧ W.cell? ⟨g2, 0, none⟩ = some (.int .i64 z1.1) ∧ W.cell? ⟨g2, 1, none⟩ = some (.int .i64 z1.2) ∧ W.cell? ⟨g2, 2, none⟩ = some (.int .i64 a1.1) ∧ W.cell? ⟨g2, 3, none⟩ = some (.int .i64 a1.2) ∧ W.cell? ⟨g2, 4, none⟩ = some (.int .i64 c1.1) ∧ W.cell? ⟨g2, 5, none⟩ = some (.int .i64 c1.2) ∧ W.cell? ⟨g2, 6, none⟩ = some (.int .i64 p1)) := fun W hM => ⟨(hM.l.g (g1, (z1, a1, c1, p1)) (by simp)).x0, (hM.l.g (g1, (z1, a1, c1, p1)) (by simp)).x1, (hM.l.g (g1, (z1, a1, c1, p1)) (by simp)).x2, (hM.l.g (g1, (z1, a1, c1, p1)) (by simp)).x3, (hM.l.g (g1, (z1, a1, c1, p1)) (by simp)).x4, (hM.l.g (g1, (z1, a1, c1, p1)) (by simp)).x5, (hM.l.g (g1, (z1, a1, c1, p1)) (by simp)).x6, (hM.l.g (g2, (z1, a1, c1, p1)) (by simp)).x0, (hM.l.g (g2, (z1, a1, c1, p1)) (by simp)).x1, (hM.l.g (g2, (z1, a1, c1, p1)) (by simp)).x2, (hM.l.g (g2, (z1, a1, c1, p1)) (by simp)).x3, (hM.l.g (g2, (z1, a1, c1, p1)) (by simp)).x4, (hM.l.g (g2, (z1, a1, c1, p1)) (by simp)).x5, (hM.l.g (g2, (z1, a1, c1, p1)) (by simp)).x6⟩
  have hC := hS _ hM
  obtain ⟨k0, k1, k2, k3, k4, k5, k6, k7, k8, k9, k10, k11, k12, k13⟩ := hC
  go_region_held3 (fun W => (W.cell? ⟨g1, 0, none⟩ = some (.int .i64 z1.1) ∧ W.cell? ⟨g1, 1, none⟩ = some (.int .i64 z1.2) ∧ W.cell? ⟨g1, 2, none⟩ = some (.int .i64 a1.1) ∧ W.cell? ⟨g1, 3, none⟩ = some (.int .i64 a1.2) ∧ W.cell? ⟨g1, 4, none⟩ = some (.int .i64 c1.1) ∧ W.cell? ⟨g1, 5, none⟩ = some (.int .i64 c1.2) ∧ W.cell? ⟨g1, 6, none⟩ = some (.int .i64 p1) ∧ W.cell? ⟨g2, 0, none⟩ = some (.int .i64 z1.1) ∧ W.cell? ⟨g2, 1, none⟩ = some (.int .i64 z1.2) ∧ W.cell? ⟨g2, 2, none⟩ = some (.int .i64 a1.1) ∧ W.cell? ⟨g2, 3, none⟩ = some (.int .i64 a1.2) ∧ W.cell? ⟨g2, 4, none⟩ = some (.int .i64 c1.1) ∧ W.cell? ⟨g2, 5, none⟩ = some (.int .i64 c1.2) ∧ W.cell? ⟨g2, 6, none⟩ = some (.int .i64 p1))) (first
    | exact hS _ (by assumption)
    | exact hS _ (QM.drew (by assumption))) (first
    | (go_at_call 29; with_reducible refine (same_self pa pb ca cb s _ (hM.drew.q (pa, s) (by simp)) (hM.drew.q (pb, s) (by simp))).mono ?_; rintro e v1 ⟨rfl, hb1⟩; have m1 := QM.up hM.drew hb1)
    | (go_at_call 57; with_reducible refine (ba1 _).mono ?_; rintro e v4 ⟨rfl, hb4⟩; have m4 := QM.up m1 hb4)
    | (go_at_call 51; with_reducible refine (alive05 _).mono ?_; rintro e v6 ⟨rfl, hb6⟩; have m6 := QM.up m4 hb6))
  all_goals
    have hbel := m6.l.bel
    clear hM hS m1 m4 m6 hb1 hb4 hb6
    go_wp2
    go_ret
    exact ⟨rfl, hbel⟩

set_option maxRecDepth 100000 in
set_option maxHeartbeats 1000000 in
theorem early1 (z a c : Pt) (p n lv cm : Int) (w : World) (d1 : decide ((2000 : Int) < n) = true) (d2 : decide (n ≤ 65536) = true) :
    Calls Try.prog 8 #[rotV z a c p, .int .i64 n, .int .i64 lv, .int .i64 cm] w fun e w' => e = .returned (.bool true) ∧ Below w.heap.size w w' := by
  go_enter Try.func8, Try.ntmps8
  go_wp2_with (go_at_call 51; refine (alive05 _).mono ?_; rintro e w' ⟨rfl, hb⟩)
  go_ret
  exact ⟨rfl, below_trans (below_one w _) hb⟩
set_option maxRecDepth 100000 in
set_option maxHeartbeats 1000000 in
theorem early2 (z a c : Pt) (p n lv cm : Int) (w : World) (d1 : decide ((2000 : Int) < n) = false) (d3 : decide ((60 : Int) < p) = true) (d4 : decide (p ≤ 1000) = true) :
    Calls Try.prog 8 #[rotV z a c p, .int .i64 n, .int .i64 lv, .int .i64 cm] w fun e w' => e = .returned (.bool true) ∧ Below w.heap.size w w' := by
  go_enter Try.func8, Try.ntmps8
  go_wp2_with (go_at_call 51; refine (alive05 _).mono ?_; rintro e w' ⟨rfl, hb⟩)
  go_ret
  exact ⟨rfl, below_trans (below_one w _) hb⟩
set_option maxRecDepth 100000 in
set_option maxHeartbeats 1000000 in
theorem early3 (z a c : Pt) (p n lv cm : Int) (w : World) (d1 : decide ((2000 : Int) < n) = true) (d2 : decide (n ≤ 65536) = false) (d3 : decide ((60 : Int) < p) = true) (d4 : decide (p ≤ 1000) = true) :
    Calls Try.prog 8 #[rotV z a c p, .int .i64 n, .int .i64 lv, .int .i64 cm] w fun e w' => e = .returned (.bool true) ∧ Below w.heap.size w w' := by
  go_enter Try.func8, Try.ntmps8
  go_wp2_with (go_at_call 51; refine (alive05 _).mono ?_; rintro e w' ⟨rfl, hb⟩)
  go_ret
  exact ⟨rfl, below_trans (below_one w _) hb⟩

abbrev Takes (z a c : Pt) (p n lv cm : Int) (s : List Int) (z1 a1 c1 : Pt) (p1 : Int) (b : Bool) : Prop :=
  (∀ W, Calls Try.prog 52 #[rotV z a c p, .int .i64 n, .int .i64 lv, .int .i64 cm] W fun e w' => ∃ pa cap, e = .returned (.tuple #[.slice pa s.length cap, rotV z1 a1 c1 p1, .bool b]) ∧ Reads w' pa s ∧ Below W.heap.size W w') ∧
  (∀ W, Calls Try.prog 54 #[rotV z a c p, .int .i64 n, .int .i64 lv, .int .i64 cm] W fun e w' => ∃ pa cap, e = .returned (.tuple #[.slice pa s.length cap, rotV z1 a1 c1 p1, .bool b]) ∧ Reads w' pa s ∧ Below W.heap.size W w')
theorem nobody {e : Ending} {W w' : World} (h : e = .returned (.tuple #[.slice none 0 0, rotN, .bool false]) ∧ Below W.heap.size W w') : ∃ pa cap, e = .returned (.tuple #[.slice pa ([] : List Int).length cap, rotV (0, 0) (0, 0) (0, 0) 0, .bool false]) ∧ Reads w' pa ([] : List Int) ∧ Below W.heap.size W w' :=
  ⟨none, 0, h.1, reads_nil w', h.2⟩

theorem takes (z a c : Pt) (p n lv cm : Int) : ∃ s z1 a1 c1 p1 b, Takes z a c p n lv cm s z1 a1 c1 p1 b := by
  by_cases hr : rrB z a c p = true
  · by_cases h1 : n < 0
    · exact ⟨[], _, _, _, _, _, fun W => (rtake_no_n z a c p n lv cm W hr (by simp [wrB]; omega)).mono fun e w' h => nobody h, fun W => (ftake_no_a z a c p n lv cm W hr (by simp [h1])).mono fun e w' h => nobody h⟩
    · by_cases h2 : 65536 < n
      · exact ⟨[], _, _, _, _, _, fun W => (rtake_no_n z a c p n lv cm W hr (by simp [wrB]; omega)).mono fun e w' h => nobody h, fun W => (ftake_no_b z a c p n lv cm W hr (decide_eq_false h1) (decide_eq_true h2)).mono fun e w' h => nobody h⟩
      · have hn : wrB n 0 65536 = true := wrB_yes (by omega)
        by_cases h3 : lv < 0
        · exact ⟨[], _, _, _, _, _, fun W => (rtake_no_l z a c p n lv cm W hr hn (by simp [wrB]; omega)).mono fun e w' h => nobody h, fun W => (ftake_no_c z a c p n lv cm W hr (decide_eq_false h1) (decide_eq_false h2) (decide_eq_true h3)).mono fun e w' h => nobody h⟩
        · by_cases h4 : 31 < lv
          · exact ⟨[], _, _, _, _, _, fun W => (rtake_no_l z a c p n lv cm W hr hn (by simp [wrB]; omega)).mono fun e w' h => nobody h, fun W => (ftake_no_d z a c p n lv cm W hr (decide_eq_false h1) (decide_eq_false h2) (decide_eq_false h3) (decide_eq_true h4)).mono fun e w' h => nobody h⟩
          · have hl : wrB lv 0 31 = true := wrB_yes (by omega)
            by_cases h5 : cm < 1
            · exact ⟨[], _, _, _, _, _, fun W => (rtake_no_c z a c p n lv cm W hr hn hl (by simp [wrB]; omega)).mono fun e w' h => nobody h, fun W => (ftake_no_e z a c p n lv cm W hr (decide_eq_false h1) (decide_eq_false h2) (decide_eq_false h3) (decide_eq_false h4) (decide_eq_true h5)).mono fun e w' h => nobody h⟩
            · by_cases h6 : 1000 < cm
              · exact ⟨[], _, _, _, _, _, fun W => (rtake_no_c z a c p n lv cm W hr hn hl (by simp [wrB]; omega)).mono fun e w' h => nobody h, fun W => (ftake_no_f z a c p n lv cm W hr (decide_eq_false h1) (decide_eq_false h2) (decide_eq_false h3) (decide_eq_false h4) (decide_eq_false h5) (decide_eq_true h6)).mono fun e w' h => nobody h⟩
              · obtain ⟨m, rfl⟩ := Int.eq_ofNat_of_zero_le (show 0 ≤ n by omega)
                have e := takeL_length (fun k => it (ap a c p) k z) p lv cm m
                refine ⟨takeL (fun k => it (ap a c p) k z) p lv cm m, it (ap a c p) m z, a, c, p, true, fun W => ?_, fun W => ?_⟩
                · rw [e]; exact rtake_yes z a c p lv cm m W hr (by omega) (by omega) (by omega)
                · rw [e]; exact ftake_yes z a c p lv cm m W hr (by omega) (by omega) (by omega)
  · have hr := eq_false_of_ne_true hr
    exact ⟨[], _, _, _, _, _, fun W => (rtake_no_r z a c p n lv cm W hr).mono fun e w' h => nobody h, fun W => (ftake_no_r z a c p n lv cm W hr).mono fun e w' h => nobody h⟩

abbrev Cycles (z a c : Pt) (p t l : Int) (b : Bool) : Prop :=
  (∀ W, Calls Try.prog 55 #[rotV z a c p] W fun e w' => e = .returned (.tuple #[.int .i64 t, .int .i64 l, .bool b]) ∧ Below W.heap.size W w') ∧
  (∀ W, Calls Try.prog 56 #[rotV z a c p] W fun e w' => e = .returned (.tuple #[.int .i64 t, .int .i64 l, .bool b]) ∧ Below W.heap.size W w')
theorem cycles (z a c : Pt) (p : Int) : ∃ t l b, Cycles z a c p t l b := by
  by_cases hr : rrB z a c p = true
  · obtain ⟨hp, hz, _⟩ := of_rrB hr
    obtain ⟨t, l, htl, ho⟩ := orbit_rotor hp.1 a c hz
    exact ⟨t, l, true, fun W => rcycle_yes z a c p t l W hr ho htl, fun W => fcycle_yes z a c p t l W hr ho htl⟩
  · have hr := eq_false_of_ne_true hr
    exact ⟨0, 0, false, fun W => rcycle_no z a c p W hr, fun W => fcycle_no z a c p W hr⟩

theorem walkAll (z a c : Pt) (p n lv cm : Int) (w : World) (_w1 : (Lit.int .i64 n).wf = true) (_w2 : (Lit.int .i64 lv).wf = true) (_w3 : (Lit.int .i64 cm).wf = true) :
    Calls Try.prog 8 #[rotV z a c p, .int .i64 n, .int .i64 lv, .int .i64 cm] w fun e w' => e = .returned (.bool true) ∧ Below w.heap.size w w' := by
  obtain ⟨s, z1, a1, c1, p1, b1, T1, T2⟩ := takes z a c p n lv cm
  obtain ⟨t, l, b2, C1, C2⟩ := cycles z a c p
  by_cases h1 : 2000 < n
  · have d1 : decide ((2000 : Int) < n) = true := decide_eq_true h1
    by_cases h2 : n ≤ 65536
    · exact early1 z a c p n lv cm w d1 (decide_eq_true h2)
    · have d2 : decide (n ≤ 65536) = false := decide_eq_false h2
      by_cases h3 : 60 < p
      · have d3 : decide ((60 : Int) < p) = true := decide_eq_true h3
        by_cases h4 : p ≤ 1000
        · exact early3 z a c p n lv cm w d1 d2 d3 (decide_eq_true h4)
        · exact walk_bb z a c z1 a1 c1 p n lv cm p1 t l s b1 b2 w d1 d2 d3 (decide_eq_false h4) T1 T2 C1 C2
      · exact walk_ba z a c z1 a1 c1 p n lv cm p1 t l s b1 b2 w d1 d2 (decide_eq_false h3) T1 T2 C1 C2
  · have d1 : decide ((2000 : Int) < n) = false := decide_eq_false h1
    by_cases h3 : 60 < p
    · have d3 : decide ((60 : Int) < p) = true := decide_eq_true h3
      by_cases h4 : p ≤ 1000
      · exact early2 z a c p n lv cm w d1 d3 (decide_eq_true h4)
      · exact walk_ab z a c z1 a1 c1 p n lv cm p1 t l s b1 b2 w d1 d3 (decide_eq_false h4) T1 T2 C1 C2
    · exact walk_aa z a c z1 a1 c1 p n lv cm p1 t l s b1 b2 w d1 (decide_eq_false h3) T1 T2 C1 C2
end Go.Proofs.Ytebhojbllhjkeaa.rotorTakes
