/- RotorTurns: any rotor behind one turn, and behind any number of them, is the document's. -/
import Derived.Test.YtebhojbllhjkeaaRotorLaw
import Derived.ProofKit
import Derived.OpenShut
import Derived.Deep.DeepCutAuto
import Derived.ChangeOld
namespace Go.Proofs.Ytebhojbllhjkeaa.rotorTurns
open Go.ChangeShapes Go.WideShapes Go.ChangeAt Go.RowKit
set_option linter.all false

abbrev Seven (W : World) (B : Nat) (r : Rot) : Prop := Rot7 W B r.1 r.2.1 r.2.2.1 r.2.2.2

set_option maxRecDepth 100000 in
set_option maxHeartbeats 4000000 in
theorem walk (z a c z1 a1 c1 z2 a2 c2 : Pt) (p p1 p2 n : Int) (q b1 b2 : Bool) (w : World) (hn : n ≤ 3000)
    (R1 : ∀ W, Calls Try.prog 62 #[rotV z a c p] W fun e w' => e = .returned (.bool q) ∧ Below W.heap.size W w')
    (R2 : ∀ W, Calls Try.prog 63 #[rotV z a c p] W fun e w' => e = .returned (.bool q) ∧ Below W.heap.size W w')
    (N1 : ∀ W, Calls Try.prog 58 #[rotV z a c p] W fun e w' => e = .returned (.tuple #[rotV z1 a1 c1 p1, .bool b1]) ∧ Below W.heap.size W w')
    (N2 : ∀ W, Calls Try.prog 59 #[rotV z a c p] W fun e w' => e = .returned (.tuple #[rotV z1 a1 c1 p1, .bool b1]) ∧ Below W.heap.size W w')
    (S1 : ∀ W, Calls Try.prog 60 #[rotV z a c p, .int .i64 n] W fun e w' => e = .returned (.tuple #[rotV z2 a2 c2 p2, .bool b2]) ∧ Below W.heap.size W w')
    (S2 : ∀ W, Calls Try.prog 61 #[rotV z a c p, .int .i64 n] W fun e w' => e = .returned (.tuple #[rotV z2 a2 c2 p2, .bool b2]) ∧ Below W.heap.size W w') :
    Calls Try.prog 9 #[rotV z a c p, .int .i64 n] w fun e w' => e = .returned (.bool true) ∧ Below w.heap.size w w' := by
  have hgt : decide ((3000 : Int) < n) = false := decide_eq_false (by omega)
  have ow := fun W => own05 z a c p W
  have ba1 := fun W => back05 z1 a1 c1 p1 W
  have ba2 := fun W => back05 z2 a2 c2 p2 W
  have St0 := Lib.hid (LM.new w (z, a, c, p) 73)
  go_enter Try.func9, Try.ntmps9
  go_upto_region 4 with (first
    | (go_at_call 53; with_reducible refine (ow _).mono ?_; rintro e w1 ⟨rfl, hb1⟩; have m1 := St0.out.up hb1)
    | (go_at_call 58; with_reducible refine (N1 _).mono ?_; rintro e w2 ⟨rfl, hb2⟩))
  refine wp_gen (fun W => LM w W (z, a, c, p) ((w2.heap.size, (z1, a1, c1, p1)) :: [])) (m1.push hb2 (z1, a1, c1, p1) _) ?_
  clear St0 m1 hb1 hb2 N1
  intro W hM
  generalize w2.heap.size = g1 at *
  clear w2 w1
  obtain ⟨x0, x1, x2, x3, x4, x5, x6⟩ := hM.b.all
  go_upto_region 5 with (go_at_call 59; with_reducible refine (N2 _).mono ?_; rintro e w2 ⟨rfl, hb2⟩)
  refine wp_gen (fun W => LM w W (z, a, c, p) ((w2.heap.size, (z1, a1, c1, p1)) :: (g1, (z1, a1, c1, p1)) :: [])) (hM.push hb2 (z1, a1, c1, p1) _) ?_
  clear hM hb2 N2 x0 x1 x2 x3 x4 x5 x6
  intro W hM
  generalize w2.heap.size = g2 at *
  clear w2
  obtain ⟨x0, x1, x2, x3, x4, x5, x6⟩ := hM.b.all
  go_upto_region 6 with (first
    | (go_at_call 53; with_reducible refine (ow _).mono ?_; rintro e w1 ⟨rfl, hb1⟩; have m1 := hM.up hb1)
    | (go_at_call 60; with_reducible refine (S1 _).mono ?_; rintro e w2 ⟨rfl, hb2⟩))
  refine wp_gen (fun W => LM w W (z, a, c, p) ((w2.heap.size, (z2, a2, c2, p2)) :: (g2, (z1, a1, c1, p1)) :: (g1, (z1, a1, c1, p1)) :: [])) (m1.push hb2 (z2, a2, c2, p2) _) ?_
  clear hM m1 hb1 hb2 S1 x0 x1 x2 x3 x4 x5 x6
  intro W hM
  generalize w2.heap.size = g3 at *
  clear w2 w1
  obtain ⟨x0, x1, x2, x3, x4, x5, x6⟩ := hM.b.all
  go_upto_region 7 with (go_at_call 61; with_reducible refine (S2 _).mono ?_; rintro e w2 ⟨rfl, hb2⟩)
  refine wp_gen (fun W => LM w W (z, a, c, p) ((w2.heap.size, (z2, a2, c2, p2)) :: (g3, (z2, a2, c2, p2)) :: (g2, (z1, a1, c1, p1)) :: (g1, (z1, a1, c1, p1)) :: [])) (hM.push hb2 (z2, a2, c2, p2) _) ?_
  clear hM hb2 S2 x0 x1 x2 x3 x4 x5 x6
  intro W hM
  generalize w2.heap.size = g4 at *
  clear w2
  have hS : ∀ W, LM w W (z, a, c, p) ((g4, (z2, a2, c2, p2)) :: (g3, (z2, a2, c2, p2)) :: (g2, (z1, a1, c1, p1)) :: (g1, (z1, a1, c1, p1)) :: []) → (W.cell? ⟨w.heap.size, 0, none⟩ = some (.int .i64 z.1) ∧ W.cell? ⟨w.heap.size, 1, none⟩ = some (.int .i64 z.2) ∧ W.cell? ⟨w.heap.size, 2, none⟩ = some (.int .i64 a.1) ∧ W.cell? ⟨w.heap.size, 3, none⟩ = some (.int .i64 a.2) ∧ W.cell? ⟨w.heap.size, 4, none⟩ = some (.int .i64 c.1) ∧ W.cell? ⟨w.heap.size, 5, none⟩ = some (.int .i64 c.2) ∧ W.cell? ⟨w.heap.size, 6, none⟩ = some (.int .i64 p) ∧ W.cell? ⟨g1, 0, none⟩ = some (.int .i64 z1.1) ∧ W.cell? ⟨g1, 1, none⟩ = some (.int .i64 z1.2) ∧ W.cell? ⟨g1, 2, none⟩ = some (.int .i64 a1.1) ∧ W.cell? ⟨g1, 3, none⟩ = some (.int .i64 a1.2) ∧ W.cell? ⟨g1, 4, none⟩ = some (.int .i64 c1.1) ∧ W.cell? ⟨g1, 5, none⟩ = some (.int .i64 c1.2) ∧ W.cell? ⟨g1, 6, none⟩ = some (.int .i64 p1) ∧ W.cell? ⟨g2, 0, none⟩ = some (.int .i64 z1.1) ∧ W.cell? ⟨g2, 1, none⟩ = some (.int .i64 z1.2) ∧ W.cell? ⟨g2, 2, none⟩ = some (.int .i64 a1.1) ∧ W.cell? ⟨g2, 3, none⟩ = some (.int .i64 a1.2) ∧ W.cell? ⟨g2, 4, none⟩ = some (.int .i64 c1.1) ∧ W.cell? ⟨g2, 5, none⟩ = some (.int .i64 c1.2) ∧ W.cell? ⟨g2, 6, none⟩ = some (.int .i64 p1) ∧ W.cell? ⟨g3, 0, none⟩ = some (.int .i64 z2.1) ∧ W.cell? ⟨g3, 1, none⟩ = some (.int .i64 z2.2) ∧ W.cell? ⟨g3, 2, none⟩ = some (.int .i64 a2.1) ∧ W.cell? ⟨g3, 3, none⟩ = some (.int .i64 a2.2) ∧ W.cell? ⟨g3, 4, none⟩ = some (.int .i64 c2.1) ∧ W.cell? ⟨g3, 5, none⟩ = some (.int .i64 c2.2) ∧ W.cell? ⟨g3, 6, none⟩ = some (.int .i64 p2) ∧ W.cell? ⟨g4, 0, none⟩ = some (.int .i64 z2.1) ∧ W.cell? ⟨g4, 1, none⟩ = some (.int .i64 z2.2) ∧ W.cell? ⟨g4, 2, none⟩ = some (.int .i64 a2.1) ∧ W.cell? ⟨g4, 3, none⟩ = some (.int .i64 a2.2) ∧ W.cell? ⟨g4, 4, none⟩ = some (.int .i64 c2.1) ∧ W.cell? ⟨g4, 5, none⟩ = some (.int .i64 c2.2) ∧ W.cell? ⟨g4, 6, none⟩ = some (.int .i64 p2)) := fun W hM => ⟨hM.b.x0, hM.b.x1, hM.b.x2, hM.b.x3, hM.b.x4, hM.b.x5, hM.b.x6, (hM.g (g1, (z1, a1, c1, p1)) (by simp)).x0, (hM.g (g1, (z1, a1, c1, p1)) (by simp)).x1, (hM.g (g1, (z1, a1, c1, p1)) (by simp)).x2, (hM.g (g1, (z1, a1, c1, p1)) (by simp)).x3, (hM.g (g1, (z1, a1, c1, p1)) (by simp)).x4, (hM.g (g1, (z1, a1, c1, p1)) (by simp)).x5, (hM.g (g1, (z1, a1, c1, p1)) (by simp)).x6, (hM.g (g2, (z1, a1, c1, p1)) (by simp)).x0, (hM.g (g2, (z1, a1, c1, p1)) (by simp)).x1, (hM.g (g2, (z1, a1, c1, p1)) (by simp)).x2, (hM.g (g2, (z1, a1, c1, p1)) (by simp)).x3, (hM.g (g2, (z1, a1, c1, p1)) (by simp)).x4, (hM.g (g2, (z1, a1, c1, p1)) (by simp)).x5, (hM.g (g2, (z1, a1, c1, p1)) (by simp)).x6, (hM.g (g3, (z2, a2, c2, p2)) (by simp)).x0, (hM.g (g3, (z2, a2, c2, p2)) (by simp)).x1, (hM.g (g3, (z2, a2, c2, p2)) (by simp)).x2, (hM.g (g3, (z2, a2, c2, p2)) (by simp)).x3, (hM.g (g3, (z2, a2, c2, p2)) (by simp)).x4, (hM.g (g3, (z2, a2, c2, p2)) (by simp)).x5, (hM.g (g3, (z2, a2, c2, p2)) (by simp)).x6, (hM.g (g4, (z2, a2, c2, p2)) (by simp)).x0, (hM.g (g4, (z2, a2, c2, p2)) (by simp)).x1, (hM.g (g4, (z2, a2, c2, p2)) (by simp)).x2, (hM.g (g4, (z2, a2, c2, p2)) (by simp)).x3, (hM.g (g4, (z2, a2, c2, p2)) (by simp)).x4, (hM.g (g4, (z2, a2, c2, p2)) (by simp)).x5, (hM.g (g4, (z2, a2, c2, p2)) (by simp)).x6⟩
  have hC := hS _ hM
  obtain ⟨k0, k1, k2, k3, k4, k5, k6, k7, k8, k9, k10, k11, k12, k13, k14, k15, k16, k17, k18, k19, k20, k21, k22, k23, k24, k25, k26, k27, k28, k29, k30, k31, k32, k33, k34⟩ := hC
  go_region_held3 (fun W => (W.cell? ⟨w.heap.size, 0, none⟩ = some (.int .i64 z.1) ∧ W.cell? ⟨w.heap.size, 1, none⟩ = some (.int .i64 z.2) ∧ W.cell? ⟨w.heap.size, 2, none⟩ = some (.int .i64 a.1) ∧ W.cell? ⟨w.heap.size, 3, none⟩ = some (.int .i64 a.2) ∧ W.cell? ⟨w.heap.size, 4, none⟩ = some (.int .i64 c.1) ∧ W.cell? ⟨w.heap.size, 5, none⟩ = some (.int .i64 c.2) ∧ W.cell? ⟨w.heap.size, 6, none⟩ = some (.int .i64 p) ∧ W.cell? ⟨g1, 0, none⟩ = some (.int .i64 z1.1) ∧ W.cell? ⟨g1, 1, none⟩ = some (.int .i64 z1.2) ∧ W.cell? ⟨g1, 2, none⟩ = some (.int .i64 a1.1) ∧ W.cell? ⟨g1, 3, none⟩ = some (.int .i64 a1.2) ∧ W.cell? ⟨g1, 4, none⟩ = some (.int .i64 c1.1) ∧ W.cell? ⟨g1, 5, none⟩ = some (.int .i64 c1.2) ∧ W.cell? ⟨g1, 6, none⟩ = some (.int .i64 p1) ∧ W.cell? ⟨g2, 0, none⟩ = some (.int .i64 z1.1) ∧ W.cell? ⟨g2, 1, none⟩ = some (.int .i64 z1.2) ∧ W.cell? ⟨g2, 2, none⟩ = some (.int .i64 a1.1) ∧ W.cell? ⟨g2, 3, none⟩ = some (.int .i64 a1.2) ∧ W.cell? ⟨g2, 4, none⟩ = some (.int .i64 c1.1) ∧ W.cell? ⟨g2, 5, none⟩ = some (.int .i64 c1.2) ∧ W.cell? ⟨g2, 6, none⟩ = some (.int .i64 p1) ∧ W.cell? ⟨g3, 0, none⟩ = some (.int .i64 z2.1) ∧ W.cell? ⟨g3, 1, none⟩ = some (.int .i64 z2.2) ∧ W.cell? ⟨g3, 2, none⟩ = some (.int .i64 a2.1) ∧ W.cell? ⟨g3, 3, none⟩ = some (.int .i64 a2.2) ∧ W.cell? ⟨g3, 4, none⟩ = some (.int .i64 c2.1) ∧ W.cell? ⟨g3, 5, none⟩ = some (.int .i64 c2.2) ∧ W.cell? ⟨g3, 6, none⟩ = some (.int .i64 p2) ∧ W.cell? ⟨g4, 0, none⟩ = some (.int .i64 z2.1) ∧ W.cell? ⟨g4, 1, none⟩ = some (.int .i64 z2.2) ∧ W.cell? ⟨g4, 2, none⟩ = some (.int .i64 a2.1) ∧ W.cell? ⟨g4, 3, none⟩ = some (.int .i64 a2.2) ∧ W.cell? ⟨g4, 4, none⟩ = some (.int .i64 c2.1) ∧ W.cell? ⟨g4, 5, none⟩ = some (.int .i64 c2.2) ∧ W.cell? ⟨g4, 6, none⟩ = some (.int .i64 p2))) (first
    | exact hS _ (by assumption)
    | exact hS _ (LM.drew (by assumption))) (first
    | (go_at_call 53; with_reducible refine (ow _).mono ?_; rintro e v1 ⟨rfl, hb1⟩; have m1 := LM.up (by first | assumption | exact LM.drew (by assumption)) hb1)
    | (go_at_call 62; with_reducible refine (R1 _).mono ?_; rintro e v2 ⟨rfl, hb2⟩; have m2 := LM.up (by first | assumption | exact LM.drew (by assumption)) hb2)
    | (go_at_call 63; with_reducible refine (R2 _).mono ?_; rintro e v3 ⟨rfl, hb3⟩; have m3 := LM.up (by first | assumption | exact LM.drew (by assumption)) hb3)
    | (go_at_call 57; with_reducible refine (ba1 _).mono ?_; rintro e v4 ⟨rfl, hb4⟩; have m4 := LM.up (by first | assumption | exact LM.drew (by assumption)) hb4)
    | (go_at_call 57; with_reducible refine (ba2 _).mono ?_; rintro e v5 ⟨rfl, hb5⟩; have m5 := LM.up (by first | assumption | exact LM.drew (by assumption)) hb5)
    | (go_at_call 51; with_reducible refine (alive05 _).mono ?_; rintro e v6 ⟨rfl, hb6⟩; have m6 := LM.up (by first | assumption | exact LM.drew (by assumption)) hb6))
  all_goals
    have hbel := m6.bel
    clear hM hS m1 m2 m3 m4 m5 m6 hb1 hb2 hb3 hb4 hb5 hb6
    go_wp2
    go_ret
    exact ⟨rfl, hbel⟩

set_option maxRecDepth 100000 in
set_option maxHeartbeats 1000000 in
theorem walkBig (z a c : Pt) (p n : Int) (w : World) (hn : 3000 < n) :
    Calls Try.prog 9 #[rotV z a c p, .int .i64 n] w fun e w' => e = .returned (.bool true) ∧ Below w.heap.size w w' := by
  have hgt : decide ((3000 : Int) < n) = true := decide_eq_true hn
  go_enter Try.func9, Try.ntmps9
  go_wp2_with (go_at_call 51; refine (alive05 _).mono ?_; rintro e w' ⟨rfl, hb⟩)
  go_ret
  exact ⟨rfl, below_trans (below_one w _) hb⟩

theorem walkAll (z a c : Pt) (p n : Int) (w : World) (hw : (Lit.int .i64 n).wf = true) :
    Calls Try.prog 9 #[rotV z a c p, .int .i64 n] w fun e w' => e = .returned (.bool true) ∧ Below w.heap.size w w' := by
  by_cases h : n ≤ 3000
  · have R1 := fun W => rright_any z a c p W
    have R2 := fun W => fright_any z a c p W
    by_cases hr : rrB z a c p = true
    · have N1 := fun W => rnext_yes z a c p W hr
      have N2 := fun W => fnext_yes z a c p W hr
      by_cases h0 : 0 ≤ n
      · obtain ⟨m, rfl⟩ := Int.eq_ofNat_of_zero_le h0
        exact walk z a c _ _ _ _ _ _ p _ _ m _ _ _ w h R1 R2 N1 N2 (fun W => rskip_yes z a c p m W hr (by omega)) (fun W => fskip_yes z a c p m W hr (by omega))
      · exact walk z a c _ _ _ _ _ _ p _ _ n _ _ _ w h R1 R2 N1 N2 (fun W => rskip_no z a c p n W (.inr (by omega))) (fun W => fskip_no z a c p n W (.inr (by omega)))
    · have hr := eq_false_of_ne_true hr
      exact walk z a c _ _ _ _ _ _ p _ _ n _ _ _ w h R1 R2 (fun W => rnext_no z a c p W hr) (fun W => fnext_no z a c p W hr) (fun W => rskip_no z a c p n W (.inl hr)) (fun W => fskip_no z a c p n W (.inl hr))
  · exact walkBig z a c p n w (by omega)
end Go.Proofs.Ytebhojbllhjkeaa.rotorTurns
