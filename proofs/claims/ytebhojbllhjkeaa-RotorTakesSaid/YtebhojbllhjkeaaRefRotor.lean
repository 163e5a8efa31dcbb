/- The document's rotor: part, Right, rest, Next, Skip. -/
import Derived.Test.YtebhojbllhjkeaaRotorNext
namespace Go.Proofs.Ytebhojbllhjkeaa
open Go.RowKit
set_option linter.all false

set_option maxHeartbeats 400000 in
theorem fpart_any (n p : Int) (w : World) : Calls Try.prog 86 #[.int .i64 n, .int .i64 p] w fun e w' => e = .returned (.bool (wrB n 0 (p - 1))) ∧ w' = w := by
  by_cases h : 0 ≤ n
  · have Hn := Lib.hid (show wrB n 0 (p - 1) = decide (n < p) by
      simp only [wrB, decide_eq_true h, Bool.true_and]
      rw [decide_eq_decide]
      omega)
    have hd : decide (0 ≤ n) = true := decide_eq_true h
    go_enter Try.func86, Try.ntmps86
    go_wp2
    go_ret
    exact ⟨ret_bool Hn.out.symm, rfl⟩
  · have Hn := Lib.hid (show wrB n 0 (p - 1) = false by simp [wrB]; omega)
    have hd : decide (0 ≤ n) = false := decide_eq_false h
    go_enter Try.func86, Try.ntmps86
    go_wp2
    go_ret
    exact ⟨ret_bool Hn.out.symm, rfl⟩

theorem rrB_flat (z a c : Pt) (p : Int) : rrB z a c p = (decide (2 ≤ p) && (decide (p ≤ 1000) && (wrB z.1 0 (p - 1) && (wrB z.2 0 (p - 1) && (wrB a.1 0 (p - 1) && (wrB a.2 0 (p - 1) && (wrB c.1 0 (p - 1) && wrB c.2 0 (p - 1)))))))) := by
  unfold rrB rpB
  rw [show wrB p 2 1000 = (decide (2 ≤ p) && decide (p ≤ 1000)) from rfl]
  simp only [Bool.and_assoc]

set_option maxRecDepth 10000 in
set_option maxHeartbeats 2000000 in
theorem fright_any (z a c : Pt) (p : Int) (w : World) : Calls Try.prog 63 #[rotV z a c p] w fun e w' => e = .returned (.bool (rrB z a c p)) ∧ Below w.heap.size w w' := by
  have c1 := fun W => fpart_any z.1 p W
  have c2 := fun W => fpart_any z.2 p W
  have c3 := fun W => fpart_any a.1 p W
  have c4 := fun W => fpart_any a.2 p W
  have c5 := fun W => fpart_any c.1 p W
  have c6 := fun W => fpart_any c.2 p W
  have Hf := Lib.hid (rrB_flat z a c p)
  by_cases g0 : 2 ≤ p
  · have d0 : decide (2 ≤ p) = true := decide_eq_true g0
    by_cases g1 : p ≤ 1000
    · have d1 : decide (p ≤ 1000) = true := decide_eq_true g1
      by_cases g2 : wrB z.1 0 (p - 1) = true
      · rw [g2] at c1
        by_cases g3 : wrB z.2 0 (p - 1) = true
        · rw [g3] at c2
          by_cases g4 : wrB a.1 0 (p - 1) = true
          · rw [g4] at c3
            by_cases g5 : wrB a.2 0 (p - 1) = true
            · rw [g5] at c4
              by_cases g6 : wrB c.1 0 (p - 1) = true
              · rw [g6] at c5
                generalize wrB c.2 0 (p - 1) = q at *
                go_enter Try.func63, Try.ntmps63
                go_wp2_with (first
                    | (go_at_call 86; with_reducible refine (c1 _).mono ?_; rintro e w' ⟨rfl, rfl⟩)
                    | (go_at_call 86; with_reducible refine (c2 _).mono ?_; rintro e w' ⟨rfl, rfl⟩)
                    | (go_at_call 86; with_reducible refine (c3 _).mono ?_; rintro e w' ⟨rfl, rfl⟩)
                    | (go_at_call 86; with_reducible refine (c4 _).mono ?_; rintro e w' ⟨rfl, rfl⟩)
                    | (go_at_call 86; with_reducible refine (c5 _).mono ?_; rintro e w' ⟨rfl, rfl⟩)
                    | (go_at_call 86; with_reducible refine (c6 _).mono ?_; rintro e w' ⟨rfl, rfl⟩))
                go_ret
                exact ⟨ret_bool (by rw [Hf.out]; simp [*]), below_one _ _⟩
              · have g6 := eq_false_of_ne_true g6
                rw [g6] at c5
                go_enter Try.func63, Try.ntmps63
                go_wp2_with (first
                    | (go_at_call 86; with_reducible refine (c1 _).mono ?_; rintro e w' ⟨rfl, rfl⟩)
                    | (go_at_call 86; with_reducible refine (c2 _).mono ?_; rintro e w' ⟨rfl, rfl⟩)
                    | (go_at_call 86; with_reducible refine (c3 _).mono ?_; rintro e w' ⟨rfl, rfl⟩)
                    | (go_at_call 86; with_reducible refine (c4 _).mono ?_; rintro e w' ⟨rfl, rfl⟩)
                    | (go_at_call 86; with_reducible refine (c5 _).mono ?_; rintro e w' ⟨rfl, rfl⟩)
                    | (go_at_call 86; with_reducible refine (c6 _).mono ?_; rintro e w' ⟨rfl, rfl⟩))
                go_ret
                exact ⟨ret_bool (by rw [Hf.out]; simp [*]), below_one _ _⟩
            · have g5 := eq_false_of_ne_true g5
              rw [g5] at c4
              go_enter Try.func63, Try.ntmps63
              go_wp2_with (first
                  | (go_at_call 86; with_reducible refine (c1 _).mono ?_; rintro e w' ⟨rfl, rfl⟩)
                  | (go_at_call 86; with_reducible refine (c2 _).mono ?_; rintro e w' ⟨rfl, rfl⟩)
                  | (go_at_call 86; with_reducible refine (c3 _).mono ?_; rintro e w' ⟨rfl, rfl⟩)
                  | (go_at_call 86; with_reducible refine (c4 _).mono ?_; rintro e w' ⟨rfl, rfl⟩)
                  | (go_at_call 86; with_reducible refine (c5 _).mono ?_; rintro e w' ⟨rfl, rfl⟩)
                  | (go_at_call 86; with_reducible refine (c6 _).mono ?_; rintro e w' ⟨rfl, rfl⟩))
              go_ret
              exact ⟨ret_bool (by rw [Hf.out]; simp [*]), below_one _ _⟩
          · have g4 := eq_false_of_ne_true g4
            rw [g4] at c3
            go_enter Try.func63, Try.ntmps63
            go_wp2_with (first
                | (go_at_call 86; with_reducible refine (c1 _).mono ?_; rintro e w' ⟨rfl, rfl⟩)
                | (go_at_call 86; with_reducible refine (c2 _).mono ?_; rintro e w' ⟨rfl, rfl⟩)
                | (go_at_call 86; with_reducible refine (c3 _).mono ?_; rintro e w' ⟨rfl, rfl⟩)
                | (go_at_call 86; with_reducible refine (c4 _).mono ?_; rintro e w' ⟨rfl, rfl⟩)
                | (go_at_call 86; with_reducible refine (c5 _).mono ?_; rintro e w' ⟨rfl, rfl⟩)
                | (go_at_call 86; with_reducible refine (c6 _).mono ?_; rintro e w' ⟨rfl, rfl⟩))
            go_ret
            exact ⟨ret_bool (by rw [Hf.out]; simp [*]), below_one _ _⟩
        · have g3 := eq_false_of_ne_true g3
          rw [g3] at c2
          go_enter Try.func63, Try.ntmps63
          go_wp2_with (first
              | (go_at_call 86; with_reducible refine (c1 _).mono ?_; rintro e w' ⟨rfl, rfl⟩)
              | (go_at_call 86; with_reducible refine (c2 _).mono ?_; rintro e w' ⟨rfl, rfl⟩)
              | (go_at_call 86; with_reducible refine (c3 _).mono ?_; rintro e w' ⟨rfl, rfl⟩)
              | (go_at_call 86; with_reducible refine (c4 _).mono ?_; rintro e w' ⟨rfl, rfl⟩)
              | (go_at_call 86; with_reducible refine (c5 _).mono ?_; rintro e w' ⟨rfl, rfl⟩)
              | (go_at_call 86; with_reducible refine (c6 _).mono ?_; rintro e w' ⟨rfl, rfl⟩))
          go_ret
          exact ⟨ret_bool (by rw [Hf.out]; simp [*]), below_one _ _⟩
      · have g2 := eq_false_of_ne_true g2
        rw [g2] at c1
        go_enter Try.func63, Try.ntmps63
        go_wp2_with (first
            | (go_at_call 86; with_reducible refine (c1 _).mono ?_; rintro e w' ⟨rfl, rfl⟩)
            | (go_at_call 86; with_reducible refine (c2 _).mono ?_; rintro e w' ⟨rfl, rfl⟩)
            | (go_at_call 86; with_reducible refine (c3 _).mono ?_; rintro e w' ⟨rfl, rfl⟩)
            | (go_at_call 86; with_reducible refine (c4 _).mono ?_; rintro e w' ⟨rfl, rfl⟩)
            | (go_at_call 86; with_reducible refine (c5 _).mono ?_; rintro e w' ⟨rfl, rfl⟩)
            | (go_at_call 86; with_reducible refine (c6 _).mono ?_; rintro e w' ⟨rfl, rfl⟩))
        go_ret
        exact ⟨ret_bool (by rw [Hf.out]; simp [*]), below_one _ _⟩
    · have d1 : decide (p ≤ 1000) = false := decide_eq_false g1
      go_enter Try.func63, Try.ntmps63
      go_wp2_with (first
          | (go_at_call 86; with_reducible refine (c1 _).mono ?_; rintro e w' ⟨rfl, rfl⟩)
          | (go_at_call 86; with_reducible refine (c2 _).mono ?_; rintro e w' ⟨rfl, rfl⟩)
          | (go_at_call 86; with_reducible refine (c3 _).mono ?_; rintro e w' ⟨rfl, rfl⟩)
          | (go_at_call 86; with_reducible refine (c4 _).mono ?_; rintro e w' ⟨rfl, rfl⟩)
          | (go_at_call 86; with_reducible refine (c5 _).mono ?_; rintro e w' ⟨rfl, rfl⟩)
          | (go_at_call 86; with_reducible refine (c6 _).mono ?_; rintro e w' ⟨rfl, rfl⟩))
      go_ret
      exact ⟨ret_bool (by rw [Hf.out]; simp [*]), below_one _ _⟩
  · have d0 : decide (2 ≤ p) = false := decide_eq_false g0
    go_enter Try.func63, Try.ntmps63
    go_wp2_with (first
        | (go_at_call 86; with_reducible refine (c1 _).mono ?_; rintro e w' ⟨rfl, rfl⟩)
        | (go_at_call 86; with_reducible refine (c2 _).mono ?_; rintro e w' ⟨rfl, rfl⟩)
        | (go_at_call 86; with_reducible refine (c3 _).mono ?_; rintro e w' ⟨rfl, rfl⟩)
        | (go_at_call 86; with_reducible refine (c4 _).mono ?_; rintro e w' ⟨rfl, rfl⟩)
        | (go_at_call 86; with_reducible refine (c5 _).mono ?_; rintro e w' ⟨rfl, rfl⟩)
        | (go_at_call 86; with_reducible refine (c6 _).mono ?_; rintro e w' ⟨rfl, rfl⟩))
    go_ret
    exact ⟨ret_bool (by rw [Hf.out]; simp [*]), below_one _ _⟩

set_option maxHeartbeats 400000 in
theorem frest_any (n p : Int) (w : World) (hp : 2 ≤ p ∧ p ≤ 1000) :
    Calls Try.prog 83 #[.int .i64 n, .int .i64 p] w fun e w' => e = .returned (.int .i64 (n % p)) ∧ w' = w := by
  have h2 : -p < n.tmod p := Int.lt_tmod_of_pos n (by omega)
  have h3 : n.tmod p < p := Int.tmod_lt_of_pos n (by omega)
  have h4 : (n.tmod p + p).tmod p = (n.tmod p + p) % p := Int.tmod_eq_emod_of_nonneg (by omega)
  have h5 : (n.tmod p + p) % p = n % p := by
    have h1 := Int.mul_tdiv_add_tmod n p
    refine emod_same (k := 1 - n.tdiv p) ?_
    rw [Int.mul_sub, Int.mul_one]
    omega
  have Hk := Lib.hid (h4.trans h5)
  have hb1 := Int.emod_nonneg n (show p ≠ 0 by omega)
  have hb2 := Int.emod_lt_of_pos n (show 0 < p by omega)
  have hw : IntKind.i64.wrap (n.tmod p) = n.tmod p := by rw [IntKind.wrap_i64]; omega
  have hw2 : IntKind.i64.wrap (n.tmod p + p) = n.tmod p + p := by rw [IntKind.wrap_i64]; omega
  have hw3 : IntKind.i64.wrap ((n.tmod p + p).tmod p) = (n.tmod p + p).tmod p := by rw [h4, h5, IntKind.wrap_i64]; omega
  have hz : ¬ p = 0 := by omega
  have H4 := Lib.hid h4
  clear h4 h5
  go_enter Try.func83, Try.ntmps83
  go_wp2
  go_ret
  exact ⟨ret_int (H4.out.symm.trans Hk.out), rfl⟩

theorem XM.setz {w W : World} {z a c z' : Pt} {p : Int} (h : XM w W z a c p) : XM w ((W.setCell ⟨w.heap.size, 0, none⟩ (.int .i64 z'.1)).setCell ⟨w.heap.size, 1, none⟩ (.int .i64 z'.2)) z' a c p :=
  ⟨h.b.setz, (h.r.far (by show w.heap.size ≠ w.heap.size + 1; omega) _).far (by show w.heap.size ≠ w.heap.size + 1; omega) _,
    (h.bel.setCell (Nat.le_refl _) _).setCell (Nat.le_refl _) _⟩
theorem XM.set6 {w W : World} {z a c z' : Pt} {p : Int} (h : XM w W z a c p) : ((W.setCell ⟨w.heap.size, 0, none⟩ (.int .i64 z'.1)).setCell ⟨w.heap.size, 1, none⟩ (.int .i64 z'.2)).cell? ⟨w.heap.size, 6, none⟩ = some (.int .i64 p) := h.setz.b.x6

set_option maxRecDepth 10000 in
set_option maxHeartbeats 2000000 in
theorem fnext_yes (z a c : Pt) (p : Int) (w : World) (h : rrB z a c p = true) :
    Calls Try.prog 59 #[rotV z a c p] w fun e w' => e = .returned (.tuple #[rotV (ap a c p z) a c p, .bool true]) ∧ Below w.heap.size w w' := by
  obtain ⟨hp, ⟨z1, z2, z3, z4⟩, ⟨a1, a2, a3, a4⟩, ⟨c1, c2, c3, c4⟩⟩ := of_rrB h
  have hri := fun W => fright_any z a c p W
  rw [h] at hri
  have m1 := mul_u hp.2 z1 z2 a1 a2
  have m2 := mul_u hp.2 z3 z4 a3 a4
  have m3 := mul_u hp.2 z1 z2 a3 a4
  have m4 := mul_u hp.2 z3 z4 a1 a2
  have w1 : IntKind.i64.wrap (z.1 * a.1) = z.1 * a.1 := by rw [IntKind.wrap_i64]; omega
  have w2 : IntKind.i64.wrap (z.2 * a.2) = z.2 * a.2 := by rw [IntKind.wrap_i64]; omega
  have w3 : IntKind.i64.wrap (z.1 * a.2) = z.1 * a.2 := by rw [IntKind.wrap_i64]; omega
  have w4 : IntKind.i64.wrap (z.2 * a.1) = z.2 * a.1 := by rw [IntKind.wrap_i64]; omega
  have w5 : IntKind.i64.wrap (z.1 * a.1 - z.2 * a.2) = z.1 * a.1 - z.2 * a.2 := by rw [IntKind.wrap_i64]; omega
  have w6 : IntKind.i64.wrap (z.1 * a.2 + z.2 * a.1) = z.1 * a.2 + z.2 * a.1 := by rw [IntKind.wrap_i64]; omega
  have w7 : IntKind.i64.wrap (z.1 * a.1 - z.2 * a.2 + c.1) = z.1 * a.1 - z.2 * a.2 + c.1 := by rw [IntKind.wrap_i64]; omega
  have w8 : IntKind.i64.wrap (z.1 * a.2 + z.2 * a.1 + c.2) = z.1 * a.2 + z.2 * a.1 + c.2 := by rw [IntKind.wrap_i64]; omega
  have h1 := fun W => frest_any (z.1 * a.1 - z.2 * a.2 + c.1) p W hp
  have h2 := fun W => frest_any (z.1 * a.2 + z.2 * a.1 + c.2) p W hp
  have h1 : ∀ W, Calls Try.prog 83 #[.int .i64 (z.1 * a.1 - z.2 * a.2 + c.1), .int .i64 p] W fun e w' => e = .returned (.int .i64 (ap a c p z).1) ∧ w' = W := h1
  have h2 : ∀ W, Calls Try.prog 83 #[.int .i64 (z.1 * a.2 + z.2 * a.1 + c.2), .int .i64 p] W fun e w' => e = .returned (.int .i64 (ap a c p z).2) ∧ w' = W := h2
  have St0 := Lib.hid (XM.new w z a c p 73 73)
  clear z1 z2 z3 z4 a1 a2 a3 a4 c1 c2 c3 c4 m1 m2 m3 m4 h
  generalize ap a c p z = z' at *
  go_enter Try.func59, Try.ntmps59
  go_upto_region 5 with (go_at_call 63; refine (hri _).mono ?_; rintro e w1 ⟨rfl, hb1⟩; have st1 := St0.out.below hb1; obtain ⟨x0, x1, x2, x3, x4, x5, x6⟩ := st1.all)
  refine wp_gen (fun W => XM w W z a c p) st1 ?_
  clear st1 St0 hb1 hri x0 x1 x2 x3 x4 x5 x6 w1 w2 w3 w4 w5 w6 w7 w8
  intro W hT
  obtain ⟨h0, hc1, hc2, hc3, hc4, hc5, h6⟩ := hT.all
  have hf0 := hT.b.f0
  have hf1 := hT.b.f1
  generalize z.1 * a.1 - z.2 * a.2 + c.1 = re at *
  generalize z.1 * a.2 + z.2 * a.1 + c.2 = im at *
  go_region_held3 (fun W => W.cell? ⟨w.heap.size, 6, none⟩ = some (.int .i64 p)) (first
    | exact RB.x6 (XM.b (by assumption))
    | exact RB.x6 (XM.b (XM.drew (by assumption)))
    | exact XM.set6 (by assumption)
    | exact XM.set6 (XM.drew (by assumption))) (first
    | (go_at_call 83; with_reducible refine (h1 _).mono ?_; rintro e w3 ⟨rfl, rfl⟩)
    | (go_at_call 83; with_reducible refine (h2 _).mono ?_; rintro e w4 ⟨rfl, rfl⟩))
  all_goals
    have hD := XM.drew (XM.setz (z' := z') hT)
    clear hT h0 hc1 hc2 hc3 hc4 hc5 h6 hf0 hf1 h1 h2
    generalize (((W.setCell ⟨w.heap.size, 0, none⟩ (.int .i64 z'.1)).setCell ⟨w.heap.size, 1, none⟩ (.int .i64 z'.2)).drew) = W2 at hD ⊢
    have hT := hD
    obtain ⟨x0, x1, x2, x3, x4, x5, x6, f0, f1, f2, f3, f4, f5, f6⟩ := hT.b
    obtain ⟨y0, y1, y2, y3, y4, y5, y6, g0, g1, g2, g3, g4, g5, g6⟩ := hT.r
    go_wp2
    exact bodyPost_ret (v := .tuple #[rotV z' a c p, .bool true]) (by simp [results, Try.results59, go_sem, y0, y1, y2, y3, y4, y5, y6]) rfl ⟨rfl, below_set7 hT.bel (by omega)⟩
set_option maxRecDepth 10000 in
set_option maxHeartbeats 1000000 in
theorem fnext_no (z a c : Pt) (p : Int) (w : World) (h : rrB z a c p = false) :
    Calls Try.prog 59 #[rotV z a c p] w fun e w' => e = .returned (.tuple #[rotN, .bool false]) ∧ Below w.heap.size w w' := by
  have hri := fun W => fright_any z a c p W
  rw [h] at hri
  have St0 := Lib.hid (XM.new w z a c p 73 73)
  go_enter Try.func59, Try.ntmps59
  go_wp2_with (go_at_call 63; refine (hri _).mono ?_; rintro e w1 ⟨rfl, hb1⟩; have st1 := St0.out.below hb1; obtain ⟨y0, y1, y2, y3, y4, y5, y6, g0, g1, g2, g3, g4, g5, g6⟩ := st1.r)
  exact bodyPost_ret (v := .tuple #[rotN, .bool false]) (by simp [results, Try.results59, go_sem, y0, y1, y2, y3, y4, y5, y6]) rfl ⟨rfl, below_set7 (z := (0, 0)) (a := (0, 0)) (c := (0, 0)) (p := 0) st1.bel (by omega)⟩

theorem rrB_it {z a c : Pt} {p : Int} (h : rrB z a c p = true) (n : Nat) : rrB (it (ap a c p) n z) a c p = true := by
  obtain ⟨hp, hz, ha, hc⟩ := of_rrB h
  exact rrB_of ⟨hp, inP.it hp.1 a c hz n, ha, hc⟩
end Go.Proofs.Ytebhojbllhjkeaa
