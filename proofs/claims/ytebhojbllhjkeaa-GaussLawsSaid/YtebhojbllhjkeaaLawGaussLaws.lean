/- GaussLaws: rests are small, norms multiply, four turns are none, and Gcd is the greatest common divisor. -/
import Derived.Test.YtebhojbllhjkeaaGaussGcd
import Derived.Test.YtebhojbllhjkeaaGaussAlive
import Derived.ProofKit
import Derived.OpenShut
import Derived.Deep.DeepCutAuto
import Derived.ChangeOld
namespace Go.Proofs.Ytebhojbllhjkeaa.gaussLaws
open Go.ChangeShapes Go.WideShapes Go.ChangeAt Go.RowKit
set_option linter.all false

/-- a box of two -/
structure Bx (W : World) (g : Nat) (u v : Int) : Prop where
  x : W.cell? ⟨g, 0, none⟩ = some (.int .i64 u)
  y : W.cell? ⟨g, 1, none⟩ = some (.int .i64 v)
theorem Bx.lt {W : World} {g : Nat} {u v : Int} (h : Bx W g u v) : g < W.heap.size := block_lt_of_cell h.x
theorem Bx.up {W W' : World} {g : Nat} {u v : Int} (h : Bx W g u v) (hb : Below W.heap.size W W') : Bx W' g u v :=
  ⟨(hb.cell (p := ⟨g, 0, none⟩) h.lt).trans h.x, (hb.cell (p := ⟨g, 1, none⟩) h.lt).trans h.y⟩
theorem Bx.new (W : World) (u v : Int) (t : TypeId) : Bx (W.alloc (.cells #[.int .i64 u, .int .i64 v] t)) W.heap.size u v :=
  ⟨World.cell?_alloc_at _ _ _ _ rfl, World.cell?_alloc_at _ _ _ _ rfl⟩

/-- the law's copies of its arguments, and answers -/
structure LM (w W : World) (G : List (Nat × Int × Int)) : Prop where
  g : ∀ x ∈ G, Bx W x.1 x.2.1 x.2.2
  bel : Below w.heap.size w W
theorem LM.up {w W W' : World} {G : List (Nat × Int × Int)} (h : LM w W G) (hb : Below W.heap.size W W') : LM w W' G :=
  ⟨fun x hx => (h.g x hx).up hb, below_trans h.bel hb⟩
theorem LM.drew {w W : World} {G : List (Nat × Int × Int)} (h : LM w W G) : LM w W.drew G := h.up (Below.refl _ _).drew
theorem LM.push {w W w1 : World} {u v : Int} {G : List (Nat × Int × Int)} (h : LM w W G) (hb : Below W.heap.size W w1) (t : TypeId) :
    LM w (w1.alloc (.cells #[.int .i64 u, .int .i64 v] t)) ((w1.heap.size, u, v) :: G) := by
  have h1 := (h.up hb).up (below_one w1 (.cells #[.int .i64 u, .int .i64 v] t))
  refine ⟨fun x hx => ?_, h1.bel⟩
  rcases List.mem_cons.1 hx with rfl | hx
  · exact Bx.new _ _ _ _
  · exact h1.g x hx
theorem LM.sub {w W : World} {G G' : List (Nat × Int × Int)} (h : LM w W G) (hs : ∀ x ∈ G', x ∈ G) : LM w W G' := ⟨fun x hx => h.g x (hs x hx), h.bel⟩

set_option maxRecDepth 100000 in
set_option maxHeartbeats 4000000 in
theorem walk (a b c d e f : Int) (w : World) :
    Calls Try.prog 7 #[numV a b, numV c d, numV e f] w fun e w' => e = .returned (.bool true) ∧ Below w.heap.size w w' := by
  go_enter Try.func7, Try.ntmps7
  go_upto_region 1 with fail
  go_cut [7, 8, 9] (fun x y z wx => ∃ p q r, x = .pointer (some ⟨p, 0, none⟩) ∧ y = .pointer (some ⟨q, 0, none⟩) ∧ z = .pointer (some ⟨r, 0, none⟩) ∧ LM w wx [(p, a, b), (q, c, d), (r, e, f)])
  case first =>
    go_region
    all_goals
      go_wp2
      go_meet
      case rel =>
        refine ⟨_, _, _, rfl, rfl, rfl, ⟨?_, ?_⟩⟩
        · intro x hx
          simp only [List.mem_cons, List.not_mem_nil, or_false] at hx
          rcases hx with rfl | rfl | rfl <;> (constructor <;> (simp [go_sem]; done))
        · exact (((below_three w _ _ _).trans ((below_three _ _ _ _).mono (by simp; omega)))).drew
  case rest =>
    obtain ⟨p, q, r, rfl, rfl, rfl, hM⟩ := hcut
    have x0 := (hM.g (p, a, b) (by simp)).x
    have x1 := (hM.g (p, a, b) (by simp)).y
    have y0 := (hM.g (q, c, d) (by simp)).x
    have y1 := (hM.g (q, c, d) (by simp)).y
    obtain ⟨q0, q1, r0, r1, ok, hv⟩ : ∃ q0 q1 r0 r1 ok, divV (divB a b c d) (divQ a b c d) (divR a b c d) = .tuple #[numV q0 q1, numV r0 r1, .bool ok] := ⟨_, _, _, _, _, rfl⟩
    have hdiv := fun W => div_any a b c d W
    rw [hv] at hdiv
    have hok : ok = divB a b c d := by cases hB : divB a b c d <;> (rw [hB] at hv; simp [divV] at hv; simp [hv])
    have hfacts : ok = true → (normI c d = c * c + d * d ∧ r0 = (divR a b c d).1 ∧ r1 = (divR a b c d).2 ∧ q0 = (divQ a b c d).1 ∧ q1 = (divQ a b c d).2) := by
      intro h
      rw [h] at hok
      have h3 := norm_is (divB_iff hok.symm).2.1
      rw [← hok] at hv
      simp [divV] at hv
      exact ⟨h3, hv.2.1.1.symm, hv.2.1.2.symm, hv.1.1.symm, hv.1.2.symm⟩
    have Hok := Lib.hid (And.intro hok hfacts)
    clear hok hfacts hv
    go_upto_if 29 with (go_at_call 48; refine (hdiv _).mono ?_; rintro e' w1 ⟨rfl, hb1⟩)
    go_cut [] (fun wx => LM w wx [(p, a, b), (q, c, d), (r, e, f)])
    case first =>
      cases ok with
      | false =>
        have hM2 := (hM.push hb1 (u := q0) (v := q1) 50).push (Below.refl _ _) (u := r0) (v := r1) 50
        have hM3 := Lib.hid (hM2.sub (G' := [(p, a, b), (q, c, d), (r, e, f)]) (fun x hx => List.mem_cons_of_mem _ (List.mem_cons_of_mem _ hx)))
        clear hM2 hM hdiv Hok hb1
        go_wp2
        go_meet
        case rel => exact hM3.out
      | true =>
        obtain ⟨hok, hfacts⟩ := Hok.out
        obtain ⟨hn, e0, e1, e2, e3⟩ := hfacts rfl
        have hB := hok.symm
        have hsm := div_small hB
        have hri := div_right hB
        have hbd := div_bds hB
        have hnb := norm_bd (divB_iff hB).2.1
        obtain ⟨ra, rb⟩ := of_rightB (divB_iff hB).1
        have f0 : q0 * c - q1 * d + r0 = a := by rw [e0, e2, e3]; unfold divR; simp only; omega
        have f1 : q0 * d + q1 * c + r1 = b := by rw [e1, e2, e3]; unfold divR; simp only; omega
        rw [← e0, ← e1] at hsm hri
        rw [← e2, ← e3] at hbd
        have hN := norm_is hri
        have hnorm1 := fun W => norm_any r0 r1 W
        have hnorm2 := fun W => norm_any c d W
        rw [← hn] at hsm hnb
        rw [← hN] at hsm
        have hN0 : 0 ≤ normI r0 r1 := by rw [hN]; have := sq_pos r0; have := sq_pos r1; omega
        generalize normI r0 r1 = N at *
        generalize normI c d = M at *
        have w1' : IntKind.i64.wrap (2 * N) = 2 * N := by rw [IntKind.wrap_i64]; omega
        have w2' : decide (M < 2 * N) = false := decide_eq_false (by omega)
        have w3' : IntKind.i64.wrap (q0 * c) = q0 * c := by rw [IntKind.wrap_i64]; omega
        have w4' : IntKind.i64.wrap (q1 * d) = q1 * d := by rw [IntKind.wrap_i64]; omega
        have w5' : IntKind.i64.wrap (q0 * c - q1 * d) = q0 * c - q1 * d := by rw [IntKind.wrap_i64]; omega
        have w6' : IntKind.i64.wrap (q0 * c - q1 * d + r0) = a := by rw [f0, IntKind.wrap_i64]; omega
        have w7' : IntKind.i64.wrap (q0 * d) = q0 * d := by rw [IntKind.wrap_i64]; omega
        have w8' : IntKind.i64.wrap (q1 * c) = q1 * c := by rw [IntKind.wrap_i64]; omega
        have w9' : IntKind.i64.wrap (q0 * d + q1 * c) = q0 * d + q1 * c := by rw [IntKind.wrap_i64]; omega
        have w10' : IntKind.i64.wrap (q0 * d + q1 * c + r1) = b := by rw [f1, IntKind.wrap_i64]; omega
        have hM2 := (hM.push hb1 (u := q0) (v := q1) 50).push (Below.refl _ _) (u := r0) (v := r1) 50
        clear hn e0 e1 e2 e3 hB hsm hri hbd hnb ra rb f0 f1 hN hN0 hdiv hok hfacts Hok
        go_upto_region 4 with fail
        refine wp_gen (fun W => LM w W [(w1.heap.size + 1, r0, r1), (w1.heap.size, q0, q1), (p, a, b), (q, c, d), (r, e, f)]) (by simpa using hM2) ?_
        clear hM2 hb1 hM x0 x1 y0 y1
        intro W hM
        generalize w1.heap.size + 1 = g11 at *
        generalize w1.heap.size = g10 at *
        have hS : ∀ W, LM w W [(g11, r0, r1), (g10, q0, q1), (p, a, b), (q, c, d), (r, e, f)] → (W.cell? ⟨g11, 0, none⟩ = some (.int .i64 r0) ∧ W.cell? ⟨g11, 1, none⟩ = some (.int .i64 r1) ∧ W.cell? ⟨g10, 0, none⟩ = some (.int .i64 q0) ∧ W.cell? ⟨g10, 1, none⟩ = some (.int .i64 q1) ∧ W.cell? ⟨p, 0, none⟩ = some (.int .i64 a) ∧ W.cell? ⟨p, 1, none⟩ = some (.int .i64 b) ∧ W.cell? ⟨q, 0, none⟩ = some (.int .i64 c) ∧ W.cell? ⟨q, 1, none⟩ = some (.int .i64 d)) := fun W h =>
          ⟨(h.g (g11, r0, r1) (by simp)).x, (h.g (g11, r0, r1) (by simp)).y, (h.g (g10, q0, q1) (by simp)).x, (h.g (g10, q0, q1) (by simp)).y, (h.g (p, a, b) (by simp)).x, (h.g (p, a, b) (by simp)).y, (h.g (q, c, d) (by simp)).x, (h.g (q, c, d) (by simp)).y⟩
        obtain ⟨c0, c1, c2, c3, c4, c5, c6, c7⟩ := hS _ hM
        go_region_held3 (fun W => W.cell? ⟨g11, 0, none⟩ = some (.int .i64 r0) ∧ W.cell? ⟨g11, 1, none⟩ = some (.int .i64 r1) ∧ W.cell? ⟨g10, 0, none⟩ = some (.int .i64 q0) ∧ W.cell? ⟨g10, 1, none⟩ = some (.int .i64 q1) ∧ W.cell? ⟨p, 0, none⟩ = some (.int .i64 a) ∧ W.cell? ⟨p, 1, none⟩ = some (.int .i64 b) ∧ W.cell? ⟨q, 0, none⟩ = some (.int .i64 c) ∧ W.cell? ⟨q, 1, none⟩ = some (.int .i64 d)) (first
          | exact hS _ (by assumption)
          | exact hS _ (LM.drew (by assumption))) (first
          | (go_at_call 44; with_reducible refine (hnorm1 _).mono ?_; rintro e' x1 ⟨rfl, xb1⟩; have xM1 := LM.up (by first | assumption | exact LM.drew (by assumption)) xb1)
          | (go_at_call 44; with_reducible refine (hnorm2 _).mono ?_; rintro e' x2 ⟨rfl, xb2⟩; have xM2 := LM.up (by first | assumption | exact LM.drew (by assumption)) xb2))
        all_goals
          have hMf := Lib.hid (xM2.sub (G' := [(p, a, b), (q, c, d), (r, e, f)]) (fun x hx => List.mem_cons_of_mem _ (List.mem_cons_of_mem _ hx)))
          clear hS xM1 xM2 hM hnorm1 hnorm2 w1' w2' w3' w4' w5' w6' w7' w8' w9' w10' xb1 xb2 c0 c1 c2 c3 c4 c5 c6 c7
          go_wp2
          go_meet
          case rel => exact hMf.out
    case rest =>
      clear hdiv Hok hM x0 x1 y0 y1
      have hM := hcut
      clear hcut
      have x0 := (hM.g (p, a, b) (by simp)).x
      have x1 := (hM.g (p, a, b) (by simp)).y
      have y0 := (hM.g (q, c, d) (by simp)).x
      have y1 := (hM.g (q, c, d) (by simp)).y
      obtain ⟨m0, m1, is, hv⟩ : ∃ m0 m1 is, opV a b c d (a * c - b * d) (a * d + b * c) = .tuple #[numV m0 m1, .bool is] := ⟨_, _, _, rfl⟩
      have hmul := fun W => mul_any a b c d W
      rw [hv] at hmul
      have hfacts : is = true → IntKind.i64.wrap (normI a b * normI c d) = normI m0 m1 := by
        intro h
        subst h
        simp [opV, toldV] at hv
        obtain ⟨⟨h0, h1⟩, ⟨h2, h3⟩, h4⟩ := hv
        have e0 : m0 = a * c - b * d := by rw [← h0]; simp [h2, h3, h4]
        have e1 : m1 = a * d + b * c := by rw [← h1]; simp [h2, h3, h4]
        rw [← e0, ← e1] at h4
        rw [norm_is h2, norm_is h3, norm_is h4, ← norm_mul, ← e0, ← e1, IntKind.wrap_i64]
        have := norm_bd h4
        have := sq_pos m0
        have := sq_pos m1
        omega
      have Hok := Lib.hid hfacts
      clear hfacts hv
      go_upto_region 7 with (go_at_call 35; refine (hmul _).mono ?_; rintro e' w2 ⟨rfl, hb2⟩)
      refine wp_gen (fun W => LM w W [(w2.heap.size, m0, m1), (p, a, b), (q, c, d), (r, e, f)]) (hM.push hb2 _) ?_
      clear hM hb2 x0 x1 y0 y1 hmul
      intro W hM
      generalize w2.heap.size = g13 at *
      go_cut [90] (fun v wx => v = .bool false ∧ LM w wx [(p, a, b), (q, c, d), (r, e, f)])
      case first =>
        cases is with
        | false =>
          have hM3 := Lib.hid ((hM.sub (G' := [(p, a, b), (q, c, d), (r, e, f)]) (fun x hx => List.mem_cons_of_mem _ hx)))
          clear hM Hok
          go_quiet (fail)
          go_wp2
          go_meet
          case rel => exact ⟨rfl, hM3.out.up (below_drewN (Below.refl _ _) _)⟩
        | true =>
          have e1 := Hok.out rfl
          have hn1 := fun W => norm_any m0 m1 W
          have hn2 := fun W => norm_any a b W
          have hn3 := fun W => norm_any c d W
          clear Hok
          generalize normI m0 m1 = N1 at *
          generalize normI a b = N2 at *
          generalize normI c d = N3 at *
          have hS : ∀ W, LM w W [(g13, m0, m1), (p, a, b), (q, c, d), (r, e, f)] → (W.cell? ⟨g13, 0, none⟩ = some (.int .i64 m0) ∧ W.cell? ⟨g13, 1, none⟩ = some (.int .i64 m1) ∧ W.cell? ⟨p, 0, none⟩ = some (.int .i64 a) ∧ W.cell? ⟨p, 1, none⟩ = some (.int .i64 b) ∧ W.cell? ⟨q, 0, none⟩ = some (.int .i64 c) ∧ W.cell? ⟨q, 1, none⟩ = some (.int .i64 d)) := fun W h =>
            ⟨(h.g (g13, m0, m1) (by simp)).x, (h.g (g13, m0, m1) (by simp)).y, (h.g (p, a, b) (by simp)).x, (h.g (p, a, b) (by simp)).y, (h.g (q, c, d) (by simp)).x, (h.g (q, c, d) (by simp)).y⟩
          obtain ⟨c0, c1, c4, c5, c6, c7⟩ := hS _ hM
          go_region_held3 (fun W => W.cell? ⟨g13, 0, none⟩ = some (.int .i64 m0) ∧ W.cell? ⟨g13, 1, none⟩ = some (.int .i64 m1) ∧ W.cell? ⟨p, 0, none⟩ = some (.int .i64 a) ∧ W.cell? ⟨p, 1, none⟩ = some (.int .i64 b) ∧ W.cell? ⟨q, 0, none⟩ = some (.int .i64 c) ∧ W.cell? ⟨q, 1, none⟩ = some (.int .i64 d)) (first
            | exact hS _ (by assumption)
            | exact hS _ (LM.drew (by assumption))) (first
            | (go_at_call 44; with_reducible refine (hn1 _).mono ?_; rintro e' x1 ⟨rfl, xb1⟩; have xM1 := LM.up (by first | assumption | exact LM.drew (by assumption)) xb1)
            | (go_at_call 44; with_reducible refine (hn2 _).mono ?_; rintro e' x2 ⟨rfl, xb2⟩; have xM2 := LM.up (by first | assumption | exact LM.drew (by assumption)) xb2)
            | (go_at_call 44; with_reducible refine (hn3 _).mono ?_; rintro e' x3 ⟨rfl, xb3⟩; have xM3 := LM.up (by first | assumption | exact LM.drew (by assumption)) xb3))
          all_goals
            have hMf := Lib.hid (xM3.sub (G' := [(p, a, b), (q, c, d), (r, e, f)]) (fun x hx => List.mem_cons_of_mem _ hx))
            clear hS xM1 xM2 xM3 hM hn1 hn2 hn3 e1 xb1 xb2 xb3 c0 c1 c4 c5 c6 c7
            go_wp2
            go_meet
            case rel => exact ⟨rfl, hMf.out⟩
      case rest =>
        obtain ⟨rfl, hM⟩ := hcut
        clear Hok
        have x0 := (hM.g (p, a, b) (by simp)).x
        have x1 := (hM.g (p, a, b) (by simp)).y
        obtain ⟨t0, t1, is4, hv⟩ : ∃ t0 t1 is4, toldV (rightB a b) (rotR (quarters 4) a b) (rotI (quarters 4) a b) = .tuple #[numV t0 t1, .bool is4] := ⟨_, _, _, rfl⟩
        have hturn := fun W => turn_any a b 4 W
        rw [hv] at hturn
        have Hok := Lib.hid (show is4 = true → t0 = a ∧ t1 = b from by
          intro h
          subst h
          simp [toldV] at hv
          obtain ⟨⟨h0, h1⟩, h2⟩ := hv
          rw [← h0, ← h1]
          simp [h2, rotR, rotI, show quarters 4 = 0 from rfl])
        clear hv
        go_upto_region 10 with (go_at_call 37; refine (hturn _).mono ?_; rintro e' w3 ⟨rfl, hb3⟩)
        refine wp_gen (fun W => LM w W [(w3.heap.size, t0, t1), (p, a, b), (q, c, d), (r, e, f)]) (hM.push hb3 _) ?_
        clear hM hb3 x0 x1 hturn
        intro W hM
        generalize w3.heap.size = g15 at *
        go_cut [101] (fun v wx => v = .bool false ∧ LM w wx [(p, a, b), (q, c, d), (r, e, f)])
        case first =>
          have hM3 := Lib.hid ((hM.sub (G' := [(p, a, b), (q, c, d), (r, e, f)]) (fun x hx => List.mem_cons_of_mem _ hx)))
          cases is4 with
          | false =>
            clear hM Hok
            go_wp2
            go_meet
            case rel => exact ⟨rfl, hM3.out⟩
          | true =>
            obtain ⟨rfl, rfl⟩ := Hok.out rfl
            have x0 := (hM.g (p, t0, t1) (by simp)).x
            have x1 := (hM.g (p, t0, t1) (by simp)).y
            have c0 := (hM.g (g15, t0, t1) (by simp)).x
            have c1 := (hM.g (g15, t0, t1) (by simp)).y
            clear hM Hok
            go_wp2
            go_meet
            case rel => exact ⟨rfl, hM3.out⟩
        case rest =>
          obtain ⟨rfl, hM⟩ := hcut
          clear Hok
          have x0 := (hM.g (p, a, b) (by simp)).x
          have x1 := (hM.g (p, a, b) (by simp)).y
          have y0 := (hM.g (q, c, d) (by simp)).x
          have y1 := (hM.g (q, c, d) (by simp)).y
          have hn1 := fun W => norm_any a b W
          have hn2 := fun W => norm_any c d W
          by_cases h1 : rightB a b = true
          · by_cases h2 : rightB c d = true
            · have hgc := fun W => gcd_yes a b c d W h1 h2
              go_upto_region 15 with (go_at_call 49; refine (hgc _).mono ?_; rintro e' w4 ⟨⟨g0, g1, rfl, hgr, hgd, hgs⟩, hb4⟩)
              refine wp_gen (fun W => LM w W ((w4.heap.size, g0, g1) :: [(p, a, b), (q, c, d), (r, e, f)])) (hM.push hb4 _) ?_
              clear hM hb4 x0 x1 y0 y1 hgc hn1 hn2
              intro W hM
              generalize w4.heap.size = g17 at *
              obtain ⟨hgx, hgy⟩ := (hgd g0 g1).1 (Dv.refl g0 g1)
              have Hgd := Lib.hid hgd
              clear hgd
              go_cut [145] (fun v wx => v = .bool false ∧ LM w wx [(g17, g0, g1), (p, a, b), (q, c, d), (r, e, f)])
              case first =>
                have ax0 := (hM.g (p, a, b) (by simp)).x
                have ax1 := (hM.g (p, a, b) (by simp)).y
                have ag0 := (hM.g (g17, g0, g1) (by simp)).x
                have ag1 := (hM.g (g17, g0, g1) (by simp)).y
                have hd1 := fun W => divides_is g0 g1 a b W hgr h1 hgx
                have hd2 := fun W => divides_is g0 g1 c d W hgr h2 hgy
                clear hgx hgy hgr h1 h2 Hgd
                rcases hgs with ⟨rfl, rfl⟩ | ⟨s0, s1⟩
                · go_wp2_with (first
                    | (go_at_call 50; with_reducible refine (hd1 _).mono ?_; rintro e' w5 ⟨rfl, hb5⟩; have hM5 := hM.up hb5; have bg0 := (hM5.g (g17, 0, 0) (by simp)).x; have bg1 := (hM5.g (g17, 0, 0) (by simp)).y; have by0 := (hM5.g (q, c, d) (by simp)).x; have by1 := (hM5.g (q, c, d) (by simp)).y)
                    | (go_at_call 50; with_reducible refine (hd2 _).mono ?_; rintro e' w6 ⟨rfl, hb6⟩; have hM6 := hM5.up hb6; have cg0 := (hM6.g (g17, 0, 0) (by simp)).x; have cg1 := (hM6.g (g17, 0, 0) (by simp)).y))
                  go_meet
                  case rel => exact ⟨rfl, hM6⟩
                · have s2 : g0 ≠ 0 := by omega
                  have s3 : decide (g0 ≤ 0) = false := decide_eq_false (by omega)
                  have s4 : decide (g1 < 0) = false := decide_eq_false (by omega)
                  clear s0 s1
                  go_wp2_with (first
                    | (go_at_call 50; with_reducible refine (hd1 _).mono ?_; rintro e' w5 ⟨rfl, hb5⟩; have hM5 := hM.up hb5; have bg0 := (hM5.g (g17, g0, g1) (by simp)).x; have bg1 := (hM5.g (g17, g0, g1) (by simp)).y; have by0 := (hM5.g (q, c, d) (by simp)).x; have by1 := (hM5.g (q, c, d) (by simp)).y)
                    | (go_at_call 50; with_reducible refine (hd2 _).mono ?_; rintro e' w6 ⟨rfl, hb6⟩; have hM6 := hM5.up hb6; have cg0 := (hM6.g (g17, g0, g1) (by simp)).x; have cg1 := (hM6.g (g17, g0, g1) (by simp)).y))
                  go_meet
                  case rel => exact ⟨rfl, hM6⟩
              case rest =>
                obtain ⟨rfl, hM⟩ := hcut
                have dz0' := (hM.g (r, e, f) (by simp)).x
                have dz1' := (hM.g (r, e, f) (by simp)).y
                have hnz := fun W => norm_any e f W
                by_cases h3 : rightB e f = true
                · rw [norm_is h3] at hnz
                  have hp1 := sq_pos e
                  have hp2 := sq_pos f
                  have hp : decide (e * e + f * f < 0) = false := decide_eq_false (by omega)
                  generalize e * e + f * f = N at *
                  clear hp1 hp2 hgx hgy hgs
                  by_cases k1 : Dv e f a b
                  · have hz1 := fun W => divides_is e f a b W h3 h1 k1
                    by_cases k2 : Dv e f c d
                    · have hz2 := fun W => divides_is e f c d W h3 h2 k2
                      have hz3 := fun W => divides_is e f g0 g1 W h3 hgr ((Hgd.out e f).2 ⟨k1, k2⟩)
                      clear k1 k2 h1 h2 h3 hgr Hgd
                      go_wp2_with (first
                        | (go_at_call 44; with_reducible refine (hnz _).mono ?_; rintro e' w7 ⟨rfl, hb7⟩; have hM7 := hM.up hb7; have dz0 := (hM7.g (r, e, f) (by simp)).x; have dz1 := (hM7.g (r, e, f) (by simp)).y; have dx0 := (hM7.g (p, a, b) (by simp)).x; have dx1 := (hM7.g (p, a, b) (by simp)).y)
                        | (go_at_call 50; with_reducible refine (hz1 _).mono ?_; rintro e' w8 ⟨rfl, hb8⟩; have hM8 := hM7.up hb8; have ez0 := (hM8.g (r, e, f) (by simp)).x; have ez1 := (hM8.g (r, e, f) (by simp)).y; have ey0 := (hM8.g (q, c, d) (by simp)).x; have ey1 := (hM8.g (q, c, d) (by simp)).y)
                        | (go_at_call 50; with_reducible refine (hz2 _).mono ?_; rintro e' w9 ⟨rfl, hb9⟩; have hM9 := hM8.up hb9; have fz0 := (hM9.g (r, e, f) (by simp)).x; have fz1 := (hM9.g (r, e, f) (by simp)).y; have fg0 := (hM9.g (g17, g0, g1) (by simp)).x; have fg1 := (hM9.g (g17, g0, g1) (by simp)).y)
                        | (go_at_call 50; with_reducible refine (hz3 _).mono ?_; rintro e' w10 ⟨rfl, hb10⟩; have hM10 := hM9.up hb10)
                        | (go_at_call 32; with_reducible refine (alive_gauss _).mono ?_; rintro e' w11 ⟨rfl, hb11⟩))
                      go_ret
                      exact ⟨rfl, (hM10.up hb11).bel⟩
                    · have hz2 := fun W => divides_not e f c d W h3 h2 k2
                      clear k1 k2 h1 h2 h3 hgr Hgd
                      go_wp2_with (first
                        | (go_at_call 44; with_reducible refine (hnz _).mono ?_; rintro e' w7 ⟨rfl, hb7⟩; have hM7 := hM.up hb7; have dz0 := (hM7.g (r, e, f) (by simp)).x; have dz1 := (hM7.g (r, e, f) (by simp)).y; have dx0 := (hM7.g (p, a, b) (by simp)).x; have dx1 := (hM7.g (p, a, b) (by simp)).y)
                        | (go_at_call 50; with_reducible refine (hz1 _).mono ?_; rintro e' w8 ⟨rfl, hb8⟩; have hM8 := hM7.up hb8; have ez0 := (hM8.g (r, e, f) (by simp)).x; have ez1 := (hM8.g (r, e, f) (by simp)).y; have ey0 := (hM8.g (q, c, d) (by simp)).x; have ey1 := (hM8.g (q, c, d) (by simp)).y)
                        | (go_at_call 50; with_reducible refine (hz2 _).mono ?_; rintro e' w9 ⟨rfl, hb9⟩; have hM9 := hM8.up hb9; have fz0 := (hM9.g (r, e, f) (by simp)).x; have fz1 := (hM9.g (r, e, f) (by simp)).y; have fg0 := (hM9.g (g17, g0, g1) (by simp)).x; have fg1 := (hM9.g (g17, g0, g1) (by simp)).y)
                        | (go_at_call 32; with_reducible refine (alive_gauss _).mono ?_; rintro e' w11 ⟨rfl, hb11⟩))
                      go_ret
                      exact ⟨rfl, (hM9.up hb11).bel⟩
                  · have hz1 := fun W => divides_not e f a b W h3 h1 k1
                    clear k1 h1 h2 h3 hgr Hgd
                    go_wp2_with (first
                      | (go_at_call 44; with_reducible refine (hnz _).mono ?_; rintro e' w7 ⟨rfl, hb7⟩; have hM7 := hM.up hb7; have dz0 := (hM7.g (r, e, f) (by simp)).x; have dz1 := (hM7.g (r, e, f) (by simp)).y; have dx0 := (hM7.g (p, a, b) (by simp)).x; have dx1 := (hM7.g (p, a, b) (by simp)).y)
                      | (go_at_call 50; with_reducible refine (hz1 _).mono ?_; rintro e' w8 ⟨rfl, hb8⟩; have hM8 := hM7.up hb8; have ez0 := (hM8.g (r, e, f) (by simp)).x; have ez1 := (hM8.g (r, e, f) (by simp)).y; have ey0 := (hM8.g (q, c, d) (by simp)).x; have ey1 := (hM8.g (q, c, d) (by simp)).y)
                      | (go_at_call 32; with_reducible refine (alive_gauss _).mono ?_; rintro e' w11 ⟨rfl, hb11⟩))
                    go_ret
                    exact ⟨rfl, (hM8.up hb11).bel⟩
                · rw [norm_neg (eq_false_of_ne_true h3)] at hnz
                  clear h1 h2 h3 hgr Hgd hgx hgy hgs
                  go_wp2_with (first
                    | (go_at_call 44; with_reducible refine (hnz _).mono ?_; rintro e' w7 ⟨rfl, hb7⟩; have hM7 := hM.up hb7; have dz0 := (hM7.g (r, e, f) (by simp)).x; have dz1 := (hM7.g (r, e, f) (by simp)).y; have dx0 := (hM7.g (p, a, b) (by simp)).x; have dx1 := (hM7.g (p, a, b) (by simp)).y)
                    | (go_at_call 32; with_reducible refine (alive_gauss _).mono ?_; rintro e' w11 ⟨rfl, hb11⟩))
                  go_ret
                  exact ⟨rfl, (hM7.up hb11).bel⟩
            · have h2 := eq_false_of_ne_true h2
              have hg := fun W => gcd_no a b c d W (.inr ⟨h1, h2⟩)
              rw [norm_is h1] at hn1
              rw [norm_neg h2] at hn2
              have hp1 := sq_pos a
              have hp2 := sq_pos b
              have hp : decide (a * a + b * b < 0) = false := decide_eq_false (by omega)
              generalize a * a + b * b = N at *
              clear h1 h2 hp1 hp2
              go_upto_region 14 with (go_at_call 49; refine (hg _).mono ?_; rintro e' w4 ⟨rfl, hb4⟩)
              refine wp_gen (fun W => LM w W [(w4.heap.size, 0, 0), (p, a, b), (q, c, d), (r, e, f)]) (hM.push hb4 _) ?_
              clear hM hb4 x0 x1 y0 y1 hg
              intro W hM
              have x0 := (hM.g (p, a, b) (by simp)).x
              have x1 := (hM.g (p, a, b) (by simp)).y
              go_wp2_with (first
                | (go_at_call 44; with_reducible refine (hn1 _).mono ?_; rintro e' w5 ⟨rfl, hb5⟩; have hM5 := hM.up hb5; have y0 := (hM5.g (q, c, d) (by simp)).x; have y1 := (hM5.g (q, c, d) (by simp)).y)
                | (go_at_call 44; with_reducible refine (hn2 _).mono ?_; rintro e' w6 ⟨rfl, hb6⟩)
                | (go_at_call 32; with_reducible refine (alive_gauss _).mono ?_; rintro e' w7 ⟨rfl, hb7⟩))
              go_ret
              exact ⟨rfl, ((hM5.up hb6).up hb7).bel⟩
          · have h1 := eq_false_of_ne_true h1
            have hg := fun W => gcd_no a b c d W (.inl h1)
            rw [norm_neg h1] at hn1
            clear h1
            go_upto_region 14 with (go_at_call 49; refine (hg _).mono ?_; rintro e' w4 ⟨rfl, hb4⟩)
            refine wp_gen (fun W => LM w W [(w4.heap.size, 0, 0), (p, a, b), (q, c, d), (r, e, f)]) (hM.push hb4 _) ?_
            clear hM hb4 x0 x1 y0 y1 hg
            intro W hM
            have x0 := (hM.g (p, a, b) (by simp)).x
            have x1 := (hM.g (p, a, b) (by simp)).y
            go_wp2_with (first
              | (go_at_call 44; with_reducible refine (hn1 _).mono ?_; rintro e' w5 ⟨rfl, hb5⟩)
              | (go_at_call 32; with_reducible refine (alive_gauss _).mono ?_; rintro e' w7 ⟨rfl, hb7⟩))
            go_ret
            exact ⟨rfl, ((hM.up hb5).up hb7).bel⟩

theorem walkAll (a b c d e f : Int) (w : World) : Calls Try.prog 7 #[numV a b, numV c d, numV e f] w fun e w' => e = .returned (.bool true) ∧ Below w.heap.size w w' := walk a b c d e f w
end Go.Proofs.Ytebhojbllhjkeaa.gaussLaws
