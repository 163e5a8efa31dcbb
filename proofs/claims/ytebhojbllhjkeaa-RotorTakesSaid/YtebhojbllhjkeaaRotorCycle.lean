/- rotor.Cycle: the tail and the loop of any rotor. -/
import Derived.Test.YtebhojbllhjkeaaRotorSkip
import Derived.Deep.LoopGhost
namespace Go.Proofs.Ytebhojbllhjkeaa
open Go.RowKit
set_option linter.all false
attribute [local go_sem] run_store_cx

/-- Cycle's own memory: the rotor, its turn, the slow and the fast -/
structure CM (w W : World) (D S F : Nat) (z a c zs zf : Pt) (p : Int) : Prop where
  b : RB W w.heap.size z a c p
  t : TU W D a c
  s : RB W S zs a c p
  f : RB W F zf a c p
  hD : w.heap.size < D
  hS : D < S
  hF : D < F
  hne : S ≠ F
  bel : Below w.heap.size w W
theorem CM.below {w W W' : World} {D S F : Nat} {z a c zs zf : Pt} {p : Int} (h : CM w W D S F z a c zs zf p) (hb : Below W.heap.size W W') : CM w W' D S F z a c zs zf p :=
  ⟨h.b.up hb, h.t.up hb, h.s.up hb, h.f.up hb, h.hD, h.hS, h.hF, h.hne, below_trans h.bel hb⟩
theorem CM.drew {w W : World} {D S F : Nat} {z a c zs zf : Pt} {p : Int} (h : CM w W D S F z a c zs zf p) : CM w W.drew D S F z a c zs zf p := h.below (Below.refl _ _).drew
theorem CM.sets {w W : World} {D S F : Nat} {z a c zs zf z' : Pt} {p : Int} (h : CM w W D S F z a c zs zf p) : CM w (set7 W S z' a c p) D S F z a c z' zf p :=
  ⟨h.b.far7 (by have := h.hD; have := h.hS; omega), h.t.far7 (by have := h.hS; omega), h.s.set7, h.f.far7 (Ne.symm h.hne), h.hD, h.hS, h.hF, h.hne, below_set7 h.bel (by have := h.hD; have := h.hS; omega)⟩
theorem CM.setf {w W : World} {D S F : Nat} {z a c zs zf z' : Pt} {p : Int} (h : CM w W D S F z a c zs zf p) : CM w (set7 W F z' a c p) D S F z a c zs z' p :=
  ⟨h.b.far7 (by have := h.hD; have := h.hF; omega), h.t.far7 (by have := h.hF; omega), h.s.far7 h.hne, h.f.set7, h.hD, h.hS, h.hF, h.hne, below_set7 h.bel (by have := h.hD; have := h.hF; omega)⟩

theorem cm_two {w W : World} {D : Nat} {z a c : Pt} {p : Int} (hT : TU W D a c) (hB : RB W w.heap.size z a c p) (hbel : Below w.heap.size w W) (hlt : w.heap.size < D) (hsz : W.heap.size = D + 1) (t : TypeId) :
    CM w ((W.alloc (.cells #[.int .i64 z.1, .int .i64 z.2, .int .i64 a.1, .int .i64 a.2, .int .i64 c.1, .int .i64 c.2, .int .i64 p] t)).alloc (.cells #[.int .i64 z.1, .int .i64 z.2, .int .i64 a.1, .int .i64 a.2, .int .i64 c.1, .int .i64 c.2, .int .i64 p] t)) D (D + 1) (D + 1 + 1) z a c z z p ∧
    CM w ((W.alloc (.cells #[.int .i64 z.1, .int .i64 z.2, .int .i64 a.1, .int .i64 a.2, .int .i64 c.1, .int .i64 c.2, .int .i64 p] t)).alloc (.cells #[.int .i64 z.1, .int .i64 z.2, .int .i64 a.1, .int .i64 a.2, .int .i64 c.1, .int .i64 c.2, .int .i64 p] t)) D (D + 1 + 1) (D + 1) z a c z z p := by
  have hb := below_two W (.cells #[.int .i64 z.1, .int .i64 z.2, .int .i64 a.1, .int .i64 a.2, .int .i64 c.1, .int .i64 c.2, .int .i64 p] t) (.cells #[.int .i64 z.1, .int .i64 z.2, .int .i64 a.1, .int .i64 a.2, .int .i64 c.1, .int .i64 c.2, .int .i64 p] t)
  have h1 := (RB.new W z a c p t).up (below_one _ (.cells #[.int .i64 z.1, .int .i64 z.2, .int .i64 a.1, .int .i64 a.2, .int .i64 c.1, .int .i64 c.2, .int .i64 p] t))
  have h2 := RB.new (W.alloc (.cells #[.int .i64 z.1, .int .i64 z.2, .int .i64 a.1, .int .i64 a.2, .int .i64 c.1, .int .i64 c.2, .int .i64 p] t)) z a c p t
  rw [show (W.alloc (.cells #[.int .i64 z.1, .int .i64 z.2, .int .i64 a.1, .int .i64 a.2, .int .i64 c.1, .int .i64 c.2, .int .i64 p] t)).heap.size = D + 1 + 1 by simp [hsz]] at h2
  rw [hsz] at h1
  exact ⟨⟨hB.up hb, hT.up hb, h1, h2, hlt, by omega, by omega, by omega, below_trans hbel hb⟩, ⟨hB.up hb, hT.up hb, h2, h1, hlt, by omega, by omega, by omega, below_trans hbel hb⟩⟩

theorem pt_eq (y z : Pt) : (y = z) ↔ (y.1 = z.1 ∧ y.2 = z.2) := Prod.ext_iff

set_option maxRecDepth 10000 in
set_option maxHeartbeats 4000000 in
theorem rcycle_yes (z a c : Pt) (p : Int) (t l : Nat) (w : World) (h : rrB z a c p = true) (ho : Orbit (fun n => it (ap a c p) n z) t l) (htl : (t : Int) + l ≤ p * p) :
    Calls Try.prog 55 #[rotV z a c p] w fun e w' => e = .returned (.tuple #[.int .i64 t, .int .i64 l, .bool true]) ∧ Below w.heap.size w w' := by
  obtain ⟨hp, hz, ha, hcc⟩ := of_rrB h
  have hri := fun W => rright_any z a c p W
  rw [h] at hri
  have htu := fun W => rturn_any z a c p W
  have hin := fun n => inP.it hp.1 a c hz n
  have hdo := fun n W => rdone_any a c (it (ap a c p) n z) a c p W hp ha hcc (hin n)
  simp only [← it_succ] at hdo
  have St0 := Lib.hid (RB.new w z a c p 75)
  have B0 := Lib.hid (below_one w (.cells #[.int .i64 z.1, .int .i64 z.2, .int .i64 a.1, .int .i64 a.2, .int .i64 c.1, .int .i64 c.2, .int .i64 p] 75))
  clear h
  have Ho := Lib.hid ho
  clear ho
  have hz0 : it (ap a c p) 0 z = z := rfl
  have hpp : p * p ≤ 1000 * 1000 := Int.mul_le_mul hp.2 hp.2 (by omega) (by omega)
  have htl2 : (t : Int) + l ≤ 1000000 := by omega
  clear hpp
  generalize hX : (fun n => it (ap a c p) n z) = X at *
  have Hx : ∀ n, it (ap a c p) n z = X n := fun n => by rw [← hX]
  simp only [Hx] at hdo hz0
  clear hX Hx hin
  go_enter Try.func55, Try.ntmps55
  go_upto_region 1 with fail
  refine wp_scope_straight ?_
  go_upto_region 4 with (first
    | (go_at_call 62; refine (hri _).mono ?_; rintro e w1 ⟨rfl, hb1⟩; have st1 := St0.out.up hb1; have bb1 := below_trans B0.out hb1; obtain ⟨x0, x1, x2, x3, x4, x5, x6⟩ := st1.all)
    | (go_at_call 81; refine (htu _).mono ?_; rintro e w2 ⟨rfl, hb2⟩; have st2 := st1.up hb2; have bb2 := below_trans bb1 hb2; clear x0 x1 x2 x3 x4 x5 x6 st1 hb1 hb2 bb1))
  refine wp_gen (fun W => TU W w2.heap.size a c ∧ RB W w.heap.size z a c p ∧ Below w.heap.size w W ∧ W.heap.size = w2.heap.size + 1) ⟨TU.new _ _ _ _, st2.up (below_one _ _), below_trans bb2 (below_one _ _), by simp⟩ ?_
  have hlt := st2.lt
  clear st2 bb2 hri htu St0 B0
  rintro W ⟨hT, hB, hbel, hsz⟩
  generalize w2.heap.size = D at *
  go_cut [6, 7] (fun v6 v7 wx => ∃ S F, v6 = .pointer (some ⟨S, 0, none⟩) ∧ v7 = .pointer (some ⟨F, 0, none⟩) ∧ CM w wx D S F z a c z z p)
  case first =>
    obtain ⟨x0, x1, x2, x3, x4, x5, x6⟩ := hB.all
    have e1 : ∀ (o o' : Obj) i, ((W.alloc o).alloc o').cell? ⟨w.heap.size, i, none⟩ = W.cell? ⟨w.heap.size, i, none⟩ := fun o o' i => (below_two W o o').cell (p := ⟨w.heap.size, i, none⟩) hB.lt
    have Cm := Lib.hid (cm_two hT hB hbel hlt hsz 75)
    go_region
    all_goals
      clear x0 x1 x2 x3 x4 x5 x6 e1 hT hB hbel
      go_wp2
      go_meet
      case rel => first
        | exact ⟨_, _, rfl, rfl, Cm.out.1⟩
        | exact ⟨_, _, rfl, rfl, Cm.out.2⟩
        | exact ⟨_, _, rfl, rfl, Cm.out.1.drew⟩
        | exact ⟨_, _, rfl, rfl, Cm.out.2.drew⟩
  case rest =>
    obtain ⟨S, F, rfl, rfl, hC⟩ := hcut
    clear hT hB hbel
    go_wp2
    go_step3
    go_wp2
    have hl := Ho.out.1
    have hK0 : 1 ≤ l * (t + 1) := Nat.mul_pos hl (by omega)
    go_loopg [] (l * (t + 1)) (fun gk wr => ∃ k, k + gk = l * (t + 1) ∧ 1 ≤ gk ∧ CM w wr D S F z a c (X k) (X (2 * k)) p)
    case atStart => exact ⟨0, by omega, hK0, by rw [Nat.mul_zero, hz0]; exact hC⟩
    case round =>
      clear hC
      obtain ⟨k, hk, hgk, hC⟩ := hrel
      have Hk := Lib.hid hk
      clear hk
      obtain ⟨t0, t1, m0, m1⟩ := hC.t
      obtain ⟨x0, x1, x2, x3, x4, x5, x6, f0, f1, f2, f3, f4, f5, f6⟩ := hC.s
      go_wp2_with (go_at_call 82; with_reducible refine (hdo k _).mono ?_; rintro e w3 ⟨rfl, hb3⟩; have hC1 := hC.below hb3; clear t0 t1 m0 m1 x0 x1 x2 x3 x4 x5 x6 f0 f1 f2 f3 f4 f5 f6 hC hb3; obtain ⟨x0, x1, x2, x3, x4, x5, x6, f0, f1, f2, f3, f4, f5, f6⟩ := hC1.s)
      have hC2 := CM.sets (z' := X (k + 1)) hC1
      clear hC1 x0 x1 x2 x3 x4 x5 x6 f0 f1 f2 f3 f4 f5 f6
      go_loopw [18] (fun i wr => ∃ j : Nat, j ≤ 2 ∧ i = .int .i64 j ∧ CM w wr D S F z a c (X (k + 1)) (X (2 * k + j)) p) (fun i _ => 2 - (intOf i).toNat)
      case atStart => exact ⟨0, by omega, rfl, hC2⟩
      case round =>
        clear hC2
        obtain ⟨j, hj, rfl, hC⟩ := hrel
        obtain ⟨t0, t1, m0, m1⟩ := hC.t
        obtain ⟨x0, x1, x2, x3, x4, x5, x6, f0, f1, f2, f3, f4, f5, f6⟩ := hC.f
        by_cases h2 : j < 2
        · have hd : decide ((j : Int) < 2) = true := decide_eq_true (by omega)
          go_wp2_with (go_at_call 82; with_reducible refine (hdo (2 * k + j) _).mono ?_; rintro e w4 ⟨rfl, hb4⟩; have hC1 := hC.below hb4; clear t0 t1 m0 m1 x0 x1 x2 x3 x4 x5 x6 f0 f1 f2 f3 f4 f5 f6 hC hb4; obtain ⟨x0, x1, x2, x3, x4, x5, x6, f0, f1, f2, f3, f4, f5, f6⟩ := hC1.f)
          refine ⟨⟨j + 1, by omega, rfl, CM.setf (z' := X (2 * k + j + 1)) hC1⟩, ?_⟩
          simp [intOf]
          omega
        · obtain rfl : j = 2 := by omega
          have hd : decide (((2 : Nat) : Int) < 2) = false := decide_eq_false (by omega)
          by_cases he : X (k + 1) = X (2 * (k + 1))
          · have hk1 : t ≤ k + 1 ∧ l ∣ k + 1 := (Ho.out.meets (by omega)).1 he
            have Hk1 := Lib.hid hk1
            rw [show 2 * k + 2 = 2 * (k + 1) by omega, ← he] at hC
            clear Hk hgk he hk1 t0 t1 m0 m1 x0 x1 x2 x3 x4 x5 x6 f0 f1 f2 f3 f4 f5 f6
            have hK1 : 1 ≤ k + 1 := by omega
            generalize k + 1 = kk at *
            obtain ⟨x0, x1, x2, x3, x4, x5, x6, f0, f1, f2, f3, f4, f5, f6⟩ := hC.s
            obtain ⟨y0, y1, y2, y3, y4, y5, y6, g0, g1, g2, g3, g4, g5, g6⟩ := hC.f
            obtain ⟨b0, b1, b2, b3, b4, b5, b6⟩ := hC.b.all
            go_wp2
            have hC4 := CM.sets (z' := z) hC
            clear x0 x1 x2 x3 x4 x5 x6 f0 f1 f2 f3 f4 f5 f6 y0 y1 y2 y3 y4 y5 y6 g0 g1 g2 g3 g4 g5 g6 b0 b1 b2 b3 b4 b5 b6 hC
            go_loopw [2] (fun i wr => ∃ j : Nat, j ≤ t ∧ i = .int .i64 j ∧ CM w wr D S F z a c (X j) (X (kk + j)) p) (fun i _ => t - (intOf i).toNat)
            case atStart => exact ⟨0, by omega, rfl, by rw [hz0]; exact hC4⟩
            case round =>
              clear hC4
              obtain ⟨j, hj, rfl, hC⟩ := hrel
              by_cases hjt : j = t
              · subst hjt
                have he : X j = X (kk + j) := (Ho.out.2 j (kk + j) (by omega)).2 ⟨Nat.le_refl _, by rw [show kk + j - j = kk by omega]; exact Hk1.out.2⟩
                rw [← he] at hC
                clear he
                obtain ⟨t0, t1, m0, m1⟩ := hC.t
                obtain ⟨x0, x1, x2, x3, x4, x5, x6, f0, f1, f2, f3, f4, f5, f6⟩ := hC.s
                obtain ⟨y0, y1, y2, y3, y4, y5, y6, g0, g1, g2, g3, g4, g5, g6⟩ := hC.f
                go_wp2_with (go_at_call 82; with_reducible refine (hdo j _).mono ?_; rintro e w4 ⟨rfl, hb4⟩; have hC1 := hC.below hb4; clear t0 t1 m0 m1 x0 x1 x2 x3 x4 x5 x6 f0 f1 f2 f3 f4 f5 f6 y0 y1 y2 y3 y4 y5 y6 g0 g1 g2 g3 g4 g5 g6 hC hb4; obtain ⟨y0, y1, y2, y3, y4, y5, y6, g0, g1, g2, g3, g4, g5, g6⟩ := hC1.f)
                have hC2 := CM.setf (z' := X (j + 1)) hC1
                clear y0 y1 y2 y3 y4 y5 y6 g0 g1 g2 g3 g4 g5 g6 hC1
                go_loopw [3] (fun i wr => ∃ q : Nat, 1 ≤ q ∧ q ≤ l ∧ i = .int .i64 q ∧ CM w wr D S F z a c (X j) (X (j + q)) p) (fun i _ => l - (intOf i).toNat)
                case atStart => exact ⟨1, by omega, hl, rfl, hC2⟩
                case round =>
                  clear hC2
                  obtain ⟨q, hq1, hq, rfl, hC⟩ := hrel
                  obtain ⟨t0, t1, m0, m1⟩ := hC.t
                  by_cases hql : q = l
                  · subst hql
                    have he : X j = X (j + q) := (Ho.out.2 j (j + q) (by omega)).2 ⟨Nat.le_refl _, by rw [show j + q - j = q by omega]; exact ⟨1, by omega⟩⟩
                    rw [← he] at hC
                    clear he
                    obtain ⟨x0, x1, x2, x3, x4, x5, x6, f0, f1, f2, f3, f4, f5, f6⟩ := hC.s
                    obtain ⟨y0, y1, y2, y3, y4, y5, y6, g0, g1, g2, g3, g4, g5, g6⟩ := hC.f
                    go_wp2
                    simp only [Exit.noGoto]
                    exact bodyPost_ret (v := .tuple #[.int .i64 j, .int .i64 q, .bool true]) (by simp [results, Try.results55, go_sem]) rfl ⟨rfl, hC.bel⟩
                  · have he : ¬ X (j + q) = X j := fun h => by
                      have h2 := ((Ho.out.2 j (j + q) (by omega)).1 h.symm).2
                      rw [show j + q - j = q by omega] at h2
                      have := Nat.le_of_dvd (by omega) h2
                      omega
                    have hcc2 : (X (j + q)).1 ≠ (X j).1 ∨ ((X (j + q)).1 = (X j).1 ∧ (X (j + q)).2 ≠ (X j).2) := by
                      by_cases h1 : (X (j + q)).1 = (X j).1
                      · exact .inr ⟨h1, fun h2 => he (Prod.ext h1 h2)⟩
                      · exact .inl h1
                    clear he
                    obtain ⟨x0, x1, x2, x3, x4, x5, x6, f0, f1, f2, f3, f4, f5, f6⟩ := hC.s
                    obtain ⟨y0, y1, y2, y3, y4, y5, y6, g0, g1, g2, g3, g4, g5, g6⟩ := hC.f
                    rcases hcc2 with hn | ⟨he1, hn⟩
                    all_goals
                      go_upto_region 17 with fail
                      first | clear hn he1 | clear hn
                      go_wp2_with (go_at_call 82; with_reducible refine (hdo (j + q) _).mono ?_; rintro e w4 ⟨rfl, hb4⟩; have hC1 := hC.below hb4; clear t0 t1 m0 m1 x0 x1 x2 x3 x4 x5 x6 f0 f1 f2 f3 f4 f5 f6 y0 y1 y2 y3 y4 y5 y6 g0 g1 g2 g3 g4 g5 g6 hC hb4; obtain ⟨y0, y1, y2, y3, y4, y5, y6, g0, g1, g2, g3, g4, g5, g6⟩ := hC1.f)
                      refine ⟨⟨q + 1, by omega, by omega, rfl, CM.setf (z' := X (j + q + 1)) hC1⟩, ?_⟩
                      simp [intOf]
                      omega
              · have he : ¬ X j = X (kk + j) := fun h => by
                  have h2 := ((Ho.out.2 j (kk + j) (by omega)).1 h).1
                  omega
                have hcc2 : (X j).1 ≠ (X (kk + j)).1 ∨ ((X j).1 = (X (kk + j)).1 ∧ (X j).2 ≠ (X (kk + j)).2) := by
                  by_cases h1 : (X j).1 = (X (kk + j)).1
                  · exact .inr ⟨h1, fun h2 => he (Prod.ext h1 h2)⟩
                  · exact .inl h1
                clear he
                obtain ⟨t0, t1, m0, m1⟩ := hC.t
                obtain ⟨x0, x1, x2, x3, x4, x5, x6, f0, f1, f2, f3, f4, f5, f6⟩ := hC.s
                obtain ⟨y0, y1, y2, y3, y4, y5, y6, g0, g1, g2, g3, g4, g5, g6⟩ := hC.f
                rcases hcc2 with hn | ⟨he1, hn⟩
                all_goals
                  go_upto_region 14 with fail
                  first | clear hn he1 | clear hn
                  refine wp_region_noPanic ?_
                  refine wp_region_held_drew (S := fun W => W.cell? ⟨D, 0, none⟩ = some (cxV a) ∧ W.cell? ⟨D, 1, none⟩ = some (cxV c)) (by kernel_rfl) (⟨hC.drew.t.x0, hC.drew.t.x1⟩) (fun hHeld => ?_)
                  refine wpAnyH_take (i := 0) (oi := _) (v := ?_) rfl (by kernel_rfl) (by kernel_rfl) (by kernel_rfl) (fun _ _ _ h => h) (Or.inl ⟨by rfl, ?_⟩) (by assumption) ?_
                  rotate_left
                  · intro w hSw; (try dsimp only at hSw); go_simp; try with_reducible rfl
                  try simp only [Act.put, List.setIfInBounds_toArray, List.set_cons_zero, List.set_cons_succ]
                  refine wpAnyH_take (i := 3) (oi := _) (v := ?_) rfl (by kernel_rfl) (by kernel_rfl) (by kernel_rfl) (fun _ _ _ h => h) (Or.inl ⟨by rfl, ?_⟩) (by assumption) ?_
                  rotate_left
                  · intro w hSw; (try dsimp only at hSw); go_simp; try with_reducible rfl
                  try simp only [Act.put, List.setIfInBounds_toArray, List.set_cons_zero, List.set_cons_succ]
                  refine wpAnyH_ready (rs := [1, 4]) (by kernel_rfl) (by simp) ?_
                  refine AllReadyH.cons (o := _) rfl (fun K hK => ?_) ?_
                  · go_simp
                    refine hK.out _ _ (⟨hC.drew.t.x0, hC.drew.t.x1⟩) (fun hHeld => ?_)
                    clear hK K
                    try simp only [Act.put, List.setIfInBounds_toArray, List.set_cons_zero, List.set_cons_succ]
                    refine wpAnyH_ready (rs := [2, 4]) (by kernel_rfl) (by simp) ?_
                    refine AllReadyH.cons (o := _) rfl (fun K hK => ?_) ?_
                    · go_simp
                      go_at_call 82
                      with_reducible refine (hdo j _).mono ?_
                      rintro e w4 ⟨rfl, hb4⟩
                      have hC1 := hC.drew.below hb4
                      refine hK.out _ _ (⟨hC1.t.x0, hC1.t.x1⟩) (fun hHeld => ?_)
                      clear hK K
                      try simp only [Act.put, List.setIfInBounds_toArray, List.set_cons_zero, List.set_cons_succ]
                      clear y0 y1 y2 y3 y4 y5 y6
                      have y0 := hC1.f.x0
                      have y1 := hC1.f.x1
                      have y2 := hC1.f.x2
                      have y3 := hC1.f.x3
                      have y4 := hC1.f.x4
                      have y5 := hC1.f.x5
                      have y6 := hC1.f.x6
                      refine wpAnyH_ready (rs := [4]) (by kernel_rfl) (by simp) ?_
                      refine AllReadyH.cons (o := _) rfl (fun K hK => ?_) AllReadyH.nil
                      go_simp
                      refine hK.out _ _ (⟨hC1.t.x0, hC1.t.x1⟩) (fun hHeld => ?_)
                      clear hK K
                      try simp only [Act.put, List.setIfInBounds_toArray, List.set_cons_zero, List.set_cons_succ]
                      refine wpAnyH_ready (rs := [5]) (by kernel_rfl) (by simp) ?_
                      refine AllReadyH.cons (o := _) rfl (fun K hK => ?_) AllReadyH.nil
                      go_simp
                      go_at_call 82
                      with_reducible refine (hdo (kk + j) _).mono ?_
                      rintro e w5 ⟨rfl, hb5⟩
                      have hC2 := hC1.below hb5
                      clear t0 t1 m0 m1 x0 x1 x2 x3 x4 x5 x6 f0 f1 f2 f3 f4 f5 f6 y0 y1 y2 y3 y4 y5 y6 g0 g1 g2 g3 g4 g5 g6
                      obtain ⟨x0, x1, x2, x3, x4, x5, x6, f0, f1, f2, f3, f4, f5, f6⟩ := hC2.s
                      refine hK.out _ _ (⟨hC2.t.x0, hC2.t.x1⟩) (fun hHeld => ?_)
                      clear hK K
                      try simp only [Act.put, List.setIfInBounds_toArray, List.set_cons_zero, List.set_cons_succ]
                      have hC3 := CM.sets (z' := X (j + 1)) hC2
                      refine wpAnyH_ready (rs := [6]) (by kernel_rfl) (by simp) ?_
                      refine AllReadyH.cons (o := _) rfl (fun K hK => ?_) AllReadyH.nil
                      go_simp
                      refine hK.out _ _ (⟨hC3.t.x0, hC3.t.x1⟩) (fun hHeld => ?_)
                      clear hK K
                      try simp only [Act.put, List.setIfInBounds_toArray, List.set_cons_zero, List.set_cons_succ]
                      clear x0 x1 x2 x3 x4 x5 x6 f0 f1 f2 f3 f4 f5 f6
                      obtain ⟨y0, y1, y2, y3, y4, y5, y6, g0, g1, g2, g3, g4, g5, g6⟩ := hC3.f
                      have hC4 := CM.setf (z' := X (kk + j + 1)) hC3
                      refine wpAnyH_ready (rs := [7]) (by kernel_rfl) (by simp) ?_
                      refine AllReadyH.cons (o := _) rfl (fun K hK => ?_) AllReadyH.nil
                      go_simp
                      refine hK.out _ _ (⟨hC4.t.x0, hC4.t.x1⟩) (fun hHeld => ?_)
                      clear hK K
                      try simp only [Act.put, List.setIfInBounds_toArray, List.set_cons_zero, List.set_cons_succ]
                      try simp only [List.getElem_toArray, List.getElem_cons_succ, List.getElem_cons_zero]
                      refine wpAnyH_done (by kernel_rfl) ?_ _
                      refine NoPanic.normal ?_
                      clear y0 y1 y2 y3 y4 y5 y6 g0 g1 g2 g3 g4 g5 g6 hC1 hC2 hC3 hC
                      go_wp2
                      go_roundw
                      case rel => first | exact ⟨j + 1, by omega, by go_num, hC4⟩ | ((repeat apply Exists.intro); exact ⟨⟨j + 1, by omega, rfl, hC4⟩, rfl⟩)
                      case measure => simp [intOf]; omega
                    refine AllReadyH.cons (o := _) rfl (fun K hK => ?_) AllReadyH.nil
                    go_simp
                    refine hK.out _ _ (⟨hC.drew.t.x0, hC.drew.t.x1⟩) (fun hHeld => ?_)
                    clear hK K
                    try simp only [Act.put, List.setIfInBounds_toArray, List.set_cons_zero, List.set_cons_succ]
                    refine wpAnyH_ready (rs := [2]) (by kernel_rfl) (by simp) ?_
                    refine AllReadyH.cons (o := _) rfl (fun K hK => ?_) AllReadyH.nil
                    go_simp
                    go_at_call 82
                    with_reducible refine (hdo j _).mono ?_
                    rintro e w4 ⟨rfl, hb4⟩
                    have hC1 := hC.drew.below hb4
                    refine hK.out _ _ (⟨hC1.t.x0, hC1.t.x1⟩) (fun hHeld => ?_)
                    clear hK K
                    try simp only [Act.put, List.setIfInBounds_toArray, List.set_cons_zero, List.set_cons_succ]
                    refine wpAnyH_ready (rs := [5]) (by kernel_rfl) (by simp) ?_
                    refine AllReadyH.cons (o := _) rfl (fun K hK => ?_) AllReadyH.nil
                    go_simp
                    go_at_call 82
                    with_reducible refine (hdo (kk + j) _).mono ?_
                    rintro e w5 ⟨rfl, hb5⟩
                    have hC2 := hC1.below hb5
                    clear t0 t1 m0 m1 x0 x1 x2 x3 x4 x5 x6 f0 f1 f2 f3 f4 f5 f6 y0 y1 y2 y3 y4 y5 y6 g0 g1 g2 g3 g4 g5 g6
                    obtain ⟨x0, x1, x2, x3, x4, x5, x6, f0, f1, f2, f3, f4, f5, f6⟩ := hC2.s
                    refine hK.out _ _ (⟨hC2.t.x0, hC2.t.x1⟩) (fun hHeld => ?_)
                    clear hK K
                    try simp only [Act.put, List.setIfInBounds_toArray, List.set_cons_zero, List.set_cons_succ]
                    have hC3 := CM.sets (z' := X (j + 1)) hC2
                    refine wpAnyH_ready (rs := [6]) (by kernel_rfl) (by simp) ?_
                    refine AllReadyH.cons (o := _) rfl (fun K hK => ?_) AllReadyH.nil
                    go_simp
                    refine hK.out _ _ (⟨hC3.t.x0, hC3.t.x1⟩) (fun hHeld => ?_)
                    clear hK K
                    try simp only [Act.put, List.setIfInBounds_toArray, List.set_cons_zero, List.set_cons_succ]
                    clear x0 x1 x2 x3 x4 x5 x6 f0 f1 f2 f3 f4 f5 f6
                    obtain ⟨y0, y1, y2, y3, y4, y5, y6, g0, g1, g2, g3, g4, g5, g6⟩ := hC3.f
                    have hC4 := CM.setf (z' := X (kk + j + 1)) hC3
                    refine wpAnyH_ready (rs := [7]) (by kernel_rfl) (by simp) ?_
                    refine AllReadyH.cons (o := _) rfl (fun K hK => ?_) AllReadyH.nil
                    go_simp
                    refine hK.out _ _ (⟨hC4.t.x0, hC4.t.x1⟩) (fun hHeld => ?_)
                    clear hK K
                    try simp only [Act.put, List.setIfInBounds_toArray, List.set_cons_zero, List.set_cons_succ]
                    try simp only [List.getElem_toArray, List.getElem_cons_succ, List.getElem_cons_zero]
                    refine wpAnyH_done (by kernel_rfl) ?_ _
                    refine NoPanic.normal ?_
                    clear y0 y1 y2 y3 y4 y5 y6 g0 g1 g2 g3 g4 g5 g6 hC1 hC2 hC3 hC
                    go_wp2
                    go_roundw
                    case rel => first | exact ⟨j + 1, by omega, by go_num, hC4⟩ | ((repeat apply Exists.intro); exact ⟨⟨j + 1, by omega, rfl, hC4⟩, rfl⟩)
                    case measure => simp [intOf]; omega
                  refine AllReadyH.cons (o := _) rfl (fun K hK => ?_) AllReadyH.nil
                  go_simp
                  refine hK.out _ _ (⟨hC.drew.t.x0, hC.drew.t.x1⟩) (fun hHeld => ?_)
                  clear hK K
                  try simp only [Act.put, List.setIfInBounds_toArray, List.set_cons_zero, List.set_cons_succ]
                  refine wpAnyH_ready (rs := [1]) (by kernel_rfl) (by simp) ?_
                  refine AllReadyH.cons (o := _) rfl (fun K hK => ?_) AllReadyH.nil
                  go_simp
                  refine hK.out _ _ (⟨hC.drew.t.x0, hC.drew.t.x1⟩) (fun hHeld => ?_)
                  clear hK K
                  try simp only [Act.put, List.setIfInBounds_toArray, List.set_cons_zero, List.set_cons_succ]
                  refine wpAnyH_ready (rs := [2]) (by kernel_rfl) (by simp) ?_
                  refine AllReadyH.cons (o := _) rfl (fun K hK => ?_) AllReadyH.nil
                  go_simp
                  go_at_call 82
                  with_reducible refine (hdo j _).mono ?_
                  rintro e w4 ⟨rfl, hb4⟩
                  have hC1 := hC.drew.below hb4
                  refine hK.out _ _ (⟨hC1.t.x0, hC1.t.x1⟩) (fun hHeld => ?_)
                  clear hK K
                  try simp only [Act.put, List.setIfInBounds_toArray, List.set_cons_zero, List.set_cons_succ]
                  refine wpAnyH_ready (rs := [5]) (by kernel_rfl) (by simp) ?_
                  refine AllReadyH.cons (o := _) rfl (fun K hK => ?_) AllReadyH.nil
                  go_simp
                  go_at_call 82
                  with_reducible refine (hdo (kk + j) _).mono ?_
                  rintro e w5 ⟨rfl, hb5⟩
                  have hC2 := hC1.below hb5
                  clear t0 t1 m0 m1 x0 x1 x2 x3 x4 x5 x6 f0 f1 f2 f3 f4 f5 f6 y0 y1 y2 y3 y4 y5 y6 g0 g1 g2 g3 g4 g5 g6
                  obtain ⟨x0, x1, x2, x3, x4, x5, x6, f0, f1, f2, f3, f4, f5, f6⟩ := hC2.s
                  refine hK.out _ _ (⟨hC2.t.x0, hC2.t.x1⟩) (fun hHeld => ?_)
                  clear hK K
                  try simp only [Act.put, List.setIfInBounds_toArray, List.set_cons_zero, List.set_cons_succ]
                  have hC3 := CM.sets (z' := X (j + 1)) hC2
                  refine wpAnyH_ready (rs := [6]) (by kernel_rfl) (by simp) ?_
                  refine AllReadyH.cons (o := _) rfl (fun K hK => ?_) AllReadyH.nil
                  go_simp
                  refine hK.out _ _ (⟨hC3.t.x0, hC3.t.x1⟩) (fun hHeld => ?_)
                  clear hK K
                  try simp only [Act.put, List.setIfInBounds_toArray, List.set_cons_zero, List.set_cons_succ]
                  clear x0 x1 x2 x3 x4 x5 x6 f0 f1 f2 f3 f4 f5 f6
                  obtain ⟨y0, y1, y2, y3, y4, y5, y6, g0, g1, g2, g3, g4, g5, g6⟩ := hC3.f
                  have hC4 := CM.setf (z' := X (kk + j + 1)) hC3
                  refine wpAnyH_ready (rs := [7]) (by kernel_rfl) (by simp) ?_
                  refine AllReadyH.cons (o := _) rfl (fun K hK => ?_) AllReadyH.nil
                  go_simp
                  refine hK.out _ _ (⟨hC4.t.x0, hC4.t.x1⟩) (fun hHeld => ?_)
                  clear hK K
                  try simp only [Act.put, List.setIfInBounds_toArray, List.set_cons_zero, List.set_cons_succ]
                  try simp only [List.getElem_toArray, List.getElem_cons_succ, List.getElem_cons_zero]
                  refine wpAnyH_done (by kernel_rfl) ?_ _
                  refine NoPanic.normal ?_
                  clear y0 y1 y2 y3 y4 y5 y6 g0 g1 g2 g3 g4 g5 g6 hC1 hC2 hC3 hC
                  go_wp2
                  go_roundw
                  case rel => first | exact ⟨j + 1, by omega, by go_num, hC4⟩ | ((repeat apply Exists.intro); exact ⟨⟨j + 1, by omega, rfl, hC4⟩, rfl⟩)
                  case measure => simp [intOf]; omega
          · have hgk2 : 2 ≤ gk := by
              have hk := Hk.out
              refine Nat.lt_of_not_le fun hle => he ?_
              have : k + 1 = l * (t + 1) := by omega
              rw [this]
              refine (Ho.out.meets hK0).2 ⟨?_, ⟨t + 1, rfl⟩⟩
              have := Nat.mul_le_mul_right (t + 1) hl
              omega
            have hC3 := Lib.hid hC
            rw [show 2 * k + 2 = 2 * (k + 1) by omega] at hC
            have hcc2 : (X (k + 1)).1 ≠ (X (2 * (k + 1))).1 ∨ ((X (k + 1)).1 = (X (2 * (k + 1))).1 ∧ (X (k + 1)).2 ≠ (X (2 * (k + 1))).2) := by
              by_cases h1 : (X (k + 1)).1 = (X (2 * (k + 1))).1
              · exact .inr ⟨h1, fun h2 => he (Prod.ext h1 h2)⟩
              · exact .inl h1
            clear he t0 t1 m0 m1 x0 x1 x2 x3 x4 x5 x6 f0 f1 f2 f3 f4 f5 f6
            obtain ⟨x0, x1, x2, x3, x4, x5, x6, f0, f1, f2, f3, f4, f5, f6⟩ := hC.s
            obtain ⟨y0, y1, y2, y3, y4, y5, y6, g0, g1, g2, g3, g4, g5, g6⟩ := hC.f
            have Hc := Lib.hid hC
            clear hC
            rcases hcc2 with hn | ⟨he1, hn⟩
            all_goals
              go_wp2
              go_roundg (gk - 1)
              case measure => omega
              case rel => exact ⟨k + 1, by have := Hk.out; omega, by omega, Hc.out⟩

set_option maxRecDepth 10000 in
set_option maxHeartbeats 1000000 in
theorem rcycle_no (z a c : Pt) (p : Int) (w : World) (h : rrB z a c p = false) :
    Calls Try.prog 55 #[rotV z a c p] w fun e w' => e = .returned (.tuple #[.int .i64 0, .int .i64 0, .bool false]) ∧ Below w.heap.size w w' := by
  have hri := fun W => rright_any z a c p W
  rw [h] at hri
  go_enter Try.func55, Try.ntmps55
  go_upto_region 1 with fail
  refine wp_scope_straight ?_
  go_wp2_with (go_at_call 62; refine (hri _).mono ?_; rintro e w1 ⟨rfl, hb1⟩)
  simp only [Exit.noGoto]
  exact bodyPost_ret (v := .tuple #[.int .i64 0, .int .i64 0, .bool false]) (by simp [results, Try.results55, go_sem]) rfl ⟨rfl, below_trans (below_one _ _) hb1⟩
end Go.Proofs.Ytebhojbllhjkeaa
