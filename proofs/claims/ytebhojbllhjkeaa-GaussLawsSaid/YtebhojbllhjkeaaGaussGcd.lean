/- gauss.Gcd: what divides both divides it, and what divides it divides both; it is turned to where it belongs. The law's 'divides'. -/
import Derived.Test.YtebhojbllhjkeaaGaussArith
import Derived.Test.YtebhojbllhjkeaaGaussTurn
import Derived.Test.YtebhojbllhjkeaaLabels
namespace Go.Proofs.Ytebhojbllhjkeaa
open Go.RowKit
set_option linter.all false

abbrev numD (v : Bool) : Value := .bool v

set_option maxRecDepth 10000 in
set_option maxHeartbeats 1000000 in
theorem divides_some (a b c d q0 q1 r0 r1 : Int) (w : World) (h : a ≠ 0 ∨ b ≠ 0) (hd : ∀ W, Calls Try.prog 48 #[numV c d, numV a b] W fun e w' => e = .returned (.tuple #[numV q0 q1, numV r0 r1, .bool true]) ∧ Below W.heap.size W w') :
    Calls Try.prog 50 #[numV a b, numV c d] w fun e w' => e = .returned (.bool (decide (r0 = 0 ∧ r1 = 0))) ∧ Below w.heap.size w w' := by
  have hc : a ≠ 0 ∨ (a = 0 ∧ b ≠ 0) := by omega
  rcases hc with h | ⟨rfl, h⟩ <;>
  · go_enter Try.func50, Try.ntmps50
    go_wp2_with (go_at_call 48; refine (hd _).mono ?_; rintro e w1 ⟨rfl, hb1⟩)
    all_goals
      go_ret
      exact ⟨ret_bool (by simp [*]), below_trans ((below_two w _ _).trans (hb1.mono (by simp; omega))) (below_two _ _ _)⟩

open Classical in
set_option maxRecDepth 10000 in
set_option maxHeartbeats 1000000 in
theorem divides_any (a b c d : Int) (w : World) (h1 : rightB a b = true) (h2 : rightB c d = true) :
    Calls Try.prog 50 #[numV a b, numV c d] w fun e w' => e = .returned (.bool (decide (Dv a b c d))) ∧ Below w.heap.size w w' := by
  by_cases h : a = 0 ∧ b = 0
  · obtain ⟨rfl, rfl⟩ := h
    have hv : decide (Dv 0 0 c d) = decide (c = 0 ∧ d = 0) := by
      rw [decide_eq_decide]
      exact ⟨dv_of_zero, fun ⟨h, k⟩ => by rw [h, k]; exact Dv.zero _ _⟩
    rw [hv]
    clear hv h1 h2
    go_enter Try.func50, Try.ntmps50
    go_wp2
    all_goals
      go_ret
      exact ⟨ret_bool (by simp [*]), below_two _ _ _⟩
  · have h : a ≠ 0 ∨ b ≠ 0 := by omega
    have ho := div_ok h2 h1 h
    have he := div_exact ho
    have hd := fun W => div_any c d a b W
    rw [ho] at hd
    have hv : decide (Dv a b c d) = decide ((divR c d a b).1 = 0 ∧ (divR c d a b).2 = 0) := by
      rw [decide_eq_decide, ← he, Prod.ext_iff]
    rw [hv]
    exact divides_some a b c d _ _ _ _ w h hd

/-- Gcd's own memory -/
structure GB (w W : World) (a b c d : Int) : Prop where
  x0 : W.cell? ⟨w.heap.size, 0, none⟩ = some (.int .i64 a)
  x1 : W.cell? ⟨w.heap.size, 1, none⟩ = some (.int .i64 b)
  y0 : W.cell? ⟨w.heap.size + 1, 0, none⟩ = some (.int .i64 c)
  y1 : W.cell? ⟨w.heap.size + 1, 1, none⟩ = some (.int .i64 d)
  r0 : W.cell? ⟨w.heap.size + 2, 0, none⟩ = some (.int .i64 0)
  r1 : W.cell? ⟨w.heap.size + 2, 1, none⟩ = some (.int .i64 0)
  e0 : W.frozen? ⟨w.heap.size, 0, none⟩ = false
  e1 : W.frozen? ⟨w.heap.size, 1, none⟩ = false
  f0 : W.frozen? ⟨w.heap.size + 1, 0, none⟩ = false
  f1 : W.frozen? ⟨w.heap.size + 1, 1, none⟩ = false
  g0 : W.frozen? ⟨w.heap.size + 2, 0, none⟩ = false
  g1 : W.frozen? ⟨w.heap.size + 2, 1, none⟩ = false
  bel : Below w.heap.size w W
  sz : w.heap.size + 2 < W.heap.size
theorem GB.below {w W W' : World} {a b c d : Int} (h : GB w W a b c d) (hb : Below W.heap.size W W') : GB w W' a b c d := by
  have hs := h.sz
  have hc := fun i o (hi : i < W.heap.size) => hb.cell (p := ⟨i, o, none⟩) hi
  have hf := fun i o (hi : i < W.heap.size) => hb.frozen (p := ⟨i, o, none⟩) hi
  exact ⟨(hc _ _ (by omega)).trans h.x0, (hc _ _ (by omega)).trans h.x1, (hc _ _ (by omega)).trans h.y0, (hc _ _ (by omega)).trans h.y1, (hc _ _ (by omega)).trans h.r0, (hc _ _ (by omega)).trans h.r1,
    (hf _ _ (by omega)).trans h.e0, (hf _ _ (by omega)).trans h.e1, (hf _ _ (by omega)).trans h.f0, (hf _ _ (by omega)).trans h.f1, (hf _ _ (by omega)).trans h.g0, (hf _ _ (by omega)).trans h.g1, below_trans h.bel hb, Nat.lt_of_lt_of_le hs hb.size⟩
theorem GB.new (w : World) (a b c d : Int) (t : TypeId) : GB w (((w.alloc (.cells #[.int .i64 a, .int .i64 b] t)).alloc (.cells #[.int .i64 c, .int .i64 d] t)).alloc (.cells #[.int .i64 0, .int .i64 0] t)) a b c d := by
  constructor
  case bel => exact below_three _ _ _ _
  all_goals (simp [go_sem]; done)
theorem GB.setx {w W : World} {a b c d u v : Int} (h : GB w W a b c d) : GB w ((W.setCell ⟨w.heap.size, 0, none⟩ (.int .i64 u)).setCell ⟨w.heap.size, 1, none⟩ (.int .i64 v)) u v c d := by
  have e : ∀ i o, i ≠ w.heap.size → ((W.setCell ⟨w.heap.size, 0, none⟩ (.int .i64 u)).setCell ⟨w.heap.size, 1, none⟩ (.int .i64 v)).cell? ⟨i, o, none⟩ = W.cell? ⟨i, o, none⟩ := fun i o hi =>
    (set_far (by show w.heap.size ≠ i; omega)).trans (set_far (by show w.heap.size ≠ i; omega))
  exact ⟨(set_other (by decide)).trans (set_same h.x0), set_same ((set_other (by decide)).trans h.x1), (e _ _ (by omega)).trans h.y0, (e _ _ (by omega)).trans h.y1, (e _ _ (by omega)).trans h.r0, (e _ _ (by omega)).trans h.r1,
    by rw [set_frozen, set_frozen]; exact h.e0, by rw [set_frozen, set_frozen]; exact h.e1, by rw [set_frozen, set_frozen]; exact h.f0, by rw [set_frozen, set_frozen]; exact h.f1, by rw [set_frozen, set_frozen]; exact h.g0, by rw [set_frozen, set_frozen]; exact h.g1,
    (h.bel.setCell (Nat.le_refl _) _).setCell (Nat.le_refl _) _, by simpa [World.setCell] using h.sz⟩
theorem GB.sety {w W : World} {a b c d u v : Int} (h : GB w W a b c d) : GB w ((W.setCell ⟨w.heap.size + 1, 0, none⟩ (.int .i64 u)).setCell ⟨w.heap.size + 1, 1, none⟩ (.int .i64 v)) a b u v := by
  have e : ∀ i o, i ≠ w.heap.size + 1 → ((W.setCell ⟨w.heap.size + 1, 0, none⟩ (.int .i64 u)).setCell ⟨w.heap.size + 1, 1, none⟩ (.int .i64 v)).cell? ⟨i, o, none⟩ = W.cell? ⟨i, o, none⟩ := fun i o hi =>
    (set_far (by show w.heap.size + 1 ≠ i; omega)).trans (set_far (by show w.heap.size + 1 ≠ i; omega))
  exact ⟨(e _ _ (by omega)).trans h.x0, (e _ _ (by omega)).trans h.x1, (set_other (by decide)).trans (set_same h.y0), set_same ((set_other (by decide)).trans h.y1), (e _ _ (by omega)).trans h.r0, (e _ _ (by omega)).trans h.r1,
    by rw [set_frozen, set_frozen]; exact h.e0, by rw [set_frozen, set_frozen]; exact h.e1, by rw [set_frozen, set_frozen]; exact h.f0, by rw [set_frozen, set_frozen]; exact h.f1, by rw [set_frozen, set_frozen]; exact h.g0, by rw [set_frozen, set_frozen]; exact h.g1,
    (h.bel.setCell (by show w.heap.size ≤ w.heap.size + 1; omega) _).setCell (by show w.heap.size ≤ w.heap.size + 1; omega) _, by simpa [World.setCell] using h.sz⟩

theorem GB.drew {w W : World} {a b c d : Int} (h : GB w W a b c d) : GB w W.drew a b c d := h.below (Below.refl _ _).drew

/-- what holds at 'rest' -/
def GcdJ0 (a b c d : Int) (w : World) (a' : Act) (W : World) : Prop :=
  ∃ (p q r s : Int) (u6 u7 u8 u9 u10 u11 u12 u13 u14 u15 u16 u17 u18 u19 u20 u21 u22 u23 u24 u25 u26 u27 u28 u29 u30 u31 u32 u33 u34 u35 u36 u37 u38 u39 u40 u41 u42 u43 u44 u45 u46 u47 u48 : Value), a' = { tmps := #[numV a b, numV c d, .pointer (some ⟨w.heap.size, 0, none⟩), .pointer (some ⟨w.heap.size + 1, 0, none⟩), .pointer (some ⟨w.heap.size + 1 + 1, 0, none⟩), .bool false, u6, u7, u8, u9, u10, u11, u12, u13, u14, u15, u16, u17, u18, u19, u20, u21, u22, u23, u24, u25, u26, u27, u28, u29, u30, u31, u32, u33, u34, u35, u36, u37, u38, u39, u40, u41, u42, u43, u44, u45, u46, u47, u48], defers := [] } ∧
    GB w W p q r s ∧ rightB p q = true ∧ rightB r s = true ∧ (∀ u v, (Dv u v p q ∧ Dv u v r s) ↔ (Dv u v a b ∧ Dv u v c d))
/-- and at 'turn' -/
def GcdJ1 (a b c d : Int) (w : World) (a' : Act) (W : World) : Prop :=
  ∃ (p q r s : Int) (u6 u7 u8 u9 u10 u11 u12 u13 u14 u15 u16 u17 u18 u19 u20 u21 u22 u23 u24 u25 u26 u27 u28 u29 u30 u31 u32 u33 u34 u35 u36 u37 u38 u39 u40 u41 u42 u43 u44 u45 u46 u47 u48 : Value), a' = { tmps := #[numV a b, numV c d, .pointer (some ⟨w.heap.size, 0, none⟩), .pointer (some ⟨w.heap.size + 1, 0, none⟩), .pointer (some ⟨w.heap.size + 1 + 1, 0, none⟩), .bool false, u6, u7, u8, u9, u10, u11, u12, u13, u14, u15, u16, u17, u18, u19, u20, u21, u22, u23, u24, u25, u26, u27, u28, u29, u30, u31, u32, u33, u34, u35, u36, u37, u38, u39, u40, u41, u42, u43, u44, u45, u46, u47, u48], defers := [] } ∧
    GB w W p q r s ∧ rightB p q = true ∧ (∀ u v, Dv u v p q ↔ (Dv u v a b ∧ Dv u v c d))
def GcdM0 (w : World) (_ : Act) (W : World) : Nat :=
  ((intOf ((W.cell? ⟨w.heap.size + 1, 0, none⟩).getD undef)) * (intOf ((W.cell? ⟨w.heap.size + 1, 0, none⟩).getD undef)) + (intOf ((W.cell? ⟨w.heap.size + 1, 1, none⟩).getD undef)) * (intOf ((W.cell? ⟨w.heap.size + 1, 1, none⟩).getD undef))).toNat + 4
def GcdM1 (w : World) (_ : Act) (W : World) : Nat := quad (intOf ((W.cell? ⟨w.heap.size, 0, none⟩).getD undef)) (intOf ((W.cell? ⟨w.heap.size, 1, none⟩).getD undef))
theorem GcdM0.is {w W : World} {a : Act} {p q r s : Int} (h : GB w W p q r s) : GcdM0 w a W = (r * r + s * s).toNat + 4 := by
  unfold GcdM0
  rw [h.y0, h.y1]
  rfl
theorem GcdM1.is {w W : World} {a : Act} {p q r s : Int} (h : GB w W p q r s) : GcdM1 w a W = quad p q := by
  unfold GcdM1
  rw [h.x0, h.x1]
  rfl
theorem quad_lt (a b : Int) : quad a b < 4 := by
  unfold quad
  grind

set_option maxRecDepth 10000 in
set_option maxHeartbeats 2000000 in
theorem gcd_yes (a b c d : Int) (w : World) (h1 : rightB a b = true) (h2 : rightB c d = true) :
    Calls Try.prog 49 #[numV a b, numV c d] w fun e w' => (∃ g0 g1, e = .returned (.tuple #[numV g0 g1, .bool true]) ∧ rightB g0 g1 = true ∧ (∀ u v, Dv u v g0 g1 ↔ Dv u v a b ∧ Dv u v c d) ∧ ((g0 = 0 ∧ g1 = 0) ∨ (0 < g0 ∧ 0 ≤ g1))) ∧ Below w.heap.size w w' := by
  have St0 := Lib.hid (GB.new w a b c d 50)
  go_enter Try.func49, Try.ntmps49
  go_upto_region 1 with fail
  refine wp_scope_two 0 1 (by decide) (GcdJ0 a b c d w) (GcdJ1 a b c d w) (GcdM0 w) (GcdM1 w) rfl rfl ?_ ?_ ?_
  · go_wp2_with (first
      | (go_at_call 46; with_reducible refine (right_any a b _).mono ?_; rintro e w1 ⟨rfl, hb1⟩; rw [h1]; have st1 := St0.out.below hb1; have hy0 := st1.y0; have hy1 := st1.y1)
      | (go_at_call 46; with_reducible refine (right_any c d _).mono ?_; rintro e w2 ⟨rfl, hb2⟩; rw [h2]; have st2 := st1.below hb2; clear st1 hb1 hy0 hy1))
    exact ⟨a, b, c, d, _, _, _, _, _, _, _, _, _, _, _, _, _, _, _, _, _, _, _, _, _, _, _, _, _, _, _, _, _, _, _, _, _, _, _, _, _, _, _, _, _, _, _, rfl, st2, h1, h2, fun u v => Iff.rfl⟩
  · rintro a' W ⟨p, q, r, s, u6, u7, u8, u9, u10, u11, u12, u13, u14, u15, u16, u17, u18, u19, u20, u21, u22, u23, u24, u25, u26, u27, u28, u29, u30, u31, u32, u33, u34, u35, u36, u37, u38, u39, u40, u41, u42, u43, u44, u45, u46, u47, u48, rfl, hG, hp, hr, hd⟩
    have hm := GcdM0.is (a := { tmps := #[numV a b, numV c d, .pointer (some ⟨w.heap.size, 0, none⟩), .pointer (some ⟨w.heap.size + 1, 0, none⟩), .pointer (some ⟨w.heap.size + 1 + 1, 0, none⟩), .bool false, u6, u7, u8, u9, u10, u11, u12, u13, u14, u15, u16, u17, u18, u19, u20, u21, u22, u23, u24, u25, u26, u27, u28, u29, u30, u31, u32, u33, u34, u35, u36, u37, u38, u39, u40, u41, u42, u43, u44, u45, u46, u47, u48], defers := [] }) hG
    rw [hm]
    clear hm St0
    by_cases hz : r = 0 ∧ s = 0
    · obtain ⟨rfl, rfl⟩ := hz
      have hx0 := hG.x0
      have hx1 := hG.x1
      have hy0 := hG.y0
      have hy1 := hG.y1
      go_wp2
      refine ⟨⟨p, q, 0, 0, _, _, _, _, _, _, _, _, _, _, _, _, _, _, _, _, _, _, _, _, _, _, _, _, _, _, _, _, _, _, _, _, _, _, _, _, _, _, _, _, _, _, _, rfl, hG, hp, fun u v => ⟨fun h => (hd u v).1 ⟨h, Dv.zero _ _⟩, fun h => ((hd u v).2 h).1⟩⟩, ?_⟩
      rw [GcdM1.is hG]
      have := quad_lt p q
      omega
    · have hz : r ≠ 0 ∨ s ≠ 0 := by omega
      have ho := div_ok hp hr hz
      have hdiv := fun W => div_any p q r s W
      rw [ho] at hdiv
      have hdiv : ∀ W, Calls Try.prog 48 #[numV p q, numV r s] W fun e' w' => e' = .returned (.tuple #[numV (divQ p q r s).1 (divQ p q r s).2, numV (divR p q r s).1 (divR p q r s).2, .bool true]) ∧ Below W.heap.size W w' := hdiv
      have hsm := div_small ho
      have hri := div_right ho
      have hdv : ∀ u v, (Dv u v r s ∧ Dv u v (divR p q r s).1 (divR p q r s).2) ↔ (Dv u v p q ∧ Dv u v r s) := fun u v =>
        ⟨fun h => ⟨Dv.lin_back _ _ h.2 h.1, h.1⟩, fun h => ⟨h.2, Dv.lin _ _ h.1 h.2⟩⟩
      have hup := norm_up hz
      generalize (divR p q r s).1 = t0 at *
      generalize (divR p q r s).2 = t1 at *
      generalize (divQ p q r s).1 = o0 at *
      generalize (divQ p q r s).2 = o1 at *
      have hj : ∀ u v, (Dv u v r s ∧ Dv u v t0 t1) ↔ (Dv u v a b ∧ Dv u v c d) := fun u v => (hdv u v).trans (hd u v)
      have Hj := Lib.hid hj
      have Hlt := Lib.hid (show (t0 * t0 + t1 * t1).toNat + 4 < (r * r + s * s).toNat + 4 by
        have := sq_pos t0
        have := sq_pos t1
        omega)
      clear hj hdv hd hup hsm ho
      have hx0 := hG.x0
      have hx1 := hG.x1
      have hy0 := hG.y0
      have hy1 := hG.y1
      have hc : r ≠ 0 ∨ (r = 0 ∧ s ≠ 0) := by omega
      rcases hc with hc | ⟨h0, hc⟩
      · go_wp2_with (go_at_call 48; refine (hdiv _).mono ?_; rintro e w1 ⟨rfl, hb1⟩)
        have st1 := hG.below hb1
        refine wp_gen (fun W => GB w W p q r s ∧ w.heap.size + 2 < w1.heap.size + 1 ∧ W.cell? ⟨w1.heap.size + 1, 0, none⟩ = some (.int .i64 t0) ∧ W.cell? ⟨w1.heap.size + 1, 1, none⟩ = some (.int .i64 t1)) ⟨(st1.below (below_one _ _)).below (below_one _ _), by have := st1.sz; omega, World.cell?_alloc_at _ _ _ _ (by simp), World.cell?_alloc_at _ _ _ _ (by simp)⟩ ?_
        clear hx0 hx1 hy0 hy1 hb1 st1 hG hdiv
        rintro W2 ⟨hG, hD, ht0, ht1⟩
        generalize w1.heap.size + 1 = D at *
        have hx0 := hG.x0
        have hx1 := hG.x1
        have hy0 := hG.y0
        have hy1 := hG.y1
        have he0 := hG.e0
        have he1 := hG.e1
        have hf0 := hG.f0
        have hf1 := hG.f1
        go_region
        all_goals
          have hG2 := fun u v u' v' => ((hG.setx (u := u) (v := v)).sety (u := u') (v := v')).drew
          have hG3 := Lib.hid hG2
          clear hG2 hG hx0 hx1 hy0 hy1 he0 he1 hf0 hf1 ht0 ht1 hdiv
          go_wp2
          go_step3
          refine ⟨rfl, ⟨_, _, _, _, _, _, _, _, _, _, _, _, _, _, _, _, _, _, _, _, _, _, _, _, _, _, _, _, _, _, _, _, _, _, _, _, _, _, _, _, _, _, _, _, _, _, _, rfl, hG3.out _ _ _ _, hr, hri, Hj.out⟩, ?_⟩
          rw [GcdM0.is (hG3.out _ _ _ _)]
          exact Hlt.out
      · subst h0
        go_wp2_with (go_at_call 48; refine (hdiv _).mono ?_; rintro e w1 ⟨rfl, hb1⟩)
        have st1 := hG.below hb1
        refine wp_gen (fun W => GB w W p q 0 s ∧ w.heap.size + 2 < w1.heap.size + 1 ∧ W.cell? ⟨w1.heap.size + 1, 0, none⟩ = some (.int .i64 t0) ∧ W.cell? ⟨w1.heap.size + 1, 1, none⟩ = some (.int .i64 t1)) ⟨(st1.below (below_one _ _)).below (below_one _ _), by have := st1.sz; omega, World.cell?_alloc_at _ _ _ _ (by simp), World.cell?_alloc_at _ _ _ _ (by simp)⟩ ?_
        clear hx0 hx1 hy0 hy1 hb1 st1 hG hdiv
        rintro W2 ⟨hG, hD, ht0, ht1⟩
        generalize w1.heap.size + 1 = D at *
        have hx0 := hG.x0
        have hx1 := hG.x1
        have hy0 := hG.y0
        have hy1 := hG.y1
        have he0 := hG.e0
        have he1 := hG.e1
        have hf0 := hG.f0
        have hf1 := hG.f1
        go_region
        all_goals
          have hG2 := fun u v u' v' => ((hG.setx (u := u) (v := v)).sety (u := u') (v := v')).drew
          have hG3 := Lib.hid hG2
          clear hG2 hG hx0 hx1 hy0 hy1 he0 he1 hf0 hf1 ht0 ht1 hdiv
          go_wp2
          go_step3
          refine ⟨rfl, ⟨_, _, _, _, _, _, _, _, _, _, _, _, _, _, _, _, _, _, _, _, _, _, _, _, _, _, _, _, _, _, _, _, _, _, _, _, _, _, _, _, _, _, _, _, _, _, _, rfl, hG3.out _ _ _ _, hr, hri, Hj.out⟩, ?_⟩
          rw [GcdM0.is (hG3.out _ _ _ _)]
          exact Hlt.out
  · rintro a' W ⟨p, q, r, s, u6, u7, u8, u9, u10, u11, u12, u13, u14, u15, u16, u17, u18, u19, u20, u21, u22, u23, u24, u25, u26, u27, u28, u29, u30, u31, u32, u33, u34, u35, u36, u37, u38, u39, u40, u41, u42, u43, u44, u45, u46, u47, u48, rfl, hG, hp, hd⟩
    have hm := GcdM1.is (a := { tmps := #[numV a b, numV c d, .pointer (some ⟨w.heap.size, 0, none⟩), .pointer (some ⟨w.heap.size + 1, 0, none⟩), .pointer (some ⟨w.heap.size + 1 + 1, 0, none⟩), .bool false, u6, u7, u8, u9, u10, u11, u12, u13, u14, u15, u16, u17, u18, u19, u20, u21, u22, u23, u24, u25, u26, u27, u28, u29, u30, u31, u32, u33, u34, u35, u36, u37, u38, u39, u40, u41, u42, u43, u44, u45, u46, u47, u48], defers := [] }) hG
    rw [hm]
    clear hm St0
    have Hd := Lib.hid hd
    clear hd
    have hx0 := hG.x0
    have hx1 := hG.x1
    have hr0 := hG.r0
    have hr1 := hG.r1
    have hg0 := hG.g0
    have hg1 := hG.g1
    have hfin : ∀ (W' : World), Below w.heap.size w (((W.setCell ⟨w.heap.size + 2, 0, none⟩ (.int .i64 p)).setCell ⟨w.heap.size + 2, 1, none⟩ (.int .i64 q))) := fun _ => (hG.bel.setCell (by show w.heap.size ≤ w.heap.size + 2; omega) _).setCell (by show w.heap.size ≤ w.heap.size + 2; omega) _
    have Hfin := Lib.hid (hfin w)
    clear hfin
    have hcases : (p = 0 ∧ q = 0) ∨ (0 < p ∧ 0 ≤ q) ∨ ((p ≠ 0 ∨ q ≠ 0) ∧ (p ≤ 0 ∨ q < 0)) := by omega
    rcases hcases with ⟨rfl, rfl⟩ | ⟨c1, c2⟩ | ⟨c1, c2⟩
    · clear hG
      go_wp2
      simp only [Exit.jump]
      exact bodyPost_ret (v := .tuple #[numV 0 0, .bool true]) (by simp [results, Try.results49, go_sem, hr0, hr1]) rfl ⟨⟨0, 0, rfl, hp, Hd.out, .inl ⟨rfl, rfl⟩⟩, Hfin.out⟩
    · have c3 : p ≠ 0 := by omega
      clear hG
      go_wp2
      simp only [Exit.jump]
      exact bodyPost_ret (v := .tuple #[numV p q, .bool true]) (by simp [results, Try.results49, go_sem, hr0, hr1]) rfl ⟨⟨p, q, rfl, hp, Hd.out, .inr ⟨c1, c2⟩⟩, Hfin.out⟩
    · have ht : ∀ W, Calls Try.prog 37 #[numV p q, .int .i64 1] W fun e w' => e = .returned (.tuple #[numV (-q) p, .bool true]) ∧ Below W.heap.size W w' := fun W => by
        have h := turn_any p q 1 W
        rw [hp] at h
        exact h
      have Hq := Lib.hid (quad_turn c1 c2)
      have Hr := Lib.hid (show rightB (-q) p = true by rw [(right_neg q p).1, (right_neg p q).2.2]; exact hp)
      have Hj := Lib.hid (show ∀ u v, Dv u v (-q) p ↔ (Dv u v a b ∧ Dv u v c d) from fun u v => Dv.turn.trans (Hd.out u v))
      have hcc : (p < 0) ∨ (p = 0 ∧ q ≠ 0) ∨ (0 < p ∧ q < 0) := by omega
      clear c1 c2
      have he0 := hG.e0
      have he1 := hG.e1
      rcases hcc with c1 | ⟨rfl, c1⟩ | ⟨c1, c2⟩
      · have c2 : p ≠ 0 := by omega
        have c3 : p ≤ 0 := by omega
        go_wp2_with (go_at_call 37; refine (ht _).mono ?_; rintro e w1 ⟨rfl, hb1⟩; have st1 := hG.below hb1; have gx0 := st1.x0; have gx1 := st1.x1; have ge0 := st1.e0; have ge1 := st1.e1)
        have st2 := Lib.hid (fun u v => st1.setx (u := u) (v := v))
        clear st1 hb1 gx0 gx1 ge0 ge1 ht
        go_wp2
        go_step3
        refine ⟨rfl, ⟨_, _, _, _, _, _, _, _, _, _, _, _, _, _, _, _, _, _, _, _, _, _, _, _, _, _, _, _, _, _, _, _, _, _, _, _, _, _, _, _, _, _, _, _, _, _, _, rfl, st2.out _ _, Hr.out, Hj.out⟩, ?_⟩
        rw [GcdM1.is (st2.out _ _)]
        exact Hq.out
      · go_wp2_with (go_at_call 37; refine (ht _).mono ?_; rintro e w1 ⟨rfl, hb1⟩; have st1 := hG.below hb1; have gx0 := st1.x0; have gx1 := st1.x1; have ge0 := st1.e0; have ge1 := st1.e1)
        have st2 := Lib.hid (fun u v => st1.setx (u := u) (v := v))
        clear st1 hb1 gx0 gx1 ge0 ge1 ht
        go_wp2
        go_step3
        refine ⟨rfl, ⟨_, _, _, _, _, _, _, _, _, _, _, _, _, _, _, _, _, _, _, _, _, _, _, _, _, _, _, _, _, _, _, _, _, _, _, _, _, _, _, _, _, _, _, _, _, _, _, rfl, st2.out _ _, Hr.out, Hj.out⟩, ?_⟩
        rw [GcdM1.is (st2.out _ _)]
        exact Hq.out
      · have c3 : p ≠ 0 := by omega
        have c4 : ¬ p ≤ 0 := by omega
        go_wp2_with (go_at_call 37; refine (ht _).mono ?_; rintro e w1 ⟨rfl, hb1⟩; have st1 := hG.below hb1; have gx0 := st1.x0; have gx1 := st1.x1; have ge0 := st1.e0; have ge1 := st1.e1)
        have st2 := Lib.hid (fun u v => st1.setx (u := u) (v := v))
        clear st1 hb1 gx0 gx1 ge0 ge1 ht
        go_wp2
        go_step3
        refine ⟨rfl, ⟨_, _, _, _, _, _, _, _, _, _, _, _, _, _, _, _, _, _, _, _, _, _, _, _, _, _, _, _, _, _, _, _, _, _, _, _, _, _, _, _, _, _, _, _, _, _, _, rfl, st2.out _ _, Hr.out, Hj.out⟩, ?_⟩
        rw [GcdM1.is (st2.out _ _)]
        exact Hq.out

set_option maxRecDepth 10000 in
set_option maxHeartbeats 2000000 in
theorem gcd_no (a b c d : Int) (w : World) (h : rightB a b = false ∨ (rightB a b = true ∧ rightB c d = false)) :
    Calls Try.prog 49 #[numV a b, numV c d] w fun e w' => e = .returned (.tuple #[numV 0 0, .bool false]) ∧ Below w.heap.size w w' := by
  have St0 := Lib.hid (GB.new w a b c d 50)
  rcases h with h1 | ⟨h1, h2⟩
  · go_enter Try.func49, Try.ntmps49
    go_upto_region 1 with fail
    refine wp_scope_two 0 1 (by decide) (fun _ _ => False) (fun _ _ => False) (fun _ _ => 0) (fun _ _ => 0) rfl rfl ?_ (fun a w h => h.elim) (fun a w h => h.elim)
    go_wp2_with (go_at_call 46; with_reducible refine (right_any a b _).mono ?_; rintro e w1 ⟨rfl, hb1⟩; rw [h1]; obtain ⟨hx0, hx1, hy0, hy1, hr0, hr1, he0, he1, hf0, hf1, hg0, hg1, hbel, hsz⟩ := St0.out.below hb1)
    simp only [Exit.jump, Exit.then]
    exact bodyPost_ret (v := .tuple #[numV 0 0, .bool false]) (by simp [results, Try.results49, go_sem, hr0, hr1]) rfl ⟨rfl, ((hbel).setCell (by show w.heap.size ≤ w.heap.size + 2; omega) _).setCell (by show w.heap.size ≤ w.heap.size + 2; omega) _⟩
  · go_enter Try.func49, Try.ntmps49
    go_upto_region 1 with fail
    refine wp_scope_two 0 1 (by decide) (fun _ _ => False) (fun _ _ => False) (fun _ _ => 0) (fun _ _ => 0) rfl rfl ?_ (fun a w h => h.elim) (fun a w h => h.elim)
    go_wp2_with (first
      | (go_at_call 46; with_reducible refine (right_any a b _).mono ?_; rintro e w1 ⟨rfl, hb1⟩; rw [h1]; have st1 := St0.out.below hb1; have hy0 := st1.y0; have hy1 := st1.y1)
      | (go_at_call 46; with_reducible refine (right_any c d _).mono ?_; rintro e w2 ⟨rfl, hb2⟩; rw [h2]; have st2 := st1.below hb2; clear st1 hb1 hy0 hy1; obtain ⟨hx0, hx1, hy0, hy1, hr0, hr1, he0, he1, hf0, hf1, hg0, hg1, hbel, hsz⟩ := st2))
    simp only [Exit.jump, Exit.then]
    exact bodyPost_ret (v := .tuple #[numV 0 0, .bool false]) (by simp [results, Try.results49, go_sem, hr0, hr1]) rfl ⟨rfl, ((hbel).setCell (by show w.heap.size ≤ w.heap.size + 2; omega) _).setCell (by show w.heap.size ≤ w.heap.size + 2; omega) _⟩

theorem divides_is (a b c d : Int) (w : World) (h1 : rightB a b = true) (h2 : rightB c d = true) (h : Dv a b c d) :
    Calls Try.prog 50 #[numV a b, numV c d] w fun e w' => e = .returned (.bool true) ∧ Below w.heap.size w w' :=
  (divides_any a b c d w h1 h2).mono fun e w' ⟨he, hw⟩ => ⟨by simp [he, h], hw⟩
theorem divides_not (a b c d : Int) (w : World) (h1 : rightB a b = true) (h2 : rightB c d = true) (h : ¬ Dv a b c d) :
    Calls Try.prog 50 #[numV a b, numV c d] w fun e w' => e = .returned (.bool false) ∧ Below w.heap.size w w' :=
  (divides_any a b c d w h1 h2).mono fun e w' ⟨he, hw⟩ => ⟨by simp [he, h], hw⟩
end Go.Proofs.Ytebhojbllhjkeaa
