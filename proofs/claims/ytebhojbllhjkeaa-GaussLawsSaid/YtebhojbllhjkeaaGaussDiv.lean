/- gauss.Div: for any two numbers, the quotient and the rest, or none. -/
import Derived.Test.YtebhojbllhjkeaaGaussOps
import Derived.Test.YtebhojbllhjkeaaGaussNear
namespace Go.Proofs.Ytebhojbllhjkeaa
open Go.RowKit
set_option linter.all false

/-- the bits of a whole number -/
def fb (n : Int) : Nat := floatOfInt .f64 n
theorem fb_fl (n : Int) (h : n.natAbs < 9007199254740992) : Fl (fb n) n := fl_ofInt n h

set_option maxHeartbeats 400000 in
theorem of_fb (a b : Int) (w : World) :
    Calls Try.prog 79 #[numV a b] w fun e w' => e = .returned (.complex .f64 (fb a) (fb b)) ∧ Below w.heap.size w w' := by
  go_enter Try.func79, Try.ntmps79
  go_wp2
  go_ret
  exact ⟨rfl, below_one _ _⟩

/-- Div's own memory -/
structure DB (w W : World) (a b c d e q0 q1 : Int) (D : Nat) : Prop where
  x0 : W.cell? ⟨w.heap.size, 0, none⟩ = some (.int .i64 a)
  x1 : W.cell? ⟨w.heap.size, 1, none⟩ = some (.int .i64 b)
  y0 : W.cell? ⟨w.heap.size + 1, 0, none⟩ = some (.int .i64 c)
  y1 : W.cell? ⟨w.heap.size + 1, 1, none⟩ = some (.int .i64 d)
  q0 : W.cell? ⟨w.heap.size + 2, 0, none⟩ = some (.int .i64 q0)
  q1 : W.cell? ⟨w.heap.size + 2, 1, none⟩ = some (.int .i64 q1)
  r0 : W.cell? ⟨w.heap.size + 3, 0, none⟩ = some (.int .i64 0)
  r1 : W.cell? ⟨w.heap.size + 3, 1, none⟩ = some (.int .i64 0)
  k : W.cell? ⟨D, 0, none⟩ = some (.int .i64 e)
  f0 : W.frozen? ⟨w.heap.size + 2, 0, none⟩ = false
  f1 : W.frozen? ⟨w.heap.size + 2, 1, none⟩ = false
  g0 : W.frozen? ⟨w.heap.size + 3, 0, none⟩ = false
  g1 : W.frozen? ⟨w.heap.size + 3, 1, none⟩ = false
  bel : Below w.heap.size w W
  far : w.heap.size + 3 < D
  sz : D < W.heap.size
theorem DB.below {w W W' : World} {a b c d e q0 q1 : Int} {D : Nat} (h : DB w W a b c d e q0 q1 D) (hb : Below W.heap.size W W') : DB w W' a b c d e q0 q1 D := by
  have hs := h.sz
  have hd := h.far
  have hc := fun i o (hi : i < W.heap.size) => hb.cell (p := ⟨i, o, none⟩) hi
  have hf := fun i o (hi : i < W.heap.size) => hb.frozen (p := ⟨i, o, none⟩) hi
  exact ⟨(hc _ _ (by omega)).trans h.x0, (hc _ _ (by omega)).trans h.x1, (hc _ _ (by omega)).trans h.y0, (hc _ _ (by omega)).trans h.y1, (hc _ _ (by omega)).trans h.q0, (hc _ _ (by omega)).trans h.q1,
    (hc _ _ (by omega)).trans h.r0, (hc _ _ (by omega)).trans h.r1, (hc _ _ (by omega)).trans h.k,
    (hf _ _ (by omega)).trans h.f0, (hf _ _ (by omega)).trans h.f1, (hf _ _ (by omega)).trans h.g0, (hf _ _ (by omega)).trans h.g1, below_trans h.bel hb, hd, Nat.lt_of_lt_of_le hs hb.size⟩
theorem DB.drew {w W : World} {a b c d e q0 q1 : Int} {D : Nat} (h : DB w W a b c d e q0 q1 D) : DB w W.drew a b c d e q0 q1 D := h.below (Below.refl _ _).drew
theorem DB.four {w W : World} {a b c d e q0 q1 : Int} {D : Nat} (h : DB w W a b c d e q0 q1 D) : W.cell? ⟨w.heap.size, 0, none⟩ = some (.int .i64 a) ∧ W.cell? ⟨w.heap.size, 1, none⟩ = some (.int .i64 b) ∧ W.cell? ⟨w.heap.size + 1, 0, none⟩ = some (.int .i64 c) ∧ W.cell? ⟨w.heap.size + 1, 1, none⟩ = some (.int .i64 d) := ⟨h.x0, h.x1, h.y0, h.y1⟩
theorem DB.six {w W : World} {a b c d e q0 q1 : Int} {D : Nat} (h : DB w W a b c d e q0 q1 D) : W.cell? ⟨w.heap.size, 0, none⟩ = some (.int .i64 a) ∧ W.cell? ⟨w.heap.size, 1, none⟩ = some (.int .i64 b) ∧ W.cell? ⟨w.heap.size + 1, 0, none⟩ = some (.int .i64 c) ∧ W.cell? ⟨w.heap.size + 1, 1, none⟩ = some (.int .i64 d) ∧ W.cell? ⟨w.heap.size + 2, 0, none⟩ = some (.int .i64 q0) ∧ W.cell? ⟨w.heap.size + 2, 1, none⟩ = some (.int .i64 q1) := ⟨h.x0, h.x1, h.y0, h.y1, h.q0, h.q1⟩

/-- Div's memory before it has its inner function -/
structure DA (w W : World) (a b c d : Int) : Prop where
  x0 : W.cell? ⟨w.heap.size, 0, none⟩ = some (.int .i64 a)
  x1 : W.cell? ⟨w.heap.size, 1, none⟩ = some (.int .i64 b)
  y0 : W.cell? ⟨w.heap.size + 1, 0, none⟩ = some (.int .i64 c)
  y1 : W.cell? ⟨w.heap.size + 1, 1, none⟩ = some (.int .i64 d)
  q0 : W.cell? ⟨w.heap.size + 2, 0, none⟩ = some (.int .i64 0)
  q1 : W.cell? ⟨w.heap.size + 2, 1, none⟩ = some (.int .i64 0)
  r0 : W.cell? ⟨w.heap.size + 3, 0, none⟩ = some (.int .i64 0)
  r1 : W.cell? ⟨w.heap.size + 3, 1, none⟩ = some (.int .i64 0)
  f0 : W.frozen? ⟨w.heap.size + 2, 0, none⟩ = false
  f1 : W.frozen? ⟨w.heap.size + 2, 1, none⟩ = false
  g0 : W.frozen? ⟨w.heap.size + 3, 0, none⟩ = false
  g1 : W.frozen? ⟨w.heap.size + 3, 1, none⟩ = false
  bel : Below w.heap.size w W
  sz : w.heap.size + 3 < W.heap.size
theorem DA.below {w W W' : World} {a b c d : Int} (h : DA w W a b c d) (hb : Below W.heap.size W W') : DA w W' a b c d := by
  have hs := h.sz
  have hc := fun i o (hi : i < W.heap.size) => hb.cell (p := ⟨i, o, none⟩) hi
  have hf := fun i o (hi : i < W.heap.size) => hb.frozen (p := ⟨i, o, none⟩) hi
  exact ⟨(hc _ _ (by omega)).trans h.x0, (hc _ _ (by omega)).trans h.x1, (hc _ _ (by omega)).trans h.y0, (hc _ _ (by omega)).trans h.y1, (hc _ _ (by omega)).trans h.q0, (hc _ _ (by omega)).trans h.q1,
    (hc _ _ (by omega)).trans h.r0, (hc _ _ (by omega)).trans h.r1,
    (hf _ _ (by omega)).trans h.f0, (hf _ _ (by omega)).trans h.f1, (hf _ _ (by omega)).trans h.g0, (hf _ _ (by omega)).trans h.g1, below_trans h.bel hb, Nat.lt_of_lt_of_le hs hb.size⟩
theorem DA.toDB {w W : World} {a b c d e : Int} {D : Nat} (h : DA w W a b c d) (k : W.cell? ⟨D, 0, none⟩ = some (.int .i64 e)) (h1 : w.heap.size + 3 < D) (h2 : D < W.heap.size) : DB w W a b c d e 0 0 D :=
  ⟨h.x0, h.x1, h.y0, h.y1, h.q0, h.q1, h.r0, h.r1, k, h.f0, h.f1, h.g0, h.g1, h.bel, h1, h2⟩
theorem below_four (w : World) (o1 o2 o3 o4 : Obj) : Below w.heap.size w ((((w.alloc o1).alloc o2).alloc o3).alloc o4) := (below_three w o1 o2 o3).alloc (by simp; omega) _
theorem DA.new (w : World) (a b c d : Int) (t : TypeId) : DA w ((((w.alloc (.cells #[.int .i64 a, .int .i64 b] t)).alloc (.cells #[.int .i64 c, .int .i64 d] t)).alloc (.cells #[.int .i64 0, .int .i64 0] t)).alloc (.cells #[.int .i64 0, .int .i64 0] t)) a b c d := by
  constructor
  case bel => exact below_four _ _ _ _ _
  all_goals (simp [go_sem]; done)

theorem DB.setq {w W : World} {a b c d e q0 q1 z0 z1 : Int} {D : Nat} (h : DB w W a b c d e q0 q1 D) : DB w ((W.setCell ⟨w.heap.size + 2, 0, none⟩ (.int .i64 z0)).setCell ⟨w.heap.size + 2, 1, none⟩ (.int .i64 z1)) a b c d e z0 z1 D := by
  have hd := h.far
  have e : ∀ i o, i ≠ w.heap.size + 2 → ((W.setCell ⟨w.heap.size + 2, 0, none⟩ (.int .i64 z0)).setCell ⟨w.heap.size + 2, 1, none⟩ (.int .i64 z1)).cell? ⟨i, o, none⟩ = W.cell? ⟨i, o, none⟩ := fun i o hi =>
    (set_far (by show w.heap.size + 2 ≠ i; omega)).trans (set_far (by show w.heap.size + 2 ≠ i; omega))
  exact ⟨(e _ _ (by omega)).trans h.x0, (e _ _ (by omega)).trans h.x1, (e _ _ (by omega)).trans h.y0, (e _ _ (by omega)).trans h.y1,
    (set_other (by decide)).trans (set_same h.q0), set_same ((set_other (by decide)).trans h.q1), (e _ _ (by omega)).trans h.r0, (e _ _ (by omega)).trans h.r1, (e _ _ (by omega)).trans h.k,
    by rw [set_frozen, set_frozen]; exact h.f0, by rw [set_frozen, set_frozen]; exact h.f1, by rw [set_frozen, set_frozen]; exact h.g0, by rw [set_frozen, set_frozen]; exact h.g1,
    (h.bel.setCell (by show w.heap.size ≤ w.heap.size + 2; omega) _).setCell (by show w.heap.size ≤ w.heap.size + 2; omega) _, h.far, by simpa [World.setCell] using h.sz⟩

theorem DB.stored {w W : World} {a b c d e q0 q1 : Int} {D : Nat} {u u' : Value} (h : DB w W a b c d e q0 q1 D) :
    ((W.setCell ⟨w.heap.size + 3, 0, none⟩ u).setCell ⟨w.heap.size + 3, 1, none⟩ u').cell? ⟨w.heap.size, 0, none⟩ = some (.int .i64 a) ∧ ((W.setCell ⟨w.heap.size + 3, 0, none⟩ u).setCell ⟨w.heap.size + 3, 1, none⟩ u').cell? ⟨w.heap.size, 1, none⟩ = some (.int .i64 b) ∧
    ((W.setCell ⟨w.heap.size + 3, 0, none⟩ u).setCell ⟨w.heap.size + 3, 1, none⟩ u').cell? ⟨w.heap.size + 1, 0, none⟩ = some (.int .i64 c) ∧ ((W.setCell ⟨w.heap.size + 3, 0, none⟩ u).setCell ⟨w.heap.size + 3, 1, none⟩ u').cell? ⟨w.heap.size + 1, 1, none⟩ = some (.int .i64 d) ∧
    ((W.setCell ⟨w.heap.size + 3, 0, none⟩ u).setCell ⟨w.heap.size + 3, 1, none⟩ u').cell? ⟨w.heap.size + 2, 0, none⟩ = some (.int .i64 q0) ∧ ((W.setCell ⟨w.heap.size + 3, 0, none⟩ u).setCell ⟨w.heap.size + 3, 1, none⟩ u').cell? ⟨w.heap.size + 2, 1, none⟩ = some (.int .i64 q1) := by
  have e : ∀ j o, j < w.heap.size + 3 → ((W.setCell ⟨w.heap.size + 3, 0, none⟩ u).setCell ⟨w.heap.size + 3, 1, none⟩ u').cell? ⟨j, o, none⟩ = W.cell? ⟨j, o, none⟩ := fun j o hj =>
    (set_far (by show w.heap.size + 3 ≠ j; omega)).trans (set_far (by show w.heap.size + 3 ≠ j; omega))
  exact ⟨(e _ _ (by omega)).trans h.x0, (e _ _ (by omega)).trans h.x1, (e _ _ (by omega)).trans h.y0, (e _ _ (by omega)).trans h.y1, (e _ _ (by omega)).trans h.q0, (e _ _ (by omega)).trans h.q1⟩
theorem near_bd (n e c M : Int) (he : 0 < e) (hc : c.natAbs ≤ e.natAbs) (hn : -M ≤ n ∧ n ≤ M) (hM : e ≤ M) : -(2 * M) ≤ nearI n e * c ∧ nearI n e * c ≤ 2 * M := by
  have h1 : 2 * e * ((2 * n + e) / (2 * e)) ≤ 2 * n + e := Int.mul_ediv_self_le (by omega)
  have h2 : 2 * n + e < 2 * e * ((2 * n + e) / (2 * e)) + 2 * e := Int.lt_mul_ediv_self_add (by omega)
  have h3 : 2 * e * ((2 * n + e) / (2 * e)) = 2 * (nearI n e * e) := by unfold nearI; rw [Int.mul_assoc, Int.mul_comm e]
  rw [h3] at h1 h2
  have h4 : (nearI n e * c).natAbs ≤ (nearI n e * e).natAbs := by
    rw [Int.natAbs_mul, Int.natAbs_mul]
    exact Nat.mul_le_mul_left _ hc
  omega
theorem sq_pos (c : Int) : 0 ≤ c * c := by
  rcases Int.le_total 0 c with h | h
  · exact Int.mul_nonneg h h
  · exact Int.mul_nonneg_of_nonpos_of_nonpos h h
theorem abs_sq (c : Int) : c.natAbs ≤ (c * c).natAbs := by
  rw [Int.natAbs_mul]
  rcases Nat.eq_zero_or_pos c.natAbs with h | h
  · omega
  · exact Nat.le_mul_of_pos_left _ h

theorem norm_pos {c d e : Int} (h2 : normI c d = e) (he : 0 < e) : rightB c d = true ∧ e = c * c + d * d := by
  unfold normI at h2
  split at h2
  · rename_i h; exact ⟨h, h2.symm⟩
  · omega

set_option maxRecDepth 10000 in
set_option maxHeartbeats 4000000 in
theorem div_yes (a b c d e q0 q1 : Int) (w : World) (h1 : rightB a b = true) (h2 : normI c d = e) (he : 0 < e) (hq0 : nearI (a * c - b * (-d)) e = q0) (hq1 : nearI (a * (-d) + b * c) e = q1) :
    Calls Try.prog 48 #[numV a b, numV c d] w fun e' w' => e' = .returned (.tuple #[numV q0 q1, numV (a - (q0 * c - q1 * d)) (b - (q0 * d + q1 * c)), .bool true]) ∧ Below w.heap.size w w' := by
  have St0 := Lib.hid (DA.new w a b c d 50)
  obtain ⟨hr2, hee⟩ := norm_pos h2 he
  obtain ⟨p, q⟩ := of_rightB h1
  obtain ⟨r, s⟩ := of_rightB hr2
  have m1 := mul_bd p r
  have m2 := mul_bd q s
  have m3 := mul_bd p s
  have m4 := mul_bd q r
  have m5 := mul_bd r r
  have m6 := mul_bd s s
  have n1 : b * -d = -(b * d) := Int.mul_neg _ _
  have n2 : a * -d = -(a * d) := Int.mul_neg _ _
  obtain ⟨re, im, hs, vre, vim⟩ := fl_cmul (fb_fl a (by omega)) (fb_fl b (by omega)) (fb_fl c (by omega)) (fl_neg (fb_fl d (by omega))) (by omega) (by omega)
  have hmul := fun W => run_complex_mul (P := Try.prog) W 101 _ _ _ _ re im hs
  have hneg : ∀ W, Sem.run Try.prog (Op.unary UnOp.neg (Value.float FloatKind.f64 (fb d))) W = .ok (.float .f64 (Op.negFloat .f64 (fb d))) W := fun _ => rfl
  have hn0 := fun W D hc => near_any re _ e D W vre (by omega) (by omega) he (by omega) hc
  have hn1 := fun W D hc => near_any im _ e D W vim (by omega) (by omega) he (by omega) hc
  rw [hq0] at hn0
  rw [hq1] at hn1
  have k1 := abs_sq c
  have k2 := abs_sq d
  have k3 : 0 ≤ c * c := sq_pos c
  have k4 : 0 ≤ d * d := sq_pos d
  have l1 := near_bd (a * c - b * -d) e c 4398046511104 he (by omega) (by omega) (by omega)
  have l2 := near_bd (a * c - b * -d) e d 4398046511104 he (by omega) (by omega) (by omega)
  have l3 := near_bd (a * -d + b * c) e c 4398046511104 he (by omega) (by omega) (by omega)
  have l4 := near_bd (a * -d + b * c) e d 4398046511104 he (by omega) (by omega) (by omega)
  have l5 := near_bd (a * c - b * -d) e 1 4398046511104 he (by omega) (by omega) (by omega)
  have l6 := near_bd (a * -d + b * c) e 1 4398046511104 he (by omega) (by omega) (by omega)
  rw [hq0] at l1 l2 l5
  rw [hq1] at l3 l4 l6
  obtain ⟨re2, im2, hs2, vre2, vim2⟩ := fl_cmul (fb_fl q0 (by omega)) (fb_fl q1 (by omega)) (fb_fl c (by omega)) (fb_fl d (by omega)) (by omega) (by omega)
  have hmul2 := fun W => run_complex_mul (P := Try.prog) W 101 _ _ _ _ re2 im2 hs2
  obtain ⟨re3, im3, hs3, vre3, vim3⟩ := fl_csum .sub (.inr rfl) (fb_fl a (by omega)) (fb_fl b (by omega)) vre2 vim2 (by omega) (by omega)
  have hsub := fun W => run_complex_sum (P := Try.prog) W .sub (.inr rfl) 101 .f64 _ _ _ _ re3 im3 hs3
  rw [if_neg (by decide)] at vre3 vim3
  have hnum := fun W => num_any (.complex .f64 re3 im3) _ _ W ⟨_, _, rfl, vre3, vim3⟩ (by omega) (by omega) (by omega) (by omega)
  generalize a - (q0 * c - q1 * d) = s0 at hnum ⊢
  generalize b - (q0 * d + q1 * c) = s1 at hnum ⊢
  clear k1 k2 k3 k4 l1 l2 l3 l4 l5 l6 vre2 vim2 vre3 vim3 hs2 hs3
  clear n1 n2 m1 m2 m3 m4 m5 m6 p q r s vre vim hee hr2 hs
  go_enter Try.func48, Try.ntmps48
  go_upto_region 2 with (go_at_call 44; with_reducible refine (norm_any c d _).mono ?_; rintro e' w1 ⟨rfl, hb1⟩; rw [h2]; have st1 := St0.out.below hb1; have hx0 := st1.x0; have hx1 := st1.x1; have hs1 := st1.sz; have hs0 : w.heap.size < w1.heap.size := by omega)
  refine wp_gen (fun W => DB w W a b c d e 0 0 w1.heap.size) ((st1.below (below_one _ _)).toDB (World.cell?_alloc_at _ _ _ _ rfl) hs1 (by simp)) ?_
  intro W hT
  clear st1 hx0 hx1 hs1 hs0 hb1 St0
  generalize w1.heap.size = D at *
  have hx0 := hT.x0
  have hx1 := hT.x1
  have hk := hT.k
  have hs := hT.sz
  go_upto_region 5 with (go_at_call 46; refine (right_any a b _).mono ?_; rintro e' w2 ⟨rfl, hb2⟩; rw [h1]; obtain ⟨hcl, hfr⟩ := bcell hb2; have st2 := hT.below hb2)
  refine wp_gen (fun W => DB w W a b c d e 0 0 D) st2 ?_
  clear st2 hb2 hcl hfr hx0 hx1 hk hs hT
  intro W hT
  go_cut [9] (fun v wx => DB w wx a b c d e 0 0 D ∧ v = .complex .f64 re im)
  case first =>
    have hx0 := hT.x0
    have hx1 := hT.x1
    have hy0 := hT.y0
    have hy1 := hT.y1
    go_region_held3 (fun W => W.cell? ⟨w.heap.size, 0, none⟩ = some (.int .i64 a) ∧ W.cell? ⟨w.heap.size, 1, none⟩ = some (.int .i64 b) ∧ W.cell? ⟨w.heap.size + 1, 0, none⟩ = some (.int .i64 c) ∧ W.cell? ⟨w.heap.size + 1, 1, none⟩ = some (.int .i64 d)) (first
      | exact DB.four (by assumption)
      | exact DB.four (DB.drew (by assumption))) (first
      | (go_at_call 79; with_reducible refine (of_fb a b _).mono ?_; rintro e' w2 ⟨rfl, hb2⟩; have st2 := DB.below (by first | assumption | exact DB.drew (by assumption)) hb2)
      | (go_at_call 79; with_reducible refine (of_fb c d _).mono ?_; rintro e' w3 ⟨rfl, hb3⟩; have st3 := DB.below (by first | assumption | exact DB.drew (by assumption)) hb3))
    all_goals
      go_wp2
      go_meet
      case rel => exact ⟨by assumption, rfl⟩
  case rest =>
    obtain ⟨hT, rfl⟩ := hcut
    have hq0 := hT.q0
    have hq1 := hT.q1
    have hf0 := hT.f0
    have hf1 := hT.f1
    go_upto_region 7 with (first
      | (go_at_call 78; with_reducible refine (hn0 _ _ hT.k).mono ?_; rintro e' w2 ⟨rfl, rfl⟩)
      | (go_at_call 78; with_reducible refine (hn1 _ _ hT.k).mono ?_; rintro e' w3 ⟨rfl, rfl⟩))
    refine wp_gen (fun W => DB w W a b c d e q0 q1 D) (DB.setq hT) ?_
    clear hT hq0 hq1 hf0 hf1 hmul hneg hn0 hn1
    intro W hT
    have hx0 := hT.x0
    have hx1 := hT.x1
    have hy0 := hT.y0
    have hy1 := hT.y1
    have hz0 := hT.q0
    have hz1 := hT.q1
    go_region_held3 (fun W => W.cell? ⟨w.heap.size, 0, none⟩ = some (.int .i64 a) ∧ W.cell? ⟨w.heap.size, 1, none⟩ = some (.int .i64 b) ∧ W.cell? ⟨w.heap.size + 1, 0, none⟩ = some (.int .i64 c) ∧ W.cell? ⟨w.heap.size + 1, 1, none⟩ = some (.int .i64 d) ∧ W.cell? ⟨w.heap.size + 1 + 1, 0, none⟩ = some (.int .i64 q0) ∧ W.cell? ⟨w.heap.size + 1 + 1, 1, none⟩ = some (.int .i64 q1)) (first
      | exact DB.six (by assumption)
      | exact DB.six (DB.drew (by assumption))
      | exact DB.six (DB.setq (by assumption))
      | exact DB.stored (DB.setq (by assumption))) (first
      | (go_at_call 79; with_reducible refine (of_fb a b _).mono ?_; rintro e' w2 ⟨rfl, hb2⟩; have st2 := DB.below (by first | assumption | exact DB.drew (by assumption)) hb2)
      | (go_at_call 79; with_reducible refine (of_fb q0 q1 _).mono ?_; rintro e' w4 ⟨rfl, hb4⟩; have st4 := DB.below (by first | assumption | exact DB.drew (by assumption)) hb4)
      | (go_at_call 79; with_reducible refine (of_fb c d _).mono ?_; rintro e' w3 ⟨rfl, hb3⟩; have st3 := DB.below (by first | assumption | exact DB.drew (by assumption)) hb3)
      | (go_at_call 73; with_reducible refine (hnum _).mono ?_; rintro e' w5 ⟨rfl, hb5⟩; have st5 := DB.below (by first | assumption | exact DB.drew (by assumption)) hb5; have hu0 := st5.q0; have hu1 := st5.q1; have hv0 := st5.r0; have hv1 := st5.r1; have hf0 := st5.f0; have hf1 := st5.f1; have hg0 := st5.g0; have hg1 := st5.g1))
    all_goals
      have hbel := (DB.setq (z0 := q0) (z1 := q1) st5).bel
      clear hT st2 st3 st4 st5 hx0 hx1 hy0 hy1 hz0 hz1 hnum hsub hmul2 hb2 hb3 hb4 hb5
      go_wp2
      exact bodyPost_ret (v := .tuple #[numV q0 q1, numV s0 s1, .bool true]) (by simp [results, Try.results48, go_sem, hu0, hu1, hv0, hv1]) rfl ⟨rfl, (hbel.setCell (by show w.heap.size ≤ w.heap.size + 3; omega) _).setCell (by show w.heap.size ≤ w.heap.size + 3; omega) _⟩

set_option maxRecDepth 10000 in
set_option maxHeartbeats 2000000 in
theorem div_no1 (a b c d : Int) (w : World) (h1 : rightB a b = false) :
    Calls Try.prog 48 #[numV a b, numV c d] w fun e' w' => e' = .returned (.tuple #[numV 0 0, numV 0 0, .bool false]) ∧ Below w.heap.size w w' := by
  have St0 := Lib.hid (DA.new w a b c d 50)
  generalize h2 : normI c d = e
  go_enter Try.func48, Try.ntmps48
  go_upto_region 2 with (go_at_call 44; with_reducible refine (norm_any c d _).mono ?_; rintro e' w1 ⟨rfl, hb1⟩; rw [h2]; have st1 := St0.out.below hb1; have hs1 := st1.sz)
  refine wp_gen (fun W => DB w W a b c d e 0 0 w1.heap.size) ((st1.below (below_one _ _)).toDB (World.cell?_alloc_at _ _ _ _ rfl) hs1 (by simp)) ?_
  intro W hT
  clear st1 hs1 hb1 St0
  generalize w1.heap.size = D at *
  have hx0 := hT.x0
  have hx1 := hT.x1
  go_wp2_with (go_at_call 46; refine (right_any a b _).mono ?_; rintro e' w2 ⟨rfl, hb2⟩; rw [h1]; have st2 := hT.below hb2; have hu0 := st2.q0; have hu1 := st2.q1; have hv0 := st2.r0; have hv1 := st2.r1; have hf0 := st2.f0; have hf1 := st2.f1; have hg0 := st2.g0; have hg1 := st2.g1; have hbel := st2.bel; clear st2 hb2 hT hx0 hx1)
  exact bodyPost_ret (v := .tuple #[numV 0 0, numV 0 0, .bool false]) (by simp [results, Try.results48, go_sem, hu0, hu1, hv0, hv1]) rfl ⟨rfl, (((hbel.setCell (by show w.heap.size ≤ w.heap.size + 2; omega) _).setCell (by show w.heap.size ≤ w.heap.size + 2; omega) _).setCell (by show w.heap.size ≤ w.heap.size + 3; omega) _).setCell (by show w.heap.size ≤ w.heap.size + 3; omega) _⟩

set_option maxRecDepth 10000 in
set_option maxHeartbeats 2000000 in
theorem div_no2 (a b c d e : Int) (w : World) (h1 : rightB a b = true) (h2 : normI c d = e) (he : ¬ 0 < e) :
    Calls Try.prog 48 #[numV a b, numV c d] w fun e' w' => e' = .returned (.tuple #[numV 0 0, numV 0 0, .bool false]) ∧ Below w.heap.size w w' := by
  have St0 := Lib.hid (DA.new w a b c d 50)
  go_enter Try.func48, Try.ntmps48
  go_upto_region 2 with (go_at_call 44; with_reducible refine (norm_any c d _).mono ?_; rintro e' w1 ⟨rfl, hb1⟩; rw [h2]; have st1 := St0.out.below hb1; have hs1 := st1.sz)
  refine wp_gen (fun W => DB w W a b c d e 0 0 w1.heap.size) ((st1.below (below_one _ _)).toDB (World.cell?_alloc_at _ _ _ _ rfl) hs1 (by simp)) ?_
  intro W hT
  clear st1 hs1 hb1 St0
  generalize w1.heap.size = D at *
  have hx0 := hT.x0
  have hx1 := hT.x1
  go_wp2_with (go_at_call 46; refine (right_any a b _).mono ?_; rintro e' w2 ⟨rfl, hb2⟩; rw [h1]; have st2 := hT.below hb2; have hk := st2.k; have hu0 := st2.q0; have hu1 := st2.q1; have hv0 := st2.r0; have hv1 := st2.r1; have hf0 := st2.f0; have hf1 := st2.f1; have hg0 := st2.g0; have hg1 := st2.g1; have hbel := st2.bel; clear st2 hb2 hT hx0 hx1)
  exact bodyPost_ret (v := .tuple #[numV 0 0, numV 0 0, .bool false]) (by simp [results, Try.results48, go_sem, hu0, hu1, hv0, hv1]) rfl ⟨rfl, (((hbel.setCell (by show w.heap.size ≤ w.heap.size + 2; omega) _).setCell (by show w.heap.size ≤ w.heap.size + 2; omega) _).setCell (by show w.heap.size ≤ w.heap.size + 3; omega) _).setCell (by show w.heap.size ≤ w.heap.size + 3; omega) _⟩

/-- what Div answers -/
def divQ (a b c d : Int) : Int × Int := (nearI (a * c - b * (-d)) (normI c d), nearI (a * (-d) + b * c) (normI c d))
def divR (a b c d : Int) : Int × Int := (a - ((divQ a b c d).1 * c - (divQ a b c d).2 * d), b - ((divQ a b c d).1 * d + (divQ a b c d).2 * c))
def divB (a b c d : Int) : Bool := rightB a b && decide (0 < normI c d)
abbrev divV (ok : Bool) (q r : Int × Int) : Value := .tuple #[numV (if ok then q.1 else 0) (if ok then q.2 else 0), numV (if ok then r.1 else 0) (if ok then r.2 else 0), .bool ok]

theorem div_any (a b c d : Int) (w : World) :
    Calls Try.prog 48 #[numV a b, numV c d] w fun e' w' => e' = .returned (divV (divB a b c d) (divQ a b c d) (divR a b c d)) ∧ Below w.heap.size w w' := by
  by_cases h1 : rightB a b = true
  · by_cases h2 : 0 < normI c d
    · refine (div_yes a b c d _ _ _ w h1 rfl h2 rfl rfl).mono fun e w' ⟨he, hw⟩ => ⟨he.trans ?_, hw⟩
      have hB : divB a b c d = true := by simp [divB, h1, h2]
      rw [hB]
      rfl
    · refine (div_no2 a b c d _ w h1 rfl h2).mono fun e w' ⟨he, hw⟩ => ⟨he.trans ?_, hw⟩
      have hB : divB a b c d = false := by simp [divB, h2]
      rw [hB]
      rfl
  · have h1 := eq_false_of_ne_true h1
    refine (div_no1 a b c d w h1).mono fun e w' ⟨he, hw⟩ => ⟨he.trans ?_, hw⟩
    have hB : divB a b c d = false := by simp [divB, h1]
    rw [hB]
    rfl
end Go.Proofs.Ytebhojbllhjkeaa
