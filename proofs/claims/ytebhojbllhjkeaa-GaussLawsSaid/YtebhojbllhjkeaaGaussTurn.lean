/- gauss.Turn: for any number and any k, the number turned k quarters, if it may be; else none. -/
import Derived.Test.YtebhojbllhjkeaaGaussOps
import Derived.Deep.RegionHeld3
namespace Go.Proofs.Ytebhojbllhjkeaa
open Go.RowKit
set_option linter.all false

theorem fl_0 : Fl 0 0 := ⟨false, 0, -1074, by decide +kernel, by omega, by rw [Int.natAbs_zero, Nat.zero_mul], by simp, by simp⟩
theorem fl_1 : Fl 4607182418800017408 1 := ⟨false, 4503599627370496, -52, by decide +kernel, by omega, by decide +kernel, by simp, by simp⟩
theorem fl_m1 : Fl 13830554455654793216 (-1) := ⟨true, 4503599627370496, -52, by decide +kernel, by omega, by decide +kernel, by simp, by simp⟩

/-- Turn's own memory: its number, what it will return, and the quarter that it looks up -/
structure TT (w W : World) (a b : Int) (i : Nat) (v : Value) : Prop where
  x0 : W.cell? ⟨w.heap.size, 0, none⟩ = some (.int .i64 a)
  x1 : W.cell? ⟨w.heap.size, 1, none⟩ = some (.int .i64 b)
  q : W.cell? ⟨w.heap.size + 1 + 1, i, none⟩ = some v
  r0 : W.cell? ⟨w.heap.size + 1, 0, none⟩ = some (.int .i64 0)
  r1 : W.cell? ⟨w.heap.size + 1, 1, none⟩ = some (.int .i64 0)
  f0 : W.frozen? ⟨w.heap.size + 1, 0, none⟩ = false
  f1 : W.frozen? ⟨w.heap.size + 1, 1, none⟩ = false
  bel : Below w.heap.size w W
  sz : w.heap.size + 2 < W.heap.size
theorem TT.below {w W W' : World} {a b : Int} {i : Nat} {v : Value} (h : TT w W a b i v) (hb : Below W.heap.size W W') : TT w W' a b i v := by
  have hs := h.sz
  have hc := fun i o (hi : i < W.heap.size) => hb.cell (p := ⟨i, o, none⟩) hi
  have hf := fun i o (hi : i < W.heap.size) => hb.frozen (p := ⟨i, o, none⟩) hi
  exact ⟨(hc _ _ (by omega)).trans h.x0, (hc _ _ (by omega)).trans h.x1, (hc _ _ (by omega)).trans h.q, (hc _ _ (by omega)).trans h.r0, (hc _ _ (by omega)).trans h.r1,
    (hf _ _ (by omega)).trans h.f0, (hf _ _ (by omega)).trans h.f1, below_trans h.bel hb, Nat.lt_of_lt_of_le hs hb.size⟩
theorem TT.drew {w W : World} {a b : Int} {i : Nat} {v : Value} (h : TT w W a b i v) : TT w W.drew a b i v := h.below (Below.refl _ _).drew
theorem TT.all {w W : World} {a b : Int} {i : Nat} {v : Value} (h : TT w W a b i v) : W.cell? ⟨w.heap.size, 0, none⟩ = some (.int .i64 a) ∧ W.cell? ⟨w.heap.size, 1, none⟩ = some (.int .i64 b) ∧ W.cell? ⟨w.heap.size + 1 + 1, i, none⟩ = some v := ⟨h.x0, h.x1, h.q⟩
theorem TT.stored {w W : World} {a b : Int} {i : Nat} {v u u' : Value} (h : TT w W a b i v) : ((W.setCell ⟨w.heap.size + 1, 0, none⟩ u).setCell ⟨w.heap.size + 1, 1, none⟩ u').cell? ⟨w.heap.size, 0, none⟩ = some (.int .i64 a) ∧ ((W.setCell ⟨w.heap.size + 1, 0, none⟩ u).setCell ⟨w.heap.size + 1, 1, none⟩ u').cell? ⟨w.heap.size, 1, none⟩ = some (.int .i64 b) ∧ ((W.setCell ⟨w.heap.size + 1, 0, none⟩ u).setCell ⟨w.heap.size + 1, 1, none⟩ u').cell? ⟨w.heap.size + 1 + 1, i, none⟩ = some v := by
  have e : ∀ j o, j ≠ w.heap.size + 1 → ((W.setCell ⟨w.heap.size + 1, 0, none⟩ u).setCell ⟨w.heap.size + 1, 1, none⟩ u').cell? ⟨j, o, none⟩ = W.cell? ⟨j, o, none⟩ := fun j o hj =>
    (set_far (by show w.heap.size + 1 ≠ j; omega)).trans (set_far (by show w.heap.size + 1 ≠ j; omega))
  exact ⟨(e _ _ (by omega)).trans h.x0, (e _ _ (by omega)).trans h.x1, (e _ _ (by omega)).trans h.q⟩

theorem tmod4 (k : Int) : -4 < k.tmod 4 ∧ k.tmod 4 < 4 := ⟨Int.lt_tmod_of_pos k (by omega), Int.tmod_lt_of_pos k (by omega)⟩
theorem quart (k : Int) : (k.tmod 4 + 4).tmod 4 = (k.tmod 4 + 4) % 4 := Int.tmod_eq_emod_of_nonneg (by have := tmod4 k; omega)

theorem run_store_complex (P : Program) (w : World) (a : Addr) (m : Mode) (k : FloatKind) (x y : Nat) : (store a (.complex k x y) m).run P w = stored P w a (.complex k x y) m := run_store P w a _ m rfl
attribute [local go_sem] run_store_complex

set_option maxRecDepth 10000 in
set_option maxHeartbeats 1000000 in
theorem turn_0 (a b k : Int) (w : World) (hk : (k.tmod 4 + 4).tmod 4 = 0) :
    Calls Try.prog 37 #[numV a b, .int .i64 k] w fun e w' => e = .returned (opV a b 1 0 (a * 1 - b * 0) (a * 0 + b * 1)) ∧ Below w.heap.size w w' := by
  have ht := fun W => told_turned a b 1 0 W
  obtain ⟨r1, r2, ok, hv⟩ : ∃ r1 r2 ok, opV a b 1 0 (a * 1 - b * 0) (a * 0 + b * 1) = .tuple #[numV r1 r2, .bool ok] := ⟨_, _, _, rfl⟩
  rw [hv] at ht ⊢
  clear hv
  have kb := tmod4 k
  go_enter Try.func37, Try.ntmps37
  go_wp2
  refine wp_gen (fun W => TT w W a b 0 (.complex .f64 4607182418800017408 0)) ?_ ?_
  · constructor
    case bel => exact below_three _ _ _ _
    all_goals (simp [go_sem]; done)
  intro W hT
  have hx0 := hT.x0
  have hx1 := hT.x1
  have hq := hT.q
  have hnum := fun W => num_any (.complex .f64 4607182418800017408 0) 1 0 W ⟨_, _, rfl, fl_1, fl_0⟩ (by omega) (by omega) (by omega) (by omega)
  have e1 : IntKind.i64.wrap (k.tmod 4) = k.tmod 4 := by rw [IntKind.wrap_i64]; omega
  have e2 : IntKind.i64.wrap (k.tmod 4 + 4) = k.tmod 4 + 4 := by rw [IntKind.wrap_i64]; omega
  go_region_held3 (fun W => W.cell? ⟨w.heap.size, 0, none⟩ = some (.int .i64 a) ∧ W.cell? ⟨w.heap.size, 1, none⟩ = some (.int .i64 b) ∧ W.cell? ⟨w.heap.size + 1 + 1, 0, none⟩ = some (.complex .f64 4607182418800017408 0)) (first
    | exact TT.all (by assumption)
    | exact TT.all (TT.drew (by assumption))
    | exact TT.stored (by assumption)) (first
    | (go_at_call 73; with_reducible refine (hnum _).mono ?_; rintro e w3 ⟨rfl, hb3⟩; have st3 := TT.below (by first | assumption | exact TT.drew (by assumption)) hb3)
    | (go_at_call 69; with_reducible refine (ht _).mono ?_; rintro e w4 ⟨rfl, hb4⟩; have st4 := TT.below (by first | assumption | exact TT.drew (by assumption)) hb4; have hr0 := st4.r0; have hr1 := st4.r1; have hf0 := st4.f0; have hf1 := st4.f1))
  have hbel := st4.bel
  clear hT st3 st4 hx0 hx1 hq hnum ht e1 e2
  go_wp2
  exact bodyPost_ret (v := .tuple #[numV r1 r2, .bool ok]) (by simp [results, Try.results37, go_sem, hr0, hr1]) rfl ⟨rfl, (hbel.setCell (by show w.heap.size ≤ w.heap.size + 1; omega) _).setCell (by show w.heap.size ≤ w.heap.size + 1; omega) _⟩

set_option maxRecDepth 10000 in
set_option maxHeartbeats 1000000 in
theorem turn_1 (a b k : Int) (w : World) (hk : (k.tmod 4 + 4).tmod 4 = 1) :
    Calls Try.prog 37 #[numV a b, .int .i64 k] w fun e w' => e = .returned (opV a b 0 1 (a * 0 - b * 1) (a * 1 + b * 0)) ∧ Below w.heap.size w w' := by
  have ht := fun W => told_turned a b 0 1 W
  obtain ⟨r1, r2, ok, hv⟩ : ∃ r1 r2 ok, opV a b 0 1 (a * 0 - b * 1) (a * 1 + b * 0) = .tuple #[numV r1 r2, .bool ok] := ⟨_, _, _, rfl⟩
  rw [hv] at ht ⊢
  clear hv
  have kb := tmod4 k
  go_enter Try.func37, Try.ntmps37
  go_wp2
  refine wp_gen (fun W => TT w W a b 1 (.complex .f64 0 4607182418800017408)) ?_ ?_
  · constructor
    case bel => exact below_three _ _ _ _
    all_goals (simp [go_sem]; done)
  intro W hT
  have hx0 := hT.x0
  have hx1 := hT.x1
  have hq := hT.q
  have hnum := fun W => num_any (.complex .f64 0 4607182418800017408) 0 1 W ⟨_, _, rfl, fl_0, fl_1⟩ (by omega) (by omega) (by omega) (by omega)
  have e1 : IntKind.i64.wrap (k.tmod 4) = k.tmod 4 := by rw [IntKind.wrap_i64]; omega
  have e2 : IntKind.i64.wrap (k.tmod 4 + 4) = k.tmod 4 + 4 := by rw [IntKind.wrap_i64]; omega
  go_region_held3 (fun W => W.cell? ⟨w.heap.size, 0, none⟩ = some (.int .i64 a) ∧ W.cell? ⟨w.heap.size, 1, none⟩ = some (.int .i64 b) ∧ W.cell? ⟨w.heap.size + 1 + 1, 1, none⟩ = some (.complex .f64 0 4607182418800017408)) (first
    | exact TT.all (by assumption)
    | exact TT.all (TT.drew (by assumption))
    | exact TT.stored (by assumption)) (first
    | (go_at_call 73; with_reducible refine (hnum _).mono ?_; rintro e w3 ⟨rfl, hb3⟩; have st3 := TT.below (by first | assumption | exact TT.drew (by assumption)) hb3)
    | (go_at_call 69; with_reducible refine (ht _).mono ?_; rintro e w4 ⟨rfl, hb4⟩; have st4 := TT.below (by first | assumption | exact TT.drew (by assumption)) hb4; have hr0 := st4.r0; have hr1 := st4.r1; have hf0 := st4.f0; have hf1 := st4.f1))
  have hbel := st4.bel
  clear hT st3 st4 hx0 hx1 hq hnum ht e1 e2
  go_wp2
  exact bodyPost_ret (v := .tuple #[numV r1 r2, .bool ok]) (by simp [results, Try.results37, go_sem, hr0, hr1]) rfl ⟨rfl, (hbel.setCell (by show w.heap.size ≤ w.heap.size + 1; omega) _).setCell (by show w.heap.size ≤ w.heap.size + 1; omega) _⟩

set_option maxRecDepth 10000 in
set_option maxHeartbeats 1000000 in
theorem turn_2 (a b k : Int) (w : World) (hk : (k.tmod 4 + 4).tmod 4 = 2) :
    Calls Try.prog 37 #[numV a b, .int .i64 k] w fun e w' => e = .returned (opV a b (-1) 0 (a * (-1) - b * 0) (a * 0 + b * (-1))) ∧ Below w.heap.size w w' := by
  have ht := fun W => told_turned a b (-1) 0 W
  obtain ⟨r1, r2, ok, hv⟩ : ∃ r1 r2 ok, opV a b (-1) 0 (a * (-1) - b * 0) (a * 0 + b * (-1)) = .tuple #[numV r1 r2, .bool ok] := ⟨_, _, _, rfl⟩
  rw [hv] at ht ⊢
  clear hv
  have kb := tmod4 k
  go_enter Try.func37, Try.ntmps37
  go_wp2
  refine wp_gen (fun W => TT w W a b 2 (.complex .f64 13830554455654793216 0)) ?_ ?_
  · constructor
    case bel => exact below_three _ _ _ _
    all_goals (simp [go_sem]; done)
  intro W hT
  have hx0 := hT.x0
  have hx1 := hT.x1
  have hq := hT.q
  have hnum := fun W => num_any (.complex .f64 13830554455654793216 0) (-1) 0 W ⟨_, _, rfl, fl_m1, fl_0⟩ (by omega) (by omega) (by omega) (by omega)
  have e1 : IntKind.i64.wrap (k.tmod 4) = k.tmod 4 := by rw [IntKind.wrap_i64]; omega
  have e2 : IntKind.i64.wrap (k.tmod 4 + 4) = k.tmod 4 + 4 := by rw [IntKind.wrap_i64]; omega
  go_region_held3 (fun W => W.cell? ⟨w.heap.size, 0, none⟩ = some (.int .i64 a) ∧ W.cell? ⟨w.heap.size, 1, none⟩ = some (.int .i64 b) ∧ W.cell? ⟨w.heap.size + 1 + 1, 2, none⟩ = some (.complex .f64 13830554455654793216 0)) (first
    | exact TT.all (by assumption)
    | exact TT.all (TT.drew (by assumption))
    | exact TT.stored (by assumption)) (first
    | (go_at_call 73; with_reducible refine (hnum _).mono ?_; rintro e w3 ⟨rfl, hb3⟩; have st3 := TT.below (by first | assumption | exact TT.drew (by assumption)) hb3)
    | (go_at_call 69; with_reducible refine (ht _).mono ?_; rintro e w4 ⟨rfl, hb4⟩; have st4 := TT.below (by first | assumption | exact TT.drew (by assumption)) hb4; have hr0 := st4.r0; have hr1 := st4.r1; have hf0 := st4.f0; have hf1 := st4.f1))
  have hbel := st4.bel
  clear hT st3 st4 hx0 hx1 hq hnum ht e1 e2
  go_wp2
  exact bodyPost_ret (v := .tuple #[numV r1 r2, .bool ok]) (by simp [results, Try.results37, go_sem, hr0, hr1]) rfl ⟨rfl, (hbel.setCell (by show w.heap.size ≤ w.heap.size + 1; omega) _).setCell (by show w.heap.size ≤ w.heap.size + 1; omega) _⟩

set_option maxRecDepth 10000 in
set_option maxHeartbeats 1000000 in
theorem turn_3 (a b k : Int) (w : World) (hk : (k.tmod 4 + 4).tmod 4 = 3) :
    Calls Try.prog 37 #[numV a b, .int .i64 k] w fun e w' => e = .returned (opV a b 0 (-1) (a * 0 - b * (-1)) (a * (-1) + b * 0)) ∧ Below w.heap.size w w' := by
  have ht := fun W => told_turned a b 0 (-1) W
  obtain ⟨r1, r2, ok, hv⟩ : ∃ r1 r2 ok, opV a b 0 (-1) (a * 0 - b * (-1)) (a * (-1) + b * 0) = .tuple #[numV r1 r2, .bool ok] := ⟨_, _, _, rfl⟩
  rw [hv] at ht ⊢
  clear hv
  have kb := tmod4 k
  go_enter Try.func37, Try.ntmps37
  go_wp2
  refine wp_gen (fun W => TT w W a b 3 (.complex .f64 0 13830554455654793216)) ?_ ?_
  · constructor
    case bel => exact below_three _ _ _ _
    all_goals (simp [go_sem]; done)
  intro W hT
  have hx0 := hT.x0
  have hx1 := hT.x1
  have hq := hT.q
  have hnum := fun W => num_any (.complex .f64 0 13830554455654793216) 0 (-1) W ⟨_, _, rfl, fl_0, fl_m1⟩ (by omega) (by omega) (by omega) (by omega)
  have e1 : IntKind.i64.wrap (k.tmod 4) = k.tmod 4 := by rw [IntKind.wrap_i64]; omega
  have e2 : IntKind.i64.wrap (k.tmod 4 + 4) = k.tmod 4 + 4 := by rw [IntKind.wrap_i64]; omega
  go_region_held3 (fun W => W.cell? ⟨w.heap.size, 0, none⟩ = some (.int .i64 a) ∧ W.cell? ⟨w.heap.size, 1, none⟩ = some (.int .i64 b) ∧ W.cell? ⟨w.heap.size + 1 + 1, 3, none⟩ = some (.complex .f64 0 13830554455654793216)) (first
    | exact TT.all (by assumption)
    | exact TT.all (TT.drew (by assumption))
    | exact TT.stored (by assumption)) (first
    | (go_at_call 73; with_reducible refine (hnum _).mono ?_; rintro e w3 ⟨rfl, hb3⟩; have st3 := TT.below (by first | assumption | exact TT.drew (by assumption)) hb3)
    | (go_at_call 69; with_reducible refine (ht _).mono ?_; rintro e w4 ⟨rfl, hb4⟩; have st4 := TT.below (by first | assumption | exact TT.drew (by assumption)) hb4; have hr0 := st4.r0; have hr1 := st4.r1; have hf0 := st4.f0; have hf1 := st4.f1))
  have hbel := st4.bel
  clear hT st3 st4 hx0 hx1 hq hnum ht e1 e2
  go_wp2
  exact bodyPost_ret (v := .tuple #[numV r1 r2, .bool ok]) (by simp [results, Try.results37, go_sem, hr0, hr1]) rfl ⟨rfl, (hbel.setCell (by show w.heap.size ≤ w.heap.size + 1; omega) _).setCell (by show w.heap.size ≤ w.heap.size + 1; omega) _⟩

/-- n quarters on -/
def rotR : Nat → Int → Int → Int
  | 0, a, _ => a
  | 1, _, b => -b
  | 2, a, _ => -a
  | _, _, b => b
def rotI : Nat → Int → Int → Int
  | 0, _, b => b
  | 1, a, _ => a
  | 2, _, b => -b
  | _, a, _ => -a
/-- how many quarters -/
def quarters (k : Int) : Nat := ((k.tmod 4 + 4).tmod 4).toNat

theorem right_neg (a b : Int) : rightB (-a) b = rightB a b ∧ rightB a (-b) = rightB a b ∧ rightB b a = rightB a b := by
  have h : ∀ x : Int, wiB (-x) = wiB x := fun x => by
    unfold wiB
    rw [Bool.eq_iff_iff]
    simp
    omega
  exact ⟨by simp [rightB, h], by simp [rightB, h], by simp [rightB, Bool.and_comm]⟩

theorem turn_any (a b k : Int) (w : World) :
    Calls Try.prog 37 #[numV a b, .int .i64 k] w fun e w' => e = .returned (toldV (rightB a b) (rotR (quarters k) a b) (rotI (quarters k) a b)) ∧ Below w.heap.size w w' := by
  have hq := quart k
  have hb := tmod4 k
  have q1 : rightB 1 0 = true := by decide
  have q2 : rightB 0 1 = true := by decide
  have q3 : rightB (-1) 0 = true := by decide
  have q4 : rightB 0 (-1) = true := by decide
  have n1 := (right_neg b a).1
  have n2 := (right_neg a b).2.2
  have n3 := (right_neg a (-b)).1
  have n4 := (right_neg a b).2.1
  have n5 := (right_neg b a).2.1
  have hc : (k.tmod 4 + 4).tmod 4 = 0 ∨ (k.tmod 4 + 4).tmod 4 = 1 ∨ (k.tmod 4 + 4).tmod 4 = 2 ∨ (k.tmod 4 + 4).tmod 4 = 3 := by omega
  rcases hc with h | h | h | h
  · refine (turn_0 a b k w h).mono fun e w' ⟨he, hw⟩ => ⟨he.trans ?_, hw⟩
    rw [show quarters k = 0 by unfold quarters; rw [h]; rfl, show a * 1 - b * 0 = a by omega, show a * 0 + b * 1 = b by omega]
    simp [opV, q1, rotR, rotI]
  · refine (turn_1 a b k w h).mono fun e w' ⟨he, hw⟩ => ⟨he.trans ?_, hw⟩
    rw [show quarters k = 1 by unfold quarters; rw [h]; rfl, show a * 0 - b * 1 = -b by omega, show a * 1 + b * 0 = a by omega]
    simp [opV, q2, rotR, rotI, n1, n2]
  · refine (turn_2 a b k w h).mono fun e w' ⟨he, hw⟩ => ⟨he.trans ?_, hw⟩
    rw [show quarters k = 2 by unfold quarters; rw [h]; rfl, show a * (-1) - b * 0 = -a by omega, show a * 0 + b * (-1) = -b by omega]
    simp [opV, q3, rotR, rotI, n3, n4]
  · refine (turn_3 a b k w h).mono fun e w' ⟨he, hw⟩ => ⟨he.trans ?_, hw⟩
    rw [show quarters k = 3 by unfold quarters; rw [h]; rfl, show a * 0 - b * (-1) = b by omega, show a * (-1) + b * 0 = -a by omega]
    simp [opV, q4, rotR, rotI, n5, n2]
end Go.Proofs.Ytebhojbllhjkeaa
