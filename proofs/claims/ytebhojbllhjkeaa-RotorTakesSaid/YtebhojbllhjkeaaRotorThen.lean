/- rotor's then. -/
import Derived.Test.YtebhojbllhjkeaaRotorTurn
namespace Go.Proofs.Ytebhojbllhjkeaa
open Go.RowKit
set_option linter.all false
attribute [local go_sem] run_store_cx

/-- then's own memory -/
structure NM (w W : World) (ta tc ua uc : Pt) : Prop where
  t : TU W w.heap.size ta tc
  u : TU W (w.heap.size + 1) ua uc
  r : TU W (w.heap.size + 2) (0, 0) (0, 0)
  bel : Below w.heap.size w W
theorem NM.below {w W W' : World} {ta tc ua uc : Pt} (h : NM w W ta tc ua uc) (hb : Below W.heap.size W W') : NM w W' ta tc ua uc := ⟨h.t.up hb, h.u.up hb, h.r.up hb, below_trans h.bel hb⟩
theorem NM.drew {w W : World} {ta tc ua uc : Pt} (h : NM w W ta tc ua uc) : NM w W.drew ta tc ua uc := h.below (Below.refl _ _).drew
theorem NM.all {w W : World} {ta tc ua uc : Pt} (h : NM w W ta tc ua uc) : W.cell? ⟨w.heap.size, 0, none⟩ = some (cxV ta) ∧ W.cell? ⟨w.heap.size, 1, none⟩ = some (cxV tc) ∧ W.cell? ⟨w.heap.size + 1, 0, none⟩ = some (cxV ua) ∧ W.cell? ⟨w.heap.size + 1, 1, none⟩ = some (cxV uc) := ⟨h.t.x0, h.t.x1, h.u.x0, h.u.x1⟩
theorem NM.stored {w W : World} {ta tc ua uc : Pt} {x y : Value} (h : NM w W ta tc ua uc) : ((W.setCell ⟨w.heap.size + 2, 0, none⟩ x).setCell ⟨w.heap.size + 2, 1, none⟩ y).cell? ⟨w.heap.size, 0, none⟩ = some (cxV ta) ∧ ((W.setCell ⟨w.heap.size + 2, 0, none⟩ x).setCell ⟨w.heap.size + 2, 1, none⟩ y).cell? ⟨w.heap.size, 1, none⟩ = some (cxV tc) ∧ ((W.setCell ⟨w.heap.size + 2, 0, none⟩ x).setCell ⟨w.heap.size + 2, 1, none⟩ y).cell? ⟨w.heap.size + 1, 0, none⟩ = some (cxV ua) ∧ ((W.setCell ⟨w.heap.size + 2, 0, none⟩ x).setCell ⟨w.heap.size + 2, 1, none⟩ y).cell? ⟨w.heap.size + 1, 1, none⟩ = some (cxV uc) := by
  have e1 := (h.t.far (q := ⟨w.heap.size + 2, 0, none⟩) (by show w.heap.size + 2 ≠ w.heap.size; omega) x).far (q := ⟨w.heap.size + 2, 1, none⟩) (by show w.heap.size + 2 ≠ w.heap.size; omega) y
  have e2 := (h.u.far (q := ⟨w.heap.size + 2, 0, none⟩) (by show w.heap.size + 2 ≠ w.heap.size + 1; omega) x).far (q := ⟨w.heap.size + 2, 1, none⟩) (by show w.heap.size + 2 ≠ w.heap.size + 1; omega) y
  exact ⟨e1.x0, e1.x1, e2.x0, e2.x1⟩

set_option maxRecDepth 10000 in
set_option maxHeartbeats 2000000 in
theorem rthen_any (ta tc ua uc : Pt) (p : Int) (w : World) (hp : 2 ≤ p ∧ p ≤ 1000) (ht : inP p ta) (hc : inP p tc) (hu : inP p ua) (hv : inP p uc) :
    Calls Try.prog 84 #[turnV ta tc, turnV ua uc, .int .i64 p] w fun e w' => e = .returned (turnV (thenA ta ua p) (ap ua uc p tc)) ∧ Below w.heap.size w w' := by
  obtain ⟨t1, t2, t3, t4⟩ := ht
  obtain ⟨c1, c2, c3, c4⟩ := hc
  obtain ⟨u1, u2, u3, u4⟩ := hu
  obtain ⟨v1, v2, v3, v4⟩ := hv
  have m1 := mul_u hp.2 t1 t2 u1 u2
  have m2 := mul_u hp.2 t3 t4 u3 u4
  have m3 := mul_u hp.2 t1 t2 u3 u4
  have m4 := mul_u hp.2 t3 t4 u1 u2
  obtain ⟨re, im, hs, vre, vim⟩ := fl_cmul (fr_fl ta.1 (by omega)) (fr_fl ta.2 (by omega)) (fr_fl ua.1 (by omega)) (fr_fl ua.2 (by omega)) (by omega) (by omega)
  have hmul := fun W => run_complex_mul (P := Try.prog) W 101 _ _ _ _ re im hs
  have hr1 := fun W => rest_any re im _ _ p W vre vim (by omega) (by omega) (by omega) (by omega) (by omega) (by omega)
  have hr1 : ∀ W, Calls Try.prog 92 #[.complex .f64 re im, .int .i64 p] W fun e w' => e = .returned (cxV (thenA ta ua p)) ∧ Below W.heap.size W w' := hr1
  have n1 := mul_u hp.2 c1 c2 u1 u2
  have n2 := mul_u hp.2 c3 c4 u3 u4
  have n3 := mul_u hp.2 c1 c2 u3 u4
  have n4 := mul_u hp.2 c3 c4 u1 u2
  obtain ⟨re3, im3, hs3, vre3, vim3⟩ := fl_cmul (fr_fl tc.1 (by omega)) (fr_fl tc.2 (by omega)) (fr_fl ua.1 (by omega)) (fr_fl ua.2 (by omega)) (by omega) (by omega)
  have hmul3 := fun W => run_complex_mul (P := Try.prog) W 101 _ _ _ _ re3 im3 hs3
  obtain ⟨re2, im2, hs2, vre2, vim2⟩ := fl_csum .add (.inl rfl) vre3 vim3 (fr_fl uc.1 (by omega)) (fr_fl uc.2 (by omega)) (by omega) (by omega)
  have hadd := fun W => run_complex_sum (P := Try.prog) W .add (.inl rfl) 101 .f64 _ _ _ _ re2 im2 hs2
  rw [if_pos rfl] at vre2 vim2
  have hr2 := fun W => rest_any re2 im2 _ _ p W vre2 vim2 (by omega) (by omega) (by omega) (by omega) (by omega) (by omega)
  have hr2 : ∀ W, Calls Try.prog 92 #[.complex .f64 re2 im2, .int .i64 p] W fun e w' => e = .returned (cxV (ap ua uc p tc)) ∧ Below W.heap.size W w' := hr2
  clear m1 m2 m3 m4 n1 n2 n3 n4 vre vim vre2 vim2 vre3 vim3 hs hs2 hs3 t1 t2 t3 t4 c1 c2 c3 c4 u1 u2 u3 u4 v1 v2 v3 v4
  generalize ap ua uc p tc = y' at *
  generalize thenA ta ua p = z' at *
  go_enter Try.func84, Try.ntmps84
  go_upto_region 1 with fail
  refine wp_gen (fun W => NM w W ta tc ua uc) ?_ ?_
  · refine ⟨((TU.new w ta tc _).up (below_one _ _)).up (below_one _ _), ?_, ?_, below_three _ _ _ _⟩
    · constructor <;> (simp [go_sem]; done)
    · constructor <;> (simp [go_sem, ← fr_0]; done)
  intro W hT
  obtain ⟨h0, h1, h2, h3⟩ := hT.all
  go_region_held3 (fun W => W.cell? ⟨w.heap.size, 0, none⟩ = some (cxV ta) ∧ W.cell? ⟨w.heap.size, 1, none⟩ = some (cxV tc) ∧ W.cell? ⟨w.heap.size + 1, 0, none⟩ = some (cxV ua) ∧ W.cell? ⟨w.heap.size + 1, 1, none⟩ = some (cxV uc)) (first
    | exact NM.all (by assumption)
    | exact NM.all (NM.drew (by assumption))
    | exact NM.stored (by assumption)) (first
    | (go_at_call 92; with_reducible refine (hr1 _).mono ?_; rintro e w3 ⟨rfl, hb3⟩; have st3 := NM.below (by first | assumption | exact NM.drew (by assumption)) hb3; have hq0 := st3.r.x0; have hq1 := st3.r.x1; have hf0 := st3.r.f0; have hf1 := st3.r.f1; have hl := st3.bel)
    | (go_at_call 92; with_reducible refine (hr2 _).mono ?_; rintro e w4 ⟨rfl, hb4⟩; have st4 := NM.below (by first | assumption | exact NM.drew (by assumption)) hb4; have hq0 := st4.r.x0; have hq1 := st4.r.x1; have hf0 := st4.r.f0; have hf1 := st4.r.f1; have hl := st4.bel))
  all_goals
    go_wp2
    exact bodyPost_ret (v := turnV z' y') (by simp [results, Try.results84, go_sem, hq0, hq1]) rfl ⟨rfl, (hl.setCell (by show w.heap.size ≤ w.heap.size + 2; omega) _).setCell (by show w.heap.size ≤ w.heap.size + 2; omega) _⟩

end Go.Proofs.Ytebhojbllhjkeaa
