/- rotor's turn, then, done and Next. -/
import Derived.Test.YtebhojbllhjkeaaRotor
namespace Go.Proofs.Ytebhojbllhjkeaa
open Go.RowKit
set_option linter.all false

theorem run_store_cx (P : Program) (w : World) (a : Addr) (m : Mode) (k : FloatKind) (x y : Nat) : (store a (.complex k x y) m).run P w = stored P w a (.complex k x y) m := run_store P w a _ m rfl
attribute [local go_sem] run_store_cx

/-- a block that holds a turn -/
structure TU (w : World) (B : Nat) (a c : Pt) : Prop where
  x0 : w.cell? ⟨B, 0, none⟩ = some (cxV a)
  x1 : w.cell? ⟨B, 1, none⟩ = some (cxV c)
  f0 : w.frozen? ⟨B, 0, none⟩ = false
  f1 : w.frozen? ⟨B, 1, none⟩ = false
theorem TU.lt {w : World} {B : Nat} {a c : Pt} (h : TU w B a c) : B < w.heap.size := block_lt_of_cell h.x0
theorem TU.same {w w' : World} {B : Nat} {a c : Pt} (h : TU w B a c) (hc : ∀ i, w'.cell? ⟨B, i, none⟩ = w.cell? ⟨B, i, none⟩) (hf : ∀ i, w'.frozen? ⟨B, i, none⟩ = w.frozen? ⟨B, i, none⟩) : TU w' B a c :=
  ⟨(hc _).trans h.x0, (hc _).trans h.x1, (hf _).trans h.f0, (hf _).trans h.f1⟩
theorem TU.up {w w' : World} {B : Nat} {a c : Pt} (h : TU w B a c) (hb : Below w.heap.size w w') : TU w' B a c :=
  h.same (fun i => hb.cell (p := ⟨B, i, none⟩) h.lt) (fun i => hb.frozen (p := ⟨B, i, none⟩) h.lt)
theorem TU.far {w : World} {B : Nat} {a c : Pt} (h : TU w B a c) {q : Addr} (hq : q.block ≠ B) (v : Value) : TU (w.setCell q v) B a c :=
  h.same (fun i => set_far hq) (fun i => set_frozen)
theorem TU.new (w : World) (a c : Pt) (t : TypeId) : TU (w.alloc (.cells #[cxV a, cxV c] t)) w.heap.size a c := by
  constructor <;> first
    | exact World.cell?_alloc_at _ _ _ _ rfl
    | exact World.frozen?_alloc_at _ _ _ _ rfl
theorem fr_0 : (0 : Nat) = fr 0 := by decide +kernel
theorem fr_1 : (4607182418800017408 : Nat) = fr 1 := by decide +kernel

/-- turn's own memory -/
structure TM (w W : World) (z a c : Pt) (p : Int) : Prop where
  b : RB W w.heap.size z a c p
  t : TU W (w.heap.size + 1) (0, 0) (0, 0)
  bel : Below w.heap.size w W
theorem TM.below {w W W' : World} {z a c : Pt} {p : Int} (h : TM w W z a c p) (hb : Below W.heap.size W W') : TM w W' z a c p := ⟨h.b.up hb, h.t.up hb, below_trans h.bel hb⟩
theorem TM.drew {w W : World} {z a c : Pt} {p : Int} (h : TM w W z a c p) : TM w W.drew z a c p := h.below (Below.refl _ _).drew
theorem TM.all {w W : World} {z a c : Pt} {p : Int} (h : TM w W z a c p) : W.cell? ⟨w.heap.size, 2, none⟩ = some (.int .i64 a.1) ∧ W.cell? ⟨w.heap.size, 3, none⟩ = some (.int .i64 a.2) ∧ W.cell? ⟨w.heap.size, 4, none⟩ = some (.int .i64 c.1) ∧ W.cell? ⟨w.heap.size, 5, none⟩ = some (.int .i64 c.2) := ⟨h.b.x2, h.b.x3, h.b.x4, h.b.x5⟩
theorem TM.stored {w W : World} {z a c : Pt} {p : Int} {u u' : Value} (h : TM w W z a c p) : ((W.setCell ⟨w.heap.size + 1, 0, none⟩ u).setCell ⟨w.heap.size + 1, 1, none⟩ u').cell? ⟨w.heap.size, 2, none⟩ = some (.int .i64 a.1) ∧ ((W.setCell ⟨w.heap.size + 1, 0, none⟩ u).setCell ⟨w.heap.size + 1, 1, none⟩ u').cell? ⟨w.heap.size, 3, none⟩ = some (.int .i64 a.2) ∧ ((W.setCell ⟨w.heap.size + 1, 0, none⟩ u).setCell ⟨w.heap.size + 1, 1, none⟩ u').cell? ⟨w.heap.size, 4, none⟩ = some (.int .i64 c.1) ∧ ((W.setCell ⟨w.heap.size + 1, 0, none⟩ u).setCell ⟨w.heap.size + 1, 1, none⟩ u').cell? ⟨w.heap.size, 5, none⟩ = some (.int .i64 c.2) := by
  have e := h.b.far (q := ⟨w.heap.size + 1, 0, none⟩) (by show w.heap.size + 1 ≠ w.heap.size; omega) u
  have e2 := e.far (q := ⟨w.heap.size + 1, 1, none⟩) (by show w.heap.size + 1 ≠ w.heap.size; omega) u'
  exact ⟨e2.x2, e2.x3, e2.x4, e2.x5⟩

set_option maxRecDepth 10000 in
set_option maxHeartbeats 1000000 in
theorem rturn_any (z a c : Pt) (p : Int) (w : World) : Calls Try.prog 81 #[rotV z a c p] w fun e w' => e = .returned (turnV a c) ∧ Below w.heap.size w w' := by
  have ha := fun W => rof_any a W
  have hc := fun W => rof_any c W
  go_enter Try.func81, Try.ntmps81
  go_upto_region 1 with fail
  refine wp_gen (fun W => TM w W z a c p) ?_ ?_
  · refine ⟨(RB.new w z a c p _).up (below_one _ _), ?_, below_two _ _ _⟩
    constructor <;> first
      | (simp [go_sem, ← fr_0]; done)
  intro W hT
  obtain ⟨h2, h3, h4, h5⟩ := hT.all
  go_region_held3 (fun W => W.cell? ⟨w.heap.size, 2, none⟩ = some (.int .i64 a.1) ∧ W.cell? ⟨w.heap.size, 3, none⟩ = some (.int .i64 a.2) ∧ W.cell? ⟨w.heap.size, 4, none⟩ = some (.int .i64 c.1) ∧ W.cell? ⟨w.heap.size, 5, none⟩ = some (.int .i64 c.2)) (first
    | exact TM.all (by assumption)
    | exact TM.all (TM.drew (by assumption))
    | exact TM.stored (by assumption)) (first
    | (go_at_call 90; with_reducible refine (ha _).mono ?_; rintro e w3 ⟨rfl, hb3⟩; have st3 := TM.below (by first | assumption | exact TM.drew (by assumption)) hb3; have hr0 := st3.t.x0; have hr1 := st3.t.x1; have hf0 := st3.t.f0; have hf1 := st3.t.f1; have hl := st3.bel)
    | (go_at_call 90; with_reducible refine (hc _).mono ?_; rintro e w4 ⟨rfl, hb4⟩; have st4 := TM.below (by first | assumption | exact TM.drew (by assumption)) hb4; have hr0 := st4.t.x0; have hr1 := st4.t.x1; have hf0 := st4.t.f0; have hf1 := st4.t.f1; have hl := st4.bel))
  all_goals
    go_wp2
    exact bodyPost_ret (v := turnV a c) (by simp [results, Try.results81, go_sem, hr0, hr1]) rfl ⟨rfl, (hl.setCell (by show w.heap.size ≤ w.heap.size + 1; omega) _).setCell (by show w.heap.size ≤ w.heap.size + 1; omega) _⟩

theorem mul_u {p x y : Int} (hp : p ≤ 1000) (hx : 0 ≤ x) (hx1 : x < p) (hy : 0 ≤ y) (hy1 : y < p) : 0 ≤ x * y ∧ x * y ≤ 998001 := by
  have h1 : 0 ≤ x * y := Int.mul_nonneg hx hy
  have h2 : x * y ≤ 999 * 999 := Int.mul_le_mul (by omega) (by omega) hy (by omega)
  omega

/-- a rotor's block, written whole -/
abbrev set7 (w : World) (B : Nat) (z a c : Pt) (p : Int) : World := (((((((w.setCell ⟨B, 0, none⟩ (.int .i64 z.1)).setCell ⟨B, 1, none⟩ (.int .i64 z.2)).setCell ⟨B, 2, none⟩ (.int .i64 a.1)).setCell ⟨B, 3, none⟩ (.int .i64 a.2)).setCell ⟨B, 4, none⟩ (.int .i64 c.1)).setCell ⟨B, 5, none⟩ (.int .i64 c.2)).setCell ⟨B, 6, none⟩ (.int .i64 p))
theorem set7_far (w : World) (B : Nat) (z a c : Pt) (p : Int) {b i : Nat} (h : b ≠ B) : (set7 w B z a c p).cell? ⟨b, i, none⟩ = w.cell? ⟨b, i, none⟩ := by
  have hb : B ≠ b := fun e => h e.symm
  unfold set7
  rw [set_far (by exact hb), set_far (by exact hb), set_far (by exact hb), set_far (by exact hb), set_far (by exact hb), set_far (by exact hb), set_far (by exact hb)]
theorem set7_frozen (w : World) (B : Nat) (z a c : Pt) (p : Int) {q : Addr} : (set7 w B z a c p).frozen? q = w.frozen? q := by
  unfold set7
  rw [set_frozen, set_frozen, set_frozen, set_frozen, set_frozen, set_frozen, set_frozen]
theorem set7_size (w : World) (B : Nat) (z a c : Pt) (p : Int) : (set7 w B z a c p).heap.size = w.heap.size := by simp [set7, World.setCell]
theorem below_set7 {k B : Nat} {a0 w : World} {z a c : Pt} {p : Int} (h : Below k a0 w) (hB : k ≤ B) : Below k a0 (set7 w B z a c p) :=
  (((((((h.setCell (p := ⟨B, 0, none⟩) hB _).setCell (p := ⟨B, 1, none⟩) hB _).setCell (p := ⟨B, 2, none⟩) hB _).setCell (p := ⟨B, 3, none⟩) hB _).setCell (p := ⟨B, 4, none⟩) hB _).setCell (p := ⟨B, 5, none⟩) hB _).setCell (p := ⟨B, 6, none⟩) hB _)
theorem RB.far7 {w : World} {B b : Nat} {z a c z' a' c' : Pt} {p p' : Int} (h : RB w b z a c p) (hb : b ≠ B) : RB (set7 w B z' a' c' p') b z a c p :=
  h.same (fun i => set7_far _ _ _ _ _ _ hb) (fun i => set7_frozen _ _ _ _ _ _)
theorem TU.far7 {w : World} {B b : Nat} {a c z' a' c' : Pt} {p' : Int} (h : TU w b a c) (hb : b ≠ B) : TU (set7 w B z' a' c' p') b a c :=
  h.same (fun i => set7_far _ _ _ _ _ _ hb) (fun i => set7_frozen _ _ _ _ _ _)
theorem RB.set7 {w : World} {B : Nat} {z a c z' a' c' : Pt} {p p' : Int} (h : RB w B z a c p) : RB (set7 w B z' a' c' p') B z' a' c' p' := by
  have o : ∀ (W : World) (i j : Nat) (v : Value), j ≠ i → (W.setCell ⟨B, i, none⟩ v).cell? ⟨B, j, none⟩ = W.cell? ⟨B, j, none⟩ := fun W i j v hj => set_other hj
  refine ⟨?_, ?_, ?_, ?_, ?_, ?_, ?_, ?_, ?_, ?_, ?_, ?_, ?_, ?_⟩
  · rw [o _ _ _ _ (by decide), o _ _ _ _ (by decide), o _ _ _ _ (by decide), o _ _ _ _ (by decide), o _ _ _ _ (by decide), o _ _ _ _ (by decide)]; exact set_same h.x0
  · rw [o _ _ _ _ (by decide), o _ _ _ _ (by decide), o _ _ _ _ (by decide), o _ _ _ _ (by decide), o _ _ _ _ (by decide)]; exact set_same (by rw [o _ _ _ _ (by decide)]; exact h.x1)
  · rw [o _ _ _ _ (by decide), o _ _ _ _ (by decide), o _ _ _ _ (by decide), o _ _ _ _ (by decide)]; exact set_same (by rw [o _ _ _ _ (by decide), o _ _ _ _ (by decide)]; exact h.x2)
  · rw [o _ _ _ _ (by decide), o _ _ _ _ (by decide), o _ _ _ _ (by decide)]; exact set_same (by rw [o _ _ _ _ (by decide), o _ _ _ _ (by decide), o _ _ _ _ (by decide)]; exact h.x3)
  · rw [o _ _ _ _ (by decide), o _ _ _ _ (by decide)]; exact set_same (by rw [o _ _ _ _ (by decide), o _ _ _ _ (by decide), o _ _ _ _ (by decide), o _ _ _ _ (by decide)]; exact h.x4)
  · rw [o _ _ _ _ (by decide)]; exact set_same (by rw [o _ _ _ _ (by decide), o _ _ _ _ (by decide), o _ _ _ _ (by decide), o _ _ _ _ (by decide), o _ _ _ _ (by decide)]; exact h.x5)
  · exact set_same (by rw [o _ _ _ _ (by decide), o _ _ _ _ (by decide), o _ _ _ _ (by decide), o _ _ _ _ (by decide), o _ _ _ _ (by decide), o _ _ _ _ (by decide)]; exact h.x6)
  · exact (set7_frozen _ _ _ _ _ _).trans h.f0
  · exact (set7_frozen _ _ _ _ _ _).trans h.f1
  · exact (set7_frozen _ _ _ _ _ _).trans h.f2
  · exact (set7_frozen _ _ _ _ _ _).trans h.f3
  · exact (set7_frozen _ _ _ _ _ _).trans h.f4
  · exact (set7_frozen _ _ _ _ _ _).trans h.f5
  · exact (set7_frozen _ _ _ _ _ _).trans h.f6
theorem RB.setz {w : World} {B : Nat} {z a c z' : Pt} {p : Int} (h : RB w B z a c p) : RB ((w.setCell ⟨B, 0, none⟩ (.int .i64 z'.1)).setCell ⟨B, 1, none⟩ (.int .i64 z'.2)) B z' a c p := by
  have o : ∀ j v v', 2 ≤ j → ((w.setCell ⟨B, 0, none⟩ v).setCell ⟨B, 1, none⟩ v').cell? ⟨B, j, none⟩ = w.cell? ⟨B, j, none⟩ := fun j v v' hj => (set_other (by omega)).trans (set_other (by omega))
  refine ⟨(set_other (by decide)).trans (set_same h.x0), set_same ((set_other (by decide)).trans h.x1), (o _ _ _ (by decide)).trans h.x2, (o _ _ _ (by decide)).trans h.x3, (o _ _ _ (by decide)).trans h.x4, (o _ _ _ (by decide)).trans h.x5, (o _ _ _ (by decide)).trans h.x6, ?_, ?_, ?_, ?_, ?_, ?_, ?_⟩
  all_goals rw [set_frozen, set_frozen]
  · exact h.f0
  · exact h.f1
  · exact h.f2
  · exact h.f3
  · exact h.f4
  · exact h.f5
  · exact h.f6

/-- done's own memory -/
structure DM (w W : World) (ta tc z a c : Pt) (p : Int) : Prop where
  t : TU W w.heap.size ta tc
  b : RB W (w.heap.size + 1) z a c p
  r : RB W (w.heap.size + 2) (0, 0) (0, 0) (0, 0) 0
  bel : Below w.heap.size w W
theorem DM.below {w W W' : World} {ta tc z a c : Pt} {p : Int} (h : DM w W ta tc z a c p) (hb : Below W.heap.size W W') : DM w W' ta tc z a c p := ⟨h.t.up hb, h.b.up hb, h.r.up hb, below_trans h.bel hb⟩
theorem DM.drew {w W : World} {ta tc z a c : Pt} {p : Int} (h : DM w W ta tc z a c p) : DM w W.drew ta tc z a c p := h.below (Below.refl _ _).drew
theorem DM.all {w W : World} {ta tc z a c : Pt} {p : Int} (h : DM w W ta tc z a c p) : W.cell? ⟨w.heap.size, 0, none⟩ = some (cxV ta) ∧ W.cell? ⟨w.heap.size, 1, none⟩ = some (cxV tc) ∧ W.cell? ⟨w.heap.size + 1, 6, none⟩ = some (.int .i64 p) := ⟨h.t.x0, h.t.x1, h.b.x6⟩
theorem DM.setz {w W : World} {ta tc z a c z' : Pt} {p : Int} (h : DM w W ta tc z a c p) : DM w ((W.setCell ⟨w.heap.size + 1, 0, none⟩ (.int .i64 z'.1)).setCell ⟨w.heap.size + 1, 1, none⟩ (.int .i64 z'.2)) ta tc z' a c p :=
  ⟨(h.t.far (by show w.heap.size + 1 ≠ w.heap.size; omega) _).far (by show w.heap.size + 1 ≠ w.heap.size; omega) _, h.b.setz,
    (h.r.far (by show w.heap.size + 1 ≠ w.heap.size + 2; omega) _).far (by show w.heap.size + 1 ≠ w.heap.size + 2; omega) _,
    (h.bel.setCell (by show w.heap.size ≤ w.heap.size + 1; omega) _).setCell (by show w.heap.size ≤ w.heap.size + 1; omega) _⟩
theorem DM.stored {w W : World} {ta tc z a c z' : Pt} {p : Int} (h : DM w W ta tc z a c p) : ((W.setCell ⟨w.heap.size + 1, 0, none⟩ (.int .i64 z'.1)).setCell ⟨w.heap.size + 1, 1, none⟩ (.int .i64 z'.2)).cell? ⟨w.heap.size, 0, none⟩ = some (cxV ta) ∧ ((W.setCell ⟨w.heap.size + 1, 0, none⟩ (.int .i64 z'.1)).setCell ⟨w.heap.size + 1, 1, none⟩ (.int .i64 z'.2)).cell? ⟨w.heap.size, 1, none⟩ = some (cxV tc) ∧ ((W.setCell ⟨w.heap.size + 1, 0, none⟩ (.int .i64 z'.1)).setCell ⟨w.heap.size + 1, 1, none⟩ (.int .i64 z'.2)).cell? ⟨w.heap.size + 1, 6, none⟩ = some (.int .i64 p) := h.setz.all

set_option maxRecDepth 10000 in
set_option maxHeartbeats 1000000 in
theorem rdone_any (ta tc z a c : Pt) (p : Int) (w : World) (hp : 2 ≤ p ∧ p ≤ 1000) (ht : inP p ta) (hc : inP p tc) (hz : inP p z) :
    Calls Try.prog 82 #[turnV ta tc, rotV z a c p] w fun e w' => e = .returned (rotV (ap ta tc p z) a c p) ∧ Below w.heap.size w w' := by
  obtain ⟨t1, t2, t3, t4⟩ := ht
  obtain ⟨c1, c2, c3, c4⟩ := hc
  obtain ⟨z1, z2, z3, z4⟩ := hz
  have m1 := mul_u hp.2 z1 z2 t1 t2
  have m2 := mul_u hp.2 z3 z4 t3 t4
  have m3 := mul_u hp.2 z1 z2 t3 t4
  have m4 := mul_u hp.2 z3 z4 t1 t2
  obtain ⟨re, im, hs, vre, vim⟩ := fl_cmul (fr_fl z.1 (by omega)) (fr_fl z.2 (by omega)) (fr_fl ta.1 (by omega)) (fr_fl ta.2 (by omega)) (by omega) (by omega)
  have hmul := fun W => run_complex_mul (P := Try.prog) W 101 _ _ _ _ re im hs
  obtain ⟨re2, im2, hs2, vre2, vim2⟩ := fl_csum .add (.inl rfl) vre vim (fr_fl tc.1 (by omega)) (fr_fl tc.2 (by omega)) (by omega) (by omega)
  have hadd := fun W => run_complex_sum (P := Try.prog) W .add (.inl rfl) 101 .f64 _ _ _ _ re2 im2 hs2
  rw [if_pos rfl] at vre2 vim2
  have hof := fun W => rof_any z W
  have hrest := fun W => rest_any re2 im2 _ _ p W vre2 vim2 (by omega) (by omega) (by omega) (by omega) (by omega) (by omega)
  have hrest : ∀ W, Calls Try.prog 92 #[.complex .f64 re2 im2, .int .i64 p] W fun e w' => e = .returned (cxV (ap ta tc p z)) ∧ Below W.heap.size W w' := hrest
  have hi := inP.ap hp.1 ta tc z
  have hnum := fun W => rnum_any (ap ta tc p z) W (by have := hi.1; omega) (by have := hi.2.1; omega) (by have := hi.2.2.1; omega) (by have := hi.2.2.2; omega)
  clear m1 m2 m3 m4 vre vim vre2 vim2 hs hs2 t1 t2 t3 t4 c1 c2 c3 c4 z1 z2 z3 z4 hi
  generalize ap ta tc p z = z' at *
  go_enter Try.func82, Try.ntmps82
  go_upto_region 1 with fail
  refine wp_gen (fun W => DM w W ta tc z a c p) ?_ ?_
  · refine ⟨((TU.new w ta tc _).up (below_one _ _)).up (below_one _ _), ?_, ?_, below_three _ _ _ _⟩
    · constructor <;> (simp [go_sem]; done)
    · constructor <;> (simp [go_sem]; done)
  intro W hT
  have hb := hT.b
  obtain ⟨h0, h1, h6⟩ := hT.all
  have hx0 := hb.x0
  have hx1 := hb.x1
  refine wp_region_noPanic ?_
  refine wp_region_held_drew (S := fun W => W.cell? ⟨w.heap.size, 0, none⟩ = some (cxV ta) ∧ W.cell? ⟨w.heap.size, 1, none⟩ = some (cxV tc) ∧ W.cell? ⟨w.heap.size + 1, 6, none⟩ = some (.int .i64 p)) (by kernel_rfl) (hT.drew.all) (fun hHeld => ?_)
  refine wpAnyH_take (i := 0) (oi := _) (v := ?_) rfl (by kernel_rfl) (by kernel_rfl) (by kernel_rfl) (fun _ _ _ h => h) (Or.inl ⟨by rfl, ?_⟩) (by assumption) ?_
  rotate_left
  · intro w hSw; (try dsimp only at hSw); go_simp; try with_reducible rfl
  try simp only [Act.put, List.setIfInBounds_toArray, List.set_cons_zero, List.set_cons_succ]
  refine wpAnyH_take (i := 3) (oi := _) (v := ?_) rfl (by kernel_rfl) (by kernel_rfl) (by kernel_rfl) (fun _ _ _ h => h) (Or.inl ⟨by rfl, ?_⟩) (by assumption) ?_
  rotate_left
  · intro w hSw; (try dsimp only at hSw); go_simp; try with_reducible rfl
  try simp only [Act.put, List.setIfInBounds_toArray, List.set_cons_zero, List.set_cons_succ]
  refine wpAnyH_take (i := 4) (oi := _) (v := ?_) rfl (by kernel_rfl) (by kernel_rfl) (by kernel_rfl) (fun _ _ _ h => h) (Or.inl ⟨by rfl, ?_⟩) (by assumption) ?_
  rotate_left
  · intro w hSw; (try dsimp only at hSw); go_simp; try with_reducible rfl
  try simp only [Act.put, List.setIfInBounds_toArray, List.set_cons_zero, List.set_cons_succ]
  refine wpAnyH_take (i := 6) (oi := _) (v := ?_) rfl (by kernel_rfl) (by kernel_rfl) (by kernel_rfl) (fun _ _ _ h => h) (Or.inl ⟨by rfl, ?_⟩) (by assumption) ?_
  rotate_left
  · intro w hSw; (try dsimp only at hSw); go_simp; try with_reducible rfl
  try simp only [Act.put, List.setIfInBounds_toArray, List.set_cons_zero, List.set_cons_succ]
  refine wpAnyH_take (i := 7) (oi := _) (v := ?_) rfl (by kernel_rfl) (by kernel_rfl) (by kernel_rfl) (fun _ _ _ h => h) (Or.inl ⟨by rfl, ?_⟩) (by assumption) ?_
  rotate_left
  · intro w hSw; (try dsimp only at hSw); go_simp; try with_reducible rfl
  try simp only [Act.put, List.setIfInBounds_toArray, List.set_cons_zero, List.set_cons_succ]
  refine wpAnyH_take (i := 9) (oi := _) (v := ?_) rfl (by kernel_rfl) (by kernel_rfl) (by kernel_rfl) (fun _ _ _ h => h) (Or.inl ⟨by rfl, ?_⟩) (by assumption) ?_
  rotate_left
  · intro w hSw; (try dsimp only at hSw); go_simp; try with_reducible rfl
  try simp only [Act.put, List.setIfInBounds_toArray, List.set_cons_zero, List.set_cons_succ]
  refine wpAnyH_take (i := 10) (oi := _) (v := ?_) rfl (by kernel_rfl) (by kernel_rfl) (by kernel_rfl) (fun _ _ _ h => h) (Or.inl ⟨by rfl, ?_⟩) (by assumption) ?_
  rotate_left
  · intro w hSw; (try dsimp only at hSw); go_simp; try with_reducible rfl
  try simp only [Act.put, List.setIfInBounds_toArray, List.set_cons_zero, List.set_cons_succ]
  refine wpAnyH_ready (rs := [1]) (by kernel_rfl) (by simp) ?_
  refine AllReadyH.cons (o := _) rfl (fun K hK => ?_) AllReadyH.nil
  go_simp
  refine hK.out _ _ (hT.drew.all) (fun hHeld => ?_)
  clear hK K
  try simp only [Act.put, List.setIfInBounds_toArray, List.set_cons_zero, List.set_cons_succ]
  refine wpAnyH_ready (rs := [2]) (by kernel_rfl) (by simp) ?_
  refine AllReadyH.cons (o := _) rfl (fun K hK => ?_) AllReadyH.nil
  go_simp
  go_at_call 90
  with_reducible refine (hof _).mono ?_
  rintro e w3 ⟨rfl, hb3⟩
  have st3 := DM.below hT.drew hb3
  refine hK.out _ _ (st3.all) (fun hHeld => ?_)
  clear hK K
  try simp only [Act.put, List.setIfInBounds_toArray, List.set_cons_zero, List.set_cons_succ]
  refine wpAnyH_take (i := 5) (oi := _) (v := ?_) rfl (by kernel_rfl) (by kernel_rfl) (by kernel_rfl) (fun _ _ _ h => h) (Or.inl ⟨by rfl, ?_⟩) (by assumption) ?_
  rotate_left
  · intro w hSw; (try dsimp only at hSw); go_simp; try with_reducible rfl
  try simp only [Act.put, List.setIfInBounds_toArray, List.set_cons_zero, List.set_cons_succ]
  refine wpAnyH_take (i := 8) (oi := _) (v := ?_) rfl (by kernel_rfl) (by kernel_rfl) (by kernel_rfl) (fun _ _ _ h => h) (Or.inl ⟨by rfl, ?_⟩) (by assumption) ?_
  rotate_left
  · intro w hSw; (try dsimp only at hSw); go_simp; try with_reducible rfl
  try simp only [Act.put, List.setIfInBounds_toArray, List.set_cons_zero, List.set_cons_succ]
  refine wpAnyH_ready (rs := [11]) (by kernel_rfl) (by simp) ?_
  refine AllReadyH.cons (o := _) rfl (fun K hK => ?_) AllReadyH.nil
  go_simp
  go_at_call 92
  with_reducible refine (hrest _).mono ?_
  rintro e w4 ⟨rfl, hb4⟩
  have st4 := DM.below st3 hb4
  refine hK.out _ _ (st4.all) (fun hHeld => ?_)
  clear hK K
  try simp only [Act.put, List.setIfInBounds_toArray, List.set_cons_zero, List.set_cons_succ]
  refine wpAnyH_ready (rs := [12]) (by kernel_rfl) (by simp) ?_
  refine AllReadyH.cons (o := _) rfl (fun K hK => ?_) AllReadyH.nil
  go_simp
  go_at_call 91
  with_reducible refine (hnum _).mono ?_
  rintro e w5 ⟨rfl, hb5⟩
  have st5 := DM.below st4 hb5
  have hr0 := st5.b.x0
  have hr1 := st5.b.x1
  have hf0 := st5.b.f0
  have hf1 := st5.b.f1
  refine hK.out _ _ (st5.all) (fun hHeld => ?_)
  clear hK K
  try simp only [Act.put, List.setIfInBounds_toArray, List.set_cons_zero, List.set_cons_succ]
  refine wpAnyH_take (i := 13) (oi := _) (v := ?_) rfl (by kernel_rfl) (by kernel_rfl) (by kernel_rfl) (fun _ _ _ h => h) (Or.inl ⟨by rfl, ?_⟩) (by assumption) ?_
  rotate_left
  · intro w hSw; (try dsimp only at hSw); go_simp; try with_reducible rfl
  try simp only [Act.put, List.setIfInBounds_toArray, List.set_cons_zero, List.set_cons_succ]
  refine wpAnyH_ready (rs := [14]) (by kernel_rfl) (by simp) ?_
  refine AllReadyH.cons (o := _) rfl (fun K hK => ?_) AllReadyH.nil
  go_simp
  refine hK.out _ _ (st5.stored) (fun hHeld => ?_)
  clear hK K
  try simp only [Act.put, List.setIfInBounds_toArray, List.set_cons_zero, List.set_cons_succ]
  try simp only [List.getElem_toArray, List.getElem_cons_succ, List.getElem_cons_zero]
  refine wpAnyH_done (by kernel_rfl) ?_ _
  refine NoPanic.normal ?_
  have hD := DM.setz (z' := z') st5
  clear h0 h1 h6 hx0 hx1 hb hT st3 st4 st5 hr0 hr1 hf0 hf1 hb3 hb4 hb5 hof hrest hnum hmul hadd
  generalize ((w5.setCell ⟨w.heap.size + 1, 0, none⟩ (.int .i64 z'.1)).setCell ⟨w.heap.size + 1, 1, none⟩ (.int .i64 z'.2)) = W2 at hD ⊢
  have hT := hD
  obtain ⟨x0, x1, x2, x3, x4, x5, x6, f0, f1, f2, f3, f4, f5, f6⟩ := hT.b
  obtain ⟨y0, y1, y2, y3, y4, y5, y6, g0, g1, g2, g3, g4, g5, g6⟩ := hT.r
  go_wp2
  exact bodyPost_ret (v := rotV z' a c p) (by simp [results, Try.results82, go_sem, y0, y1, y2, y3, y4, y5, y6]) rfl ⟨rfl, below_set7 hT.bel (by omega)⟩

end Go.Proofs.Ytebhojbllhjkeaa
