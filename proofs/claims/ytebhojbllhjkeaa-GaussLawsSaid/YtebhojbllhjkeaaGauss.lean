/- The contracts of gauss' inner functions: of, num, within, Right, and the functions that its operations hand on. -/
import Derived.Test.YtebhojbllhjkeaaRows
import Derived.Test.YtebhojbllhjkeaaKit
import Derived.Test.YtebhojbllhjkeaaFloat
import Derived.WalkKit
import Derived.WalkSpells
import Derived.WalkLawsBesides
import Derived.Lib.Hide
import Derived.Deep.QuietTactic
import Derived.BigQuiet
import Derived.Deep.DeepCutAuto
import Derived.Deep.RegionHeld3
namespace Go.Proofs.Ytebhojbllhjkeaa
open Go.RowKit
set_option linter.all false

/-- may a part be so great? -/
def wiB (n : Int) : Bool := decide (-1048576 ≤ n) && decide (n ≤ 1048576)
theorem wiB_of {n : Int} (h : -1048576 ≤ n ∧ n ≤ 1048576) : wiB n = true := by simp [wiB, h]
theorem of_wiB {n : Int} (h : wiB n = true) : -1048576 ≤ n ∧ n ≤ 1048576 := by simpa [wiB] using h
def rightB (a b : Int) : Bool := wiB a && wiB b
theorem of_rightB {a b : Int} (h : rightB a b = true) : (-1048576 ≤ a ∧ a ≤ 1048576) ∧ (-1048576 ≤ b ∧ b ≤ 1048576) := by
  simp only [rightB, Bool.and_eq_true] at h
  exact ⟨of_wiB h.1, of_wiB h.2⟩
abbrev numV (a b : Int) : Value := .agg #[.int .i64 a, .int .i64 b]

set_option maxHeartbeats 400000 in
theorem within_any (n : Int) (w : World) : Calls Try.prog 76 #[.int .i64 n] w fun e w' => e = .returned (.bool (wiB n)) ∧ w' = w := by
  by_cases h : -1048576 ≤ n
  · by_cases h2 : n ≤ 1048576
    · have Hn := Lib.hid (wiB_of ⟨h, h2⟩)
      go_enter Try.func76, Try.ntmps76
      go_wp2
      go_ret
      exact ⟨ret_bool Hn.out.symm, rfl⟩
    · have Hn := Lib.hid (show wiB n = false by simp [wiB, h]; omega)
      have h3 : 1048576 < n := by omega
      go_enter Try.func76, Try.ntmps76
      go_wp2
      go_ret
      exact ⟨ret_bool Hn.out.symm, rfl⟩
  · have Hn := Lib.hid (show wiB n = false by simp [wiB]; omega)
    have h3 : n < -1048576 := by omega
    go_enter Try.func76, Try.ntmps76
    go_wp2
    go_ret
    exact ⟨ret_bool Hn.out.symm, rfl⟩

set_option maxHeartbeats 400000 in
theorem right_any (a b : Int) (w : World) : Calls Try.prog 46 #[numV a b] w fun e w' => e = .returned (.bool (rightB a b)) ∧ Below w.heap.size w w' := by
  by_cases h : wiB a = true
  · have Hn := Lib.hid (show rightB a b = wiB b by simp [rightB, h])
    go_enter Try.func46, Try.ntmps46
    go_wp2_with (go_at_call 76; refine (within_any _ _).mono ?_; rintro e w' ⟨rfl, rfl⟩)
    go_ret
    exact ⟨ret_bool Hn.out.symm, below_one _ _⟩
  · have h := eq_false_of_ne_true h
    have Hn := Lib.hid (show rightB a b = false by simp [rightB, h])
    go_enter Try.func46, Try.ntmps46
    go_wp2_with (go_at_call 76; refine (within_any _ _).mono ?_; rintro e w' ⟨rfl, rfl⟩)
    go_ret
    exact ⟨ret_bool Hn.out.symm, below_one _ _⟩

/-- the value stands for the complex number whose parts are the whole numbers a and b -/
def Cx (v : Value) (a b : Int) : Prop := ∃ x y, v = .complex .f64 x y ∧ Fl x a ∧ Fl y b

set_option maxHeartbeats 400000 in
theorem of_num (a b : Int) (w : World) (ha : a.natAbs < 9007199254740992) (hb : b.natAbs < 9007199254740992) :
    Calls Try.prog 79 #[numV a b] w fun e w' => ∃ v, e = .returned v ∧ Cx v a b ∧ Below w.heap.size w w' := by
  have Ha := Lib.hid (fl_ofInt a ha)
  have Hb := Lib.hid (fl_ofInt b hb)
  go_enter Try.func79, Try.ntmps79
  go_wp2
  go_ret
  exact ⟨_, rfl, ⟨_, _, rfl, Ha.out, Hb.out⟩, below_one _ _⟩

set_option maxRecDepth 10000 in
set_option maxHeartbeats 400000 in
theorem num_any (v : Value) (a b : Int) (w : World) (h : Cx v a b) (a0 : -9223372036854775808 ≤ a) (a1 : a ≤ 9223372036854775807) (b0 : -9223372036854775808 ≤ b) (b1 : b ≤ 9223372036854775807) :
    Calls Try.prog 73 #[v] w fun e w' => e = .returned (numV a b) ∧ Below w.heap.size w w' := by
  obtain ⟨x, y, rfl, hx, hy⟩ := h
  have cx := fun W => run_convert_float_int (P := Try.prog) W 106 3 .f64 .i64 x a (by kernel_rfl) Try.underlying3 (fl_toInt hx a0 a1)
  have cy := fun W => run_convert_float_int (P := Try.prog) W 106 3 .f64 .i64 y b (by kernel_rfl) Try.underlying3 (fl_toInt hy b0 b1)
  go_enter Try.func73, Try.ntmps73
  go_wp2
  exact bodyPost_ret (v := numV a b) (by simp [results, Try.results73, go_sem]) rfl ⟨rfl, below_one _ _⟩

set_option maxHeartbeats 400000 in
/-- sums -/
theorem sum_fn (u v : Value) (a b c d : Int) (w : World) (hu : Cx u a b) (hv : Cx v c d) (h1 : a.natAbs + c.natAbs < 9007199254740992) (h2 : b.natAbs + d.natAbs < 9007199254740992) :
    Calls Try.prog 70 #[u, v] w fun e w' => ∃ r, e = .returned r ∧ Cx r (a + c) (b + d) ∧ w' = w := by
  obtain ⟨x, y, rfl, hx, hy⟩ := hu
  obtain ⟨z, t, rfl, hz, ht⟩ := hv
  obtain ⟨re, im, hs, vre, vim⟩ := fl_csum .add (.inl rfl) hx hy hz ht h1 h2
  have hr := fun W => run_complex_sum (P := Try.prog) W .add (.inl rfl) 101 .f64 x y z t re im hs
  go_enter Try.func70, Try.ntmps70
  go_wp2
  go_ret
  exact ⟨_, rfl, ⟨_, _, rfl, vre, vim⟩, rfl⟩

set_option maxHeartbeats 400000 in
/-- products -/
theorem mul_fn (u v : Value) (a b c d : Int) (w : World) (hu : Cx u a b) (hv : Cx v c d) (h1 : (a * c).natAbs + (b * d).natAbs < 9007199254740992) (h2 : (a * d).natAbs + (b * c).natAbs < 9007199254740992) :
    Calls Try.prog 72 #[u, v] w fun e w' => ∃ r, e = .returned r ∧ Cx r (a * c - b * d) (a * d + b * c) ∧ w' = w := by
  obtain ⟨x, y, rfl, hx, hy⟩ := hu
  obtain ⟨z, t, rfl, hz, ht⟩ := hv
  obtain ⟨re, im, hs, vre, vim⟩ := fl_cmul hx hy hz ht h1 h2
  have hr := fun W => run_complex_mul (P := Try.prog) W 101 x y z t re im hs
  go_enter Try.func72, Try.ntmps72
  go_wp2
  go_ret
  exact ⟨_, rfl, ⟨_, _, rfl, vre, vim⟩, rfl⟩
set_option maxHeartbeats 400000 in
theorem turn_fn (u v : Value) (a b c d : Int) (w : World) (hu : Cx u a b) (hv : Cx v c d) (h1 : (a * c).natAbs + (b * d).natAbs < 9007199254740992) (h2 : (a * d).natAbs + (b * c).natAbs < 9007199254740992) :
    Calls Try.prog 74 #[u, v] w fun e w' => ∃ r, e = .returned r ∧ Cx r (a * c - b * d) (a * d + b * c) ∧ w' = w := by
  obtain ⟨x, y, rfl, hx, hy⟩ := hu
  obtain ⟨z, t, rfl, hz, ht⟩ := hv
  obtain ⟨re, im, hs, vre, vim⟩ := fl_cmul hx hy hz ht h1 h2
  have hr := fun W => run_complex_mul (P := Try.prog) W 101 x y z t re im hs
  go_enter Try.func74, Try.ntmps74
  go_wp2
  go_ret
  exact ⟨_, rfl, ⟨_, _, rfl, vre, vim⟩, rfl⟩

set_option maxHeartbeats 400000 in
/-- the conjugate -/
theorem conj_fn (u v : Value) (a b c d : Int) (w : World) (hu : Cx u a b) (hv : Cx v c d) :
    Calls Try.prog 75 #[u, v] w fun e w' => ∃ r, e = .returned r ∧ Cx r a (-b) ∧ w' = w := by
  obtain ⟨x, y, rfl, hx, hy⟩ := hu
  have hn : ∀ W, Sem.run Try.prog (Op.unary UnOp.neg (Value.float FloatKind.f64 y)) W = .ok (.float .f64 (Op.negFloat .f64 y)) W := fun _ => rfl
  go_enter Try.func75, Try.ntmps75
  go_wp2
  go_ret
  exact ⟨_, rfl, ⟨_, _, rfl, hx, fl_neg hy⟩, rfl⟩

/-- what an operation's result is -/
abbrev toldV (ok : Bool) (a b : Int) : Value := .tuple #[numV (if ok then a else 0) (if ok then b else 0), .bool ok]

/-- told's own memory: its two numbers, and what it will return -/
structure TB (w W : World) (a b c d : Int) : Prop where
  x0 : W.cell? ⟨w.heap.size, 0, none⟩ = some (.int .i64 a)
  x1 : W.cell? ⟨w.heap.size, 1, none⟩ = some (.int .i64 b)
  y0 : W.cell? ⟨w.heap.size + 1, 0, none⟩ = some (.int .i64 c)
  y1 : W.cell? ⟨w.heap.size + 1, 1, none⟩ = some (.int .i64 d)
  r0 : W.cell? ⟨w.heap.size + 2, 0, none⟩ = some (.int .i64 0)
  r1 : W.cell? ⟨w.heap.size + 2, 1, none⟩ = some (.int .i64 0)
  f0 : W.frozen? ⟨w.heap.size + 2, 0, none⟩ = false
  f1 : W.frozen? ⟨w.heap.size + 2, 1, none⟩ = false
  bel : Below w.heap.size w W
  sz : w.heap.size + 2 < W.heap.size
theorem TB.new (w : World) (a b c d : Int) (t : TypeId) : TB w (((w.alloc (.cells #[.int .i64 a, .int .i64 b] t)).alloc (.cells #[.int .i64 c, .int .i64 d] t)).alloc (.cells #[.int .i64 0, .int .i64 0] t)) a b c d := by
  have old : ∀ (W : World) (o : Obj) (i j : Nat), i < W.heap.size → (W.alloc o).cell? ⟨i, j, none⟩ = W.cell? ⟨i, j, none⟩ := fun W o i j hi => (below_one W o).cell (p := ⟨i, j, none⟩) hi
  have e1 : ∀ o : Obj, (w.alloc o).heap.size = w.heap.size + 1 := fun o => by simp
  have e2 : ∀ o o' : Obj, ((w.alloc o).alloc o').heap.size = w.heap.size + 2 := fun o o' => by simp
  have new : ∀ (W : World) (u v : Value) (B : Nat), W.heap.size = B → (W.alloc (.cells #[u, v] t)).cell? ⟨B, 0, none⟩ = some u ∧ (W.alloc (.cells #[u, v] t)).cell? ⟨B, 1, none⟩ = some v := by
    rintro W u v B rfl
    exact ⟨World.cell?_alloc_at _ _ _ _ rfl, World.cell?_alloc_at _ _ _ _ rfl⟩
  constructor
  case bel => exact below_three _ _ _ _
  · rw [old _ _ _ _ (by rw [e2]; omega), old _ _ _ _ (by rw [e1]; omega)]; exact (new w _ _ _ rfl).1
  · rw [old _ _ _ _ (by rw [e2]; omega), old _ _ _ _ (by rw [e1]; omega)]; exact (new w _ _ _ rfl).2
  · rw [old _ _ _ _ (by rw [e2]; omega)]; exact (new _ _ _ _ (e1 _)).1
  · rw [old _ _ _ _ (by rw [e2]; omega)]; exact (new _ _ _ _ (e1 _)).2
  · exact (new _ _ _ _ (e2 _ _)).1
  · exact (new _ _ _ _ (e2 _ _)).2
  · exact World.frozen?_alloc_at _ _ _ _ (e2 _ _).symm
  · exact World.frozen?_alloc_at _ _ _ _ (e2 _ _).symm
  · simp
theorem TB.below {w W W' : World} {a b c d : Int} (h : TB w W a b c d) (hb : Below W.heap.size W W') : TB w W' a b c d := by
  have hs := h.sz
  have hc := fun i o (hi : i < W.heap.size) => hb.cell (p := ⟨i, o, none⟩) hi
  have hf := fun i o (hi : i < W.heap.size) => hb.frozen (p := ⟨i, o, none⟩) hi
  exact ⟨(hc _ _ (by omega)).trans h.x0, (hc _ _ (by omega)).trans h.x1, (hc _ _ (by omega)).trans h.y0, (hc _ _ (by omega)).trans h.y1, (hc _ _ (by omega)).trans h.r0, (hc _ _ (by omega)).trans h.r1,
    (hf _ _ (by omega)).trans h.f0, (hf _ _ (by omega)).trans h.f1, below_trans h.bel hb, Nat.lt_of_lt_of_le hs hb.size⟩

abbrev TBS (w W : World) (a b c d : Int) : Prop :=
  W.cell? ⟨w.heap.size, 0, none⟩ = some (.int .i64 a) ∧ W.cell? ⟨w.heap.size, 1, none⟩ = some (.int .i64 b) ∧ W.cell? ⟨w.heap.size + 1, 0, none⟩ = some (.int .i64 c) ∧ W.cell? ⟨w.heap.size + 1, 1, none⟩ = some (.int .i64 d) ∧ TB w W a b c d
theorem TB.all {w W : World} {a b c d : Int} (h : TB w W a b c d) : TBS w W a b c d := ⟨h.x0, h.x1, h.y0, h.y1, h⟩
theorem TB.drew {w W : World} {a b c d : Int} (h : TB w W a b c d) : TB w W.drew a b c d := h.below (Below.refl _ _).drew
theorem TB.drewN {w W : World} {a b c d : Int} (h : TB w W a b c d) (n : Nat) : TB w (W.drewN n) a b c d := h.below (below_drewN (Below.refl _ _) n)
theorem TB.far2 {w W : World} {a b c d : Int} {Y : Nat} {u v : Value} (h : TB w W a b c d) (hY : w.heap.size + 2 < Y) : TB w ((W.setCell ⟨Y, 0, none⟩ u).setCell ⟨Y, 1, none⟩ v) a b c d := by
  have e : ∀ i o, i < Y → ((W.setCell ⟨Y, 0, none⟩ u).setCell ⟨Y, 1, none⟩ v).cell? ⟨i, o, none⟩ = W.cell? ⟨i, o, none⟩ := fun i o hi =>
    (set_far (by show Y ≠ i; omega)).trans (set_far (by show Y ≠ i; omega))
  refine ⟨?_, ?_, ?_, ?_, ?_, ?_, ?_, ?_, (h.bel.setCell (by show w.heap.size ≤ Y; omega) _).setCell (by show w.heap.size ≤ Y; omega) _, ?_⟩
  · rw [e _ _ (by omega)]; exact h.x0
  · rw [e _ _ (by omega)]; exact h.x1
  · rw [e _ _ (by omega)]; exact h.y0
  · rw [e _ _ (by omega)]; exact h.y1
  · rw [e _ _ (by omega)]; exact h.r0
  · rw [e _ _ (by omega)]; exact h.r1
  · rw [set_frozen, set_frozen]; exact h.f0
  · rw [set_frozen, set_frozen]; exact h.f1
  · have := h.sz
    simpa [World.setCell] using this
theorem TB.alloc {w W : World} {a b c d : Int} (h : TB w W a b c d) (o : Obj) : TB w (W.alloc o) a b c d := h.below (below_one _ _)

end Go.Proofs.Ytebhojbllhjkeaa
