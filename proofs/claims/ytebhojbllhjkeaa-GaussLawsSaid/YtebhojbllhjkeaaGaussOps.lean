/- gauss.Add, Mul, Turn, Conj and Norm: for any numbers, the sum, product, turn, conjugate and norm, if it may be; else none. -/
import Derived.Test.YtebhojbllhjkeaaToldAdd
import Derived.Test.YtebhojbllhjkeaaToldMul
import Derived.Test.YtebhojbllhjkeaaToldTurn
import Derived.Test.YtebhojbllhjkeaaToldConj
namespace Go.Proofs.Ytebhojbllhjkeaa
open Go.RowKit
set_option linter.all false

/-- what two numbers give, if all may be -/
abbrev opV (a b c d x y : Int) : Value := toldV (rightB a b && rightB c d && rightB x y) x y

theorem opV_no {a b c d x y : Int} (h : ¬ (rightB a b && rightB c d) = true) : toldV false 0 0 = opV a b c d x y := by
  have h := eq_false_of_ne_true h
  simp [toldV, h]
theorem opV_yes {a b c d x y : Int} (h : (rightB a b && rightB c d) = true) : toldV (rightB x y) x y = opV a b c d x y := by
  simp [toldV, h]

theorem mul_bd {a b : Int} (ha : -1048576 ≤ a ∧ a ≤ 1048576) (hb : -1048576 ≤ b ∧ b ≤ 1048576) : -1099511627776 ≤ a * b ∧ a * b ≤ 1099511627776 := by
  have h : (a * b).natAbs ≤ 1048576 * 1048576 := by
    rw [Int.natAbs_mul]
    exact Nat.mul_le_mul (by omega) (by omega)
  omega

theorem told_sum (a b c d : Int) (w : World) :
    Calls Try.prog 69 #[numV a b, numV c d, .func (Fn.func 70) #[] #[]] w fun e w' => e = .returned (opV a b c d (a + c) (b + d)) ∧ Below w.heap.size w w' := by
  by_cases h : (rightB a b && rightB c d) = true
  · have h' := h
    rw [Bool.and_eq_true] at h'
    obtain ⟨h1, h2⟩ := h'
    obtain ⟨p, q⟩ := of_rightB h1
    obtain ⟨r, s⟩ := of_rightB h2
    refine (told_add a b c d (a + c) (b + d) w (by omega) (by omega) (by omega) (by omega) (fun u v W hu hv => sum_fn u v a b c d W hu hv (by omega) (by omega)) h1 h2).mono ?_
    rintro e w' ⟨rfl, hb⟩
    exact ⟨by rw [opV_yes h], hb⟩
  · refine (told_add_no a b c d w (eq_false_of_ne_true h)).mono ?_
    rintro e w' ⟨rfl, hb⟩
    exact ⟨by rw [opV_no h], hb⟩

theorem told_prod (a b c d : Int) (w : World) :
    Calls Try.prog 69 #[numV a b, numV c d, .func (Fn.func 72) #[] #[]] w fun e w' => e = .returned (opV a b c d (a * c - b * d) (a * d + b * c)) ∧ Below w.heap.size w w' := by
  by_cases h : (rightB a b && rightB c d) = true
  · have h' := h
    rw [Bool.and_eq_true] at h'
    obtain ⟨h1, h2⟩ := h'
    obtain ⟨p, q⟩ := of_rightB h1
    obtain ⟨r, s⟩ := of_rightB h2
    have m1 := mul_bd p r
    have m2 := mul_bd q s
    have m3 := mul_bd p s
    have m4 := mul_bd q r
    refine (told_mul a b c d (a * c - b * d) (a * d + b * c) w (by omega) (by omega) (by omega) (by omega) (fun u v W hu hv => mul_fn u v a b c d W hu hv (by omega) (by omega)) h1 h2).mono ?_
    rintro e w' ⟨rfl, hb⟩
    exact ⟨by rw [opV_yes h], hb⟩
  · refine (told_mul_no a b c d w (eq_false_of_ne_true h)).mono ?_
    rintro e w' ⟨rfl, hb⟩
    exact ⟨by rw [opV_no h], hb⟩

theorem told_turned (a b c d : Int) (w : World) :
    Calls Try.prog 69 #[numV a b, numV c d, .func (Fn.func 74) #[] #[]] w fun e w' => e = .returned (opV a b c d (a * c - b * d) (a * d + b * c)) ∧ Below w.heap.size w w' := by
  by_cases h : (rightB a b && rightB c d) = true
  · have h' := h
    rw [Bool.and_eq_true] at h'
    obtain ⟨h1, h2⟩ := h'
    obtain ⟨p, q⟩ := of_rightB h1
    obtain ⟨r, s⟩ := of_rightB h2
    have m1 := mul_bd p r
    have m2 := mul_bd q s
    have m3 := mul_bd p s
    have m4 := mul_bd q r
    refine (told_turn a b c d (a * c - b * d) (a * d + b * c) w (by omega) (by omega) (by omega) (by omega) (fun u v W hu hv => turn_fn u v a b c d W hu hv (by omega) (by omega)) h1 h2).mono ?_
    rintro e w' ⟨rfl, hb⟩
    exact ⟨by rw [opV_yes h], hb⟩
  · refine (told_turn_no a b c d w (eq_false_of_ne_true h)).mono ?_
    rintro e w' ⟨rfl, hb⟩
    exact ⟨by rw [opV_no h], hb⟩

theorem told_conjugate (a b c d : Int) (w : World) :
    Calls Try.prog 69 #[numV a b, numV c d, .func (Fn.func 75) #[] #[]] w fun e w' => e = .returned (opV a b c d a (-b)) ∧ Below w.heap.size w w' := by
  by_cases h : (rightB a b && rightB c d) = true
  · have h' := h
    rw [Bool.and_eq_true] at h'
    obtain ⟨h1, h2⟩ := h'
    obtain ⟨p, q⟩ := of_rightB h1
    refine (told_conj a b c d a (-b) w (by omega) (by omega) (by omega) (by omega) (fun u v W hu hv => conj_fn u v a b c d W hu hv) h1 h2).mono ?_
    rintro e w' ⟨rfl, hb⟩
    exact ⟨by rw [opV_yes h], hb⟩
  · refine (told_conj_no a b c d w (eq_false_of_ne_true h)).mono ?_
    rintro e w' ⟨rfl, hb⟩
    exact ⟨by rw [opV_no h], hb⟩

set_option maxRecDepth 10000 in
set_option maxHeartbeats 800000 in
theorem add_any (a b c d : Int) (w : World) :
    Calls Try.prog 33 #[numV a b, numV c d] w fun e w' => e = .returned (opV a b c d (a + c) (b + d)) ∧ Below w.heap.size w w' := by
  have St0 := Lib.hid (TB.new w a b c d 50)
  have ht := fun W => told_sum a b c d W
  obtain ⟨r1, r2, ok, hv⟩ : ∃ r1 r2 ok, opV a b c d (a + c) (b + d) = .tuple #[numV r1 r2, .bool ok] := ⟨_, _, _, rfl⟩
  rw [hv] at ht ⊢
  clear hv
  go_enter Try.func33, Try.ntmps33
  go_wp2_with (go_at_call 69; refine (ht _).mono ?_; rintro e w1 ⟨rfl, hb1⟩; obtain ⟨hx0, hx1, hy0, hy1, hr0, hr1, hf0, hf1, hbel, hsz⟩ := St0.out.below hb1)
  exact bodyPost_ret (v := .tuple #[numV r1 r2, .bool ok]) (by simp [results, Try.results33, go_sem, hr0, hr1]) rfl ⟨rfl, (hbel.setCell (by show w.heap.size ≤ w.heap.size + 1 + 1; omega) _).setCell (by show w.heap.size ≤ w.heap.size + 1 + 1; omega) _⟩

set_option maxRecDepth 10000 in
set_option maxHeartbeats 800000 in
theorem mul_any (a b c d : Int) (w : World) :
    Calls Try.prog 35 #[numV a b, numV c d] w fun e w' => e = .returned (opV a b c d (a * c - b * d) (a * d + b * c)) ∧ Below w.heap.size w w' := by
  have St0 := Lib.hid (TB.new w a b c d 50)
  have ht := fun W => told_prod a b c d W
  obtain ⟨r1, r2, ok, hv⟩ : ∃ r1 r2 ok, opV a b c d (a * c - b * d) (a * d + b * c) = .tuple #[numV r1 r2, .bool ok] := ⟨_, _, _, rfl⟩
  rw [hv] at ht ⊢
  clear hv
  go_enter Try.func35, Try.ntmps35
  go_wp2_with (go_at_call 69; refine (ht _).mono ?_; rintro e w1 ⟨rfl, hb1⟩; obtain ⟨hx0, hx1, hy0, hy1, hr0, hr1, hf0, hf1, hbel, hsz⟩ := St0.out.below hb1)
  exact bodyPost_ret (v := .tuple #[numV r1 r2, .bool ok]) (by simp [results, Try.results35, go_sem, hr0, hr1]) rfl ⟨rfl, (hbel.setCell (by show w.heap.size ≤ w.heap.size + 1 + 1; omega) _).setCell (by show w.heap.size ≤ w.heap.size + 1 + 1; omega) _⟩

set_option maxRecDepth 10000 in
set_option maxHeartbeats 800000 in
theorem conj_any (a b : Int) (w : World) :
    Calls Try.prog 39 #[numV a b] w fun e w' => e = .returned (opV a b a b a (-b)) ∧ Below w.heap.size w w' := by
  have ht := fun W => told_conjugate a b a b W
  obtain ⟨r1, r2, ok, hv⟩ : ∃ r1 r2 ok, opV a b a b a (-b) = .tuple #[numV r1 r2, .bool ok] := ⟨_, _, _, rfl⟩
  rw [hv] at ht ⊢
  clear hv
  go_enter Try.func39, Try.ntmps39
  go_wp2_with (go_at_call 69; refine (ht _).mono ?_; rintro e w1 ⟨rfl, hb1⟩; obtain ⟨hcl, hfr⟩ := bcell hb1; obtain ⟨hz0, hz1⟩ := size_two hb1)
  exact bodyPost_ret (v := .tuple #[numV r1 r2, .bool ok]) (by simp [results, Try.results39, go_sem, hcl]) rfl ⟨rfl, ((below_trans (below_two _ _ _) hb1).setCell (by show w.heap.size ≤ w.heap.size + 1; omega) _).setCell (by show w.heap.size ≤ w.heap.size + 1; omega) _⟩

/-- the norm; -1: it may not be -/
def normI (a b : Int) : Int := if rightB a b = true then a * a + b * b else -1

set_option maxRecDepth 10000 in
set_option maxHeartbeats 800000 in
theorem norm_any (a b : Int) (w : World) :
    Calls Try.prog 44 #[numV a b] w fun e w' => e = .returned (.int .i64 (normI a b)) ∧ Below w.heap.size w w' := by
  by_cases h : rightB a b = true
  · have Hn := Lib.hid (show normI a b = a * a + b * b from if_pos h)
    obtain ⟨p, q⟩ := of_rightB h
    have m1 := mul_bd p p
    have m2 := mul_bd q q
    have e1 : IntKind.i64.wrap (a * a) = a * a := by rw [IntKind.wrap_i64]; omega
    have e2 : IntKind.i64.wrap (b * b) = b * b := by rw [IntKind.wrap_i64]; omega
    have e3 : IntKind.i64.wrap (a * a + b * b) = a * a + b * b := by rw [IntKind.wrap_i64]; omega
    clear p q m1 m2
    go_enter Try.func44, Try.ntmps44
    go_wp2_with (go_at_call 46; refine (right_any a b _).mono ?_; rintro e w1 ⟨rfl, hb1⟩; obtain ⟨hcl, hfr⟩ := bcell hb1; have hz0 := size_one hb1)
    go_ret
    exact ⟨ret_int (by rw [Hn.out]), below_trans (below_one _ _) hb1⟩
  · have Hn := Lib.hid (show normI a b = -1 from if_neg h)
    have h := eq_false_of_ne_true h
    go_enter Try.func44, Try.ntmps44
    go_wp2_with (go_at_call 46; refine (right_any a b _).mono ?_; rintro e w1 ⟨rfl, hb1⟩; obtain ⟨hcl, hfr⟩ := bcell hb1; have hz0 := size_one hb1)
    go_ret
    exact ⟨ret_int (by rw [Hn.out]), below_trans (below_one _ _) hb1⟩
end Go.Proofs.Ytebhojbllhjkeaa
