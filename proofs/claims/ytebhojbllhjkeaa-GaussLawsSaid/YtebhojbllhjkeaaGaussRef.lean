/- The document's answers for numbers: Right, told, Add, Mul, Conj and Norm. -/
import Derived.Test.YtebhojbllhjkeaaGaussOps
import Derived.Deep.RegionHeld3
namespace Go.Proofs.Ytebhojbllhjkeaa
open Go.RowKit
set_option linter.all false

set_option maxHeartbeats 400000 in
theorem refWithin_any (n : Int) (w : World) : Calls Try.prog 77 #[.int .i64 n] w fun e w' => e = .returned (.bool (wiB n)) ∧ w' = w := by
  by_cases h : -1048576 ≤ n
  · by_cases h2 : n ≤ 1048576
    · have Hn := Lib.hid (wiB_of ⟨h, h2⟩)
      go_enter Try.func77, Try.ntmps77
      go_wp2
      go_ret
      exact ⟨ret_bool Hn.out.symm, rfl⟩
    · have Hn := Lib.hid (show wiB n = false by simp [wiB, h]; omega)
      have h3 : 1048576 < n := by omega
      go_enter Try.func77, Try.ntmps77
      go_wp2
      go_ret
      exact ⟨ret_bool Hn.out.symm, rfl⟩
  · have Hn := Lib.hid (show wiB n = false by simp [wiB]; omega)
    have h3 : n < -1048576 := by omega
    go_enter Try.func77, Try.ntmps77
    go_wp2
    go_ret
    exact ⟨ret_bool Hn.out.symm, rfl⟩

set_option maxHeartbeats 400000 in
theorem refRight_any (a b : Int) (w : World) : Calls Try.prog 47 #[numV a b] w fun e w' => e = .returned (.bool (rightB a b)) ∧ Below w.heap.size w w' := by
  by_cases h : wiB a = true
  · have Hn := Lib.hid (show rightB a b = wiB b by simp [rightB, h])
    go_enter Try.func47, Try.ntmps47
    go_wp2_with (go_at_call 77; refine (refWithin_any _ _).mono ?_; rintro e w' ⟨rfl, rfl⟩)
    go_ret
    exact ⟨ret_bool Hn.out.symm, below_one _ _⟩
  · have h := eq_false_of_ne_true h
    have Hn := Lib.hid (show rightB a b = false by simp [rightB, h])
    go_enter Try.func47, Try.ntmps47
    go_wp2_with (go_at_call 77; refine (refWithin_any _ _).mono ?_; rintro e w' ⟨rfl, rfl⟩)
    go_ret
    exact ⟨ret_bool Hn.out.symm, below_one _ _⟩

set_option maxRecDepth 10000 in
set_option maxHeartbeats 800000 in
theorem refTold_any (a b : Int) (is : Bool) (w : World) :
    Calls Try.prog 71 #[numV a b, .bool is] w fun e w' => e = .returned (toldV (is && rightB a b) a b) ∧ Below w.heap.size w w' := by
  cases is with
  | false =>
    go_enter Try.func71, Try.ntmps71
    go_wp2
    exact bodyPost_ret (v := .tuple #[numV 0 0, .bool false]) (by simp [results, Try.results71, go_sem]) rfl ⟨rfl, below_two _ _ _⟩
  | true =>
    by_cases h : rightB a b = true
    · have H := Lib.hid h
      go_enter Try.func71, Try.ntmps71
      go_wp2_with (go_at_call 47; refine (refRight_any _ _ _).mono ?_; rintro e w1 ⟨rfl, hb1⟩; obtain ⟨hcl, hfr⟩ := bcell hb1; obtain ⟨hz0, hz1⟩ := size_two hb1)
      exact bodyPost_ret (v := .tuple #[numV a b, .bool true]) (by simp [results, Try.results71, go_sem, hcl]) rfl ⟨by rw [H.out]; rfl, ((below_trans (below_two _ _ _) hb1).setCell (by show w.heap.size ≤ w.heap.size + 1; omega) _).setCell (by show w.heap.size ≤ w.heap.size + 1; omega) _⟩
    · have h := eq_false_of_ne_true h
      have H := Lib.hid h
      go_enter Try.func71, Try.ntmps71
      go_wp2_with (go_at_call 47; refine (refRight_any _ _ _).mono ?_; rintro e w1 ⟨rfl, hb1⟩; obtain ⟨hcl, hfr⟩ := bcell hb1; obtain ⟨hz0, hz1⟩ := size_two hb1)
      exact bodyPost_ret (v := .tuple #[numV 0 0, .bool false]) (by simp [results, Try.results71, go_sem, hcl]) rfl ⟨by rw [H.out]; rfl, ((below_trans (below_two _ _ _) hb1).setCell (by show w.heap.size ≤ w.heap.size + 1; omega) _).setCell (by show w.heap.size ≤ w.heap.size + 1; omega) _⟩

set_option maxRecDepth 10000 in
set_option maxHeartbeats 800000 in
theorem refConj_any (a b : Int) (w : World) :
    Calls Try.prog 40 #[numV a b] w fun e w' => e = .returned (opV a b a b a (-b)) ∧ Below w.heap.size w w' := by
  by_cases h : rightB a b = true
  · have hv : opV a b a b a (-b) = .tuple #[numV a (-b), .bool true] := by
      have h2 : rightB a (-b) = true := by
        obtain ⟨p, q⟩ := of_rightB h
        simp [rightB, wiB]; omega
      simp [opV, h, h2]
    obtain ⟨p, q⟩ := of_rightB h
    rw [hv]
    clear hv p
    go_enter Try.func40, Try.ntmps40
    go_wp2_with (go_at_call 47; refine (refRight_any _ _ _).mono ?_; rintro e w1 ⟨rfl, hb1⟩; obtain ⟨hcl, hfr⟩ := bcell hb1; obtain ⟨hz0, hz1⟩ := size_two hb1)
    exact bodyPost_ret (v := .tuple #[numV a (-b), .bool true]) (by simp [results, Try.results40, go_sem, hcl]) rfl ⟨rfl, ((below_trans (below_two _ _ _) hb1).setCell (by show w.heap.size ≤ w.heap.size + 1; omega) _).setCell (by show w.heap.size ≤ w.heap.size + 1; omega) _⟩
  · have h := eq_false_of_ne_true h
    have hv : opV a b a b a (-b) = .tuple #[numV 0 0, .bool false] := by simp [opV, h]
    rw [hv]
    clear hv
    go_enter Try.func40, Try.ntmps40
    go_wp2_with (go_at_call 47; refine (refRight_any _ _ _).mono ?_; rintro e w1 ⟨rfl, hb1⟩; obtain ⟨hcl, hfr⟩ := bcell hb1; obtain ⟨hz0, hz1⟩ := size_two hb1)
    exact bodyPost_ret (v := .tuple #[numV 0 0, .bool false]) (by simp [results, Try.results40, go_sem, hcl]) rfl ⟨rfl, ((below_trans (below_two _ _ _) hb1).setCell (by show w.heap.size ≤ w.heap.size + 1; omega) _).setCell (by show w.heap.size ≤ w.heap.size + 1; omega) _⟩

set_option maxRecDepth 10000 in
set_option maxHeartbeats 800000 in
theorem refNorm_any (a b : Int) (w : World) :
    Calls Try.prog 45 #[numV a b] w fun e w' => e = .returned (.int .i64 (normI a b)) ∧ Below w.heap.size w w' := by
  by_cases h : rightB a b = true
  · have Hn := Lib.hid (show normI a b = a * a + b * b from if_pos h)
    obtain ⟨p, q⟩ := of_rightB h
    have m1 := mul_bd p p
    have m2 := mul_bd q q
    have e1 : IntKind.i64.wrap (a * a) = a * a := by rw [IntKind.wrap_i64]; omega
    have e2 : IntKind.i64.wrap (b * b) = b * b := by rw [IntKind.wrap_i64]; omega
    have e3 : IntKind.i64.wrap (a * a + b * b) = a * a + b * b := by rw [IntKind.wrap_i64]; omega
    clear p q m1 m2
    go_enter Try.func45, Try.ntmps45
    go_wp2_with (go_at_call 47; refine (refRight_any a b _).mono ?_; rintro e w1 ⟨rfl, hb1⟩; obtain ⟨hcl, hfr⟩ := bcell hb1; have hz0 := size_one hb1)
    go_ret
    exact ⟨ret_int (by rw [Hn.out]), below_trans (below_one _ _) hb1⟩
  · have Hn := Lib.hid (show normI a b = -1 from if_neg h)
    have h := eq_false_of_ne_true h
    go_enter Try.func45, Try.ntmps45
    go_wp2_with (go_at_call 47; refine (refRight_any a b _).mono ?_; rintro e w1 ⟨rfl, hb1⟩; obtain ⟨hcl, hfr⟩ := bcell hb1; have hz0 := size_one hb1)
    go_ret
    exact ⟨ret_int (by rw [Hn.out]), below_trans (below_one _ _) hb1⟩
end Go.Proofs.Ytebhojbllhjkeaa
