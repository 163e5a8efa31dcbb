/- The document's Add and Mul (printed by wip/refops.py): for any two numbers, the sum and the product, if it may be; else none. -/
import Derived.Test.YtebhojbllhjkeaaGaussRef
namespace Go.Proofs.Ytebhojbllhjkeaa
open Go.RowKit
set_option linter.all false

theorem refTold_no (x y : Int) (w : World) :
    Calls Try.prog 71 #[numV x y, .bool false] w fun e w' => e = .returned (.tuple #[numV 0 0, .bool false]) ∧ Below w.heap.size w w' := refTold_any x y false w

theorem refRight_is (a b : Int) (v : Bool) (h : rightB a b = v) (w : World) : Calls Try.prog 47 #[numV a b] w fun e w' => e = .returned (.bool v) ∧ Below w.heap.size w w' := by
  subst h
  exact refRight_any a b w
abbrev TBC (w W : World) (a b c d : Int) : Prop :=
  W.cell? ⟨w.heap.size, 0, none⟩ = some (.int .i64 a) ∧ W.cell? ⟨w.heap.size, 1, none⟩ = some (.int .i64 b) ∧ W.cell? ⟨w.heap.size + 1, 0, none⟩ = some (.int .i64 c) ∧ W.cell? ⟨w.heap.size + 1, 1, none⟩ = some (.int .i64 d)
theorem TB.four {w W : World} {a b c d : Int} (h : TB w W a b c d) : TBC w W a b c d := ⟨h.x0, h.x1, h.y0, h.y1⟩
theorem TB.stored {w W : World} {a b c d : Int} {u u' : Value} (h : TB w W a b c d) : TBC w ((W.setCell ⟨w.heap.size + 1 + 1, 0, none⟩ u).setCell ⟨w.heap.size + 1 + 1, 1, none⟩ u') a b c d := by
  have e : ∀ j o, j < w.heap.size + 2 → ((W.setCell ⟨w.heap.size + 1 + 1, 0, none⟩ u).setCell ⟨w.heap.size + 1 + 1, 1, none⟩ u').cell? ⟨j, o, none⟩ = W.cell? ⟨j, o, none⟩ := fun j o hj =>
    (set_far (by show w.heap.size + 1 + 1 ≠ j; omega)).trans (set_far (by show w.heap.size + 1 + 1 ≠ j; omega))
  exact ⟨(e _ _ (by omega)).trans h.x0, (e _ _ (by omega)).trans h.x1, (e _ _ (by omega)).trans h.y0, (e _ _ (by omega)).trans h.y1⟩

set_option maxRecDepth 10000 in
set_option maxHeartbeats 2000000 in
theorem refAdd_no1 (a b c d : Int) (w : World) (h1 : rightB a b = false) :
    Calls Try.prog 34 #[numV a b, numV c d] w fun e w' => e = .returned (.tuple #[numV 0 0, .bool false]) ∧ Below w.heap.size w w' := by
  have St0 := Lib.hid (TB.new w a b c d 48)
  go_enter Try.func34, Try.ntmps34
  go_wp2
  refine wp_gen (fun W => TB w W a b c d) St0.out ?_
  intro W hT
  have hx0 := hT.x0
  have hx1 := hT.x1
  have hy0 := hT.y0
  have hy1 := hT.y1
  refine wp_region_noPanic ?_
  refine wp_region_held_drew (S := fun W => W.cell? ⟨w.heap.size, 0, none⟩ = some (.int .i64 a) ∧ W.cell? ⟨w.heap.size, 1, none⟩ = some (.int .i64 b) ∧ W.cell? ⟨w.heap.size + 1, 0, none⟩ = some (.int .i64 c) ∧ W.cell? ⟨w.heap.size + 1, 1, none⟩ = some (.int .i64 d)) (by kernel_rfl) (TB.four hT.drew) (fun hHeld => ?_)
  refine wpAnyH_take (i := 0) (oi := _) (v := ?_) rfl (by kernel_rfl) (by kernel_rfl) (by kernel_rfl) (fun _ _ _ h => h) (Or.inl ⟨by rfl, ?_⟩) (by assumption) ?_
  rotate_left
  · intro w hSw; (try dsimp only at hSw); go_simp; try with_reducible rfl
  try simp only [Act.put, List.setIfInBounds_toArray, List.set_cons_zero, List.set_cons_succ]
  refine wpAnyH_take (i := 1) (oi := _) (v := ?_) rfl (by kernel_rfl) (by kernel_rfl) (by kernel_rfl) (fun _ _ _ h => h) (Or.inl ⟨by rfl, ?_⟩) (by assumption) ?_
  rotate_left
  · intro w hSw; (try dsimp only at hSw); go_simp; try with_reducible rfl
  try simp only [Act.put, List.setIfInBounds_toArray, List.set_cons_zero, List.set_cons_succ]
  refine wpAnyH_take (i := 2) (oi := _) (v := ?_) rfl (by kernel_rfl) (by kernel_rfl) (by kernel_rfl) (fun _ _ _ h => h) (Or.inl ⟨by rfl, ?_⟩) (by assumption) ?_
  rotate_left
  · intro w hSw; (try dsimp only at hSw); go_simp; try with_reducible rfl
  try simp only [Act.put, List.setIfInBounds_toArray, List.set_cons_zero, List.set_cons_succ]
  refine wpAnyH_take (i := 3) (oi := _) (v := ?_) rfl (by kernel_rfl) (by kernel_rfl) (by kernel_rfl) (fun _ _ _ h => h) (Or.inl ⟨by rfl, ?_⟩) (by assumption) ?_
  rotate_left
  · intro w hSw; (try dsimp only at hSw); go_simp; try with_reducible rfl
  try simp only [Act.put, List.setIfInBounds_toArray, List.set_cons_zero, List.set_cons_succ]
  refine wpAnyH_take (i := 4) (oi := _) (v := ?_) rfl (by kernel_rfl) (by kernel_rfl) (by kernel_rfl) (fun _ _ _ h => h) (Or.inl ⟨by rfl, ?_⟩) (by assumption) ?_
  rotate_left
  · intro w hSw; (try dsimp only at hSw); go_simp; try with_reducible rfl
  try simp only [Act.put, List.setIfInBounds_toArray, List.set_cons_zero, List.set_cons_succ]
  refine wpAnyH_take (i := 5) (oi := _) (v := ?_) rfl (by kernel_rfl) (by kernel_rfl) (by kernel_rfl) (fun _ _ _ h => h) (Or.inl ⟨by rfl, ?_⟩) (by assumption) ?_
  rotate_left
  · intro w hSw; (try dsimp only at hSw); go_simp; try with_reducible rfl
  try simp only [Act.put, List.setIfInBounds_toArray, List.set_cons_zero, List.set_cons_succ]
  refine wpAnyH_take (i := 6) (oi := _) (v := ?_) rfl (by kernel_rfl) (by kernel_rfl) (by kernel_rfl) (fun _ _ _ h => h) (Or.inl ⟨by rfl, ?_⟩) (by assumption) ?_
  rotate_left
  · intro w hSw; (try dsimp only at hSw); go_simp; try with_reducible rfl
  try simp only [Act.put, List.setIfInBounds_toArray, List.set_cons_zero, List.set_cons_succ]
  refine wpAnyH_take (i := 7) (oi := _) (v := ?_) rfl (by kernel_rfl) (by kernel_rfl) (by kernel_rfl) (fun _ _ _ h => h) (Or.inl ⟨by rfl, ?_⟩) (by assumption) ?_
  rotate_left
  · intro w hSw; (try dsimp only at hSw); go_simp; try with_reducible rfl
  try simp only [Act.put, List.setIfInBounds_toArray, List.set_cons_zero, List.set_cons_succ]
  refine wpAnyH_take (i := 8) (oi := _) (v := ?_) rfl (by kernel_rfl) (by kernel_rfl) (by kernel_rfl) (fun _ _ _ h => h) (Or.inl ⟨by rfl, ?_⟩) (by assumption) ?_
  rotate_left
  · intro w hSw; (try dsimp only at hSw); go_simp; try with_reducible rfl
  try simp only [Act.put, List.setIfInBounds_toArray, List.set_cons_zero, List.set_cons_succ]
  refine wpAnyH_take (i := 9) (oi := _) (v := ?_) rfl (by kernel_rfl) (by kernel_rfl) (by kernel_rfl) (fun _ _ _ h => h) (Or.inl ⟨by rfl, ?_⟩) (by assumption) ?_
  rotate_left
  · intro w hSw; (try dsimp only at hSw); go_simp; try with_reducible rfl
  try simp only [Act.put, List.setIfInBounds_toArray, List.set_cons_zero, List.set_cons_succ]
  refine wpAnyH_take (i := 10) (oi := _) (v := ?_) rfl (by kernel_rfl) (by kernel_rfl) (by kernel_rfl) (fun _ _ _ h => h) (Or.inl ⟨by rfl, ?_⟩) (by assumption) ?_
  rotate_left
  · intro w hSw; (try dsimp only at hSw); go_simp; try with_reducible rfl
  try simp only [Act.put, List.setIfInBounds_toArray, List.set_cons_zero, List.set_cons_succ]
  refine wpAnyH_take (i := 11) (oi := _) (v := ?_) rfl (by kernel_rfl) (by kernel_rfl) (by kernel_rfl) (fun _ _ _ h => h) (Or.inl ⟨by rfl, ?_⟩) (by assumption) ?_
  rotate_left
  · intro w hSw; (try dsimp only at hSw); go_simp; try with_reducible rfl
  try simp only [Act.put, List.setIfInBounds_toArray, List.set_cons_zero, List.set_cons_succ]
  refine wpAnyH_ready (rs := [12]) (by kernel_rfl) (by simp) ?_
  refine AllReadyH.cons (o := _) rfl (fun K hK => ?_) AllReadyH.nil
  go_simp
  go_at_call 47
  refine (refRight_is a b false h1 _).mono ?_
  rintro e w2 ⟨rfl, hb2⟩
  have st2 := TB.below hT.drew hb2
  refine hK.out _ _ (TB.four st2) (fun hHeld => ?_)
  clear hK K
  try simp only [Act.put, List.setIfInBounds_toArray, List.set_cons_zero, List.set_cons_succ]
  refine wpAnyH_take (i := 13) (oi := _) (v := ?_) rfl (by kernel_rfl) (by kernel_rfl) (by kernel_rfl) (fun _ _ _ h => h) (Or.inl ⟨by rfl, ?_⟩) (by assumption) ?_
  rotate_left
  · intro w hSw; (try dsimp only at hSw); go_simp; try with_reducible rfl
  try simp only [Act.put, List.setIfInBounds_toArray, List.set_cons_zero, List.set_cons_succ]
  refine wpAnyH_take (i := 14) (oi := _) (v := undef) rfl (by kernel_rfl) (by kernel_rfl) (by kernel_rfl) (fun _ _ _ h => h) (Or.inr ⟨by rfl, rfl⟩) (by assumption) ?_
  try simp only [Act.put, List.setIfInBounds_toArray, List.set_cons_zero, List.set_cons_succ]
  refine wpAnyH_take (i := 15) (oi := _) (v := undef) rfl (by kernel_rfl) (by kernel_rfl) (by kernel_rfl) (fun _ _ _ h => h) (Or.inr ⟨by rfl, rfl⟩) (by assumption) ?_
  try simp only [Act.put, List.setIfInBounds_toArray, List.set_cons_zero, List.set_cons_succ]
  refine wpAnyH_take (i := 16) (oi := _) (v := ?_) rfl (by kernel_rfl) (by kernel_rfl) (by kernel_rfl) (fun _ _ _ h => h) (Or.inl ⟨by rfl, ?_⟩) (by assumption) ?_
  rotate_left
  · intro w hSw; (try dsimp only at hSw); go_simp; try with_reducible rfl
  try simp only [Act.put, List.setIfInBounds_toArray, List.set_cons_zero, List.set_cons_succ]
  refine wpAnyH_ready (rs := [17]) (by kernel_rfl) (by simp) ?_
  refine AllReadyH.cons (o := _) rfl (fun K hK => ?_) AllReadyH.nil
  go_simp
  go_at_call 71
  refine (refTold_no _ _ _).mono ?_
  rintro e w4 ⟨rfl, hb4⟩
  have st4 := st2.below hb4
  have hr0 := st4.r0
  have hr1 := st4.r1
  have hf0 := st4.f0
  have hf1 := st4.f1
  refine hK.out _ _ (TB.four st4) (fun hHeld => ?_)
  clear hK K
  try simp only [Act.put, List.setIfInBounds_toArray, List.set_cons_zero, List.set_cons_succ]
  refine wpAnyH_take (i := 18) (oi := _) (v := ?_) rfl (by kernel_rfl) (by kernel_rfl) (by kernel_rfl) (fun _ _ _ h => h) (Or.inl ⟨by rfl, ?_⟩) (by assumption) ?_
  rotate_left
  · intro w hSw; (try dsimp only at hSw); go_simp; try with_reducible rfl
  try simp only [Act.put, List.setIfInBounds_toArray, List.set_cons_zero, List.set_cons_succ]
  refine wpAnyH_take (i := 19) (oi := _) (v := ?_) rfl (by kernel_rfl) (by kernel_rfl) (by kernel_rfl) (fun _ _ _ h => h) (Or.inl ⟨by rfl, ?_⟩) (by assumption) ?_
  rotate_left
  · intro w hSw; (try dsimp only at hSw); go_simp; try with_reducible rfl
  try simp only [Act.put, List.setIfInBounds_toArray, List.set_cons_zero, List.set_cons_succ]
  refine wpAnyH_ready (rs := [20]) (by kernel_rfl) (by simp) ?_
  refine AllReadyH.cons (o := _) rfl (fun K hK => ?_) AllReadyH.nil
  go_simp
  refine hK.out _ _ (TB.stored st4) (fun hHeld => ?_)
  clear hK K
  try simp only [Act.put, List.setIfInBounds_toArray, List.set_cons_zero, List.set_cons_succ]
  refine wpAnyH_take (i := 21) (oi := _) (v := ?_) rfl (by kernel_rfl) (by kernel_rfl) (by kernel_rfl) (fun _ _ _ h => h) (Or.inl ⟨by rfl, ?_⟩) (by assumption) ?_
  rotate_left
  · intro w hSw; (try dsimp only at hSw); go_simp; try with_reducible rfl
  try simp only [Act.put, List.setIfInBounds_toArray, List.set_cons_zero, List.set_cons_succ]
  simp only [List.getElem_toArray, List.getElem_cons_succ, List.getElem_cons_zero]
  refine wpAnyH_done (by kernel_rfl) ?_ _
  refine NoPanic.normal ?_
  have hbel := st4.bel
  clear hT st4 hx0 hx1 hy0 hy1
  go_wp2
  exact bodyPost_ret (v := .tuple #[numV 0 0, .bool false]) (by simp [results, Try.results34, go_sem, hr0, hr1]) rfl ⟨rfl, (hbel.setCell (by show w.heap.size ≤ w.heap.size + 1 + 1; omega) _).setCell (by show w.heap.size ≤ w.heap.size + 1 + 1; omega) _⟩

set_option maxRecDepth 10000 in
set_option maxHeartbeats 2000000 in
theorem refAdd_no2 (a b c d : Int) (w : World) (h1 : rightB a b = true) (h2 : rightB c d = false) :
    Calls Try.prog 34 #[numV a b, numV c d] w fun e w' => e = .returned (.tuple #[numV 0 0, .bool false]) ∧ Below w.heap.size w w' := by
  have St0 := Lib.hid (TB.new w a b c d 48)
  go_enter Try.func34, Try.ntmps34
  go_wp2
  refine wp_gen (fun W => TB w W a b c d) St0.out ?_
  intro W hT
  have hx0 := hT.x0
  have hx1 := hT.x1
  have hy0 := hT.y0
  have hy1 := hT.y1
  first | (go_region_held3 (fun W => W.cell? ⟨w.heap.size, 0, none⟩ = some (.int .i64 a) ∧ W.cell? ⟨w.heap.size, 1, none⟩ = some (.int .i64 b) ∧ W.cell? ⟨w.heap.size + 1, 0, none⟩ = some (.int .i64 c) ∧ W.cell? ⟨w.heap.size + 1, 1, none⟩ = some (.int .i64 d)) (first
    | exact TB.four (by assumption)
    | exact TB.four (TB.drew (by assumption))
    | exact TB.stored (by assumption)) (first
    | (go_at_call 47; with_reducible refine (refRight_is a b true h1 _).mono ?_; rintro e w2 ⟨rfl, hb2⟩; have st2 := TB.below (by first | assumption | exact TB.drew (by assumption)) hb2)
    | (go_at_call 47; with_reducible refine (refRight_is c d false h2 _).mono ?_; rintro e w3 ⟨rfl, hb3⟩; have st3 := TB.below (by first | assumption | exact TB.drew (by assumption)) hb3)
    | (go_at_call 71; with_reducible refine (refTold_no _ _ _).mono ?_; rintro e w4 ⟨rfl, hb4⟩; have st4 := TB.below (by first | assumption | exact TB.drew (by assumption)) hb4; have hr0 := st4.r0; have hr1 := st4.r1; have hf0 := st4.f0; have hf1 := st4.f1))) | fail
  all_goals
    have hbel := st4.bel
    clear hT st4 hx0 hx1 hy0 hy1
    go_wp2
    exact bodyPost_ret (v := .tuple #[numV 0 0, .bool false]) (by simp [results, Try.results34, go_sem, hr0, hr1]) rfl ⟨rfl, (hbel.setCell (by show w.heap.size ≤ w.heap.size + 1 + 1; omega) _).setCell (by show w.heap.size ≤ w.heap.size + 1 + 1; omega) _⟩

set_option maxRecDepth 10000 in
set_option maxHeartbeats 2000000 in
theorem refAdd_yes (a b c d : Int) (w : World) (h1 : rightB a b = true) (h2 : rightB c d = true) :
    Calls Try.prog 34 #[numV a b, numV c d] w fun e w' => e = .returned (toldV (rightB (a + c) (b + d)) (a + c) (b + d)) ∧ Below w.heap.size w w' := by
  obtain ⟨p, q⟩ := of_rightB h1
  obtain ⟨r, s⟩ := of_rightB h2
  have e1 : IntKind.i64.wrap (a + c) = a + c := by rw [IntKind.wrap_i64]; omega
  have e2 : IntKind.i64.wrap (b + d) = b + d := by rw [IntKind.wrap_i64]; omega
  clear p q r s
  have ht := fun W => refTold_any (a + c) (b + d) true W
  rw [Bool.true_and] at ht
  obtain ⟨r1, r2, ok, hv⟩ : ∃ r1 r2 ok, toldV (rightB (a + c) (b + d)) (a + c) (b + d) = .tuple #[numV r1 r2, .bool ok] := ⟨_, _, _, rfl⟩
  rw [hv] at ht ⊢
  clear hv
  have St0 := Lib.hid (TB.new w a b c d 48)
  go_enter Try.func34, Try.ntmps34
  go_wp2
  refine wp_gen (fun W => TB w W a b c d) St0.out ?_
  intro W hT
  have hx0 := hT.x0
  have hx1 := hT.x1
  have hy0 := hT.y0
  have hy1 := hT.y1
  first | (go_region_held3 (fun W => W.cell? ⟨w.heap.size, 0, none⟩ = some (.int .i64 a) ∧ W.cell? ⟨w.heap.size, 1, none⟩ = some (.int .i64 b) ∧ W.cell? ⟨w.heap.size + 1, 0, none⟩ = some (.int .i64 c) ∧ W.cell? ⟨w.heap.size + 1, 1, none⟩ = some (.int .i64 d)) (first
    | exact TB.four (by assumption)
    | exact TB.four (TB.drew (by assumption))
    | exact TB.stored (by assumption)) (first
    | (go_at_call 47; with_reducible refine (refRight_is a b true h1 _).mono ?_; rintro e w2 ⟨rfl, hb2⟩; have st2 := TB.below (by first | assumption | exact TB.drew (by assumption)) hb2)
    | (go_at_call 47; with_reducible refine (refRight_is c d true h2 _).mono ?_; rintro e w3 ⟨rfl, hb3⟩; have st3 := TB.below (by first | assumption | exact TB.drew (by assumption)) hb3)
    | (go_at_call 71; with_reducible refine (ht _).mono ?_; rintro e w4 ⟨rfl, hb4⟩; have st4 := TB.below (by first | assumption | exact TB.drew (by assumption)) hb4; have hr0 := st4.r0; have hr1 := st4.r1; have hf0 := st4.f0; have hf1 := st4.f1))) | fail
  all_goals
    have hbel := st4.bel
    clear hT st4 hx0 hx1 hy0 hy1
    go_wp2
    exact bodyPost_ret (v := .tuple #[numV r1 r2, .bool ok]) (by simp [results, Try.results34, go_sem, hr0, hr1]) rfl ⟨rfl, (hbel.setCell (by show w.heap.size ≤ w.heap.size + 1 + 1; omega) _).setCell (by show w.heap.size ≤ w.heap.size + 1 + 1; omega) _⟩

theorem refAdd_any (a b c d : Int) (w : World) :
    Calls Try.prog 34 #[numV a b, numV c d] w fun e w' => e = .returned (opV a b c d (a + c) (b + d)) ∧ Below w.heap.size w w' := by
  by_cases h1 : rightB a b = true
  · by_cases h2 : rightB c d = true
    · refine (refAdd_yes a b c d w h1 h2).mono fun e w' ⟨he, hw⟩ => ⟨he.trans ?_, hw⟩
      simp [opV, h1, h2]
    · have h2 := eq_false_of_ne_true h2
      refine (refAdd_no2 a b c d w h1 h2).mono fun e w' ⟨he, hw⟩ => ⟨he.trans ?_, hw⟩
      simp [opV, h2]
  · have h1 := eq_false_of_ne_true h1
    refine (refAdd_no1 a b c d w h1).mono fun e w' ⟨he, hw⟩ => ⟨he.trans ?_, hw⟩
    simp [opV, h1]

set_option maxRecDepth 10000 in
set_option maxHeartbeats 2000000 in
theorem refMul_no1 (a b c d : Int) (w : World) (h1 : rightB a b = false) :
    Calls Try.prog 36 #[numV a b, numV c d] w fun e w' => e = .returned (.tuple #[numV 0 0, .bool false]) ∧ Below w.heap.size w w' := by
  have St0 := Lib.hid (TB.new w a b c d 48)
  go_enter Try.func36, Try.ntmps36
  go_wp2
  refine wp_gen (fun W => TB w W a b c d) St0.out ?_
  intro W hT
  have hx0 := hT.x0
  have hx1 := hT.x1
  have hy0 := hT.y0
  have hy1 := hT.y1
  refine wp_region_noPanic ?_
  refine wp_region_held_drew (S := fun W => W.cell? ⟨w.heap.size, 0, none⟩ = some (.int .i64 a) ∧ W.cell? ⟨w.heap.size, 1, none⟩ = some (.int .i64 b) ∧ W.cell? ⟨w.heap.size + 1, 0, none⟩ = some (.int .i64 c) ∧ W.cell? ⟨w.heap.size + 1, 1, none⟩ = some (.int .i64 d)) (by kernel_rfl) (TB.four hT.drew) (fun hHeld => ?_)
  refine wpAnyH_take (i := 0) (oi := _) (v := ?_) rfl (by kernel_rfl) (by kernel_rfl) (by kernel_rfl) (fun _ _ _ h => h) (Or.inl ⟨by rfl, ?_⟩) (by assumption) ?_
  rotate_left
  · intro w hSw; (try dsimp only at hSw); go_simp; try with_reducible rfl
  try simp only [Act.put, List.setIfInBounds_toArray, List.set_cons_zero, List.set_cons_succ]
  refine wpAnyH_take (i := 1) (oi := _) (v := ?_) rfl (by kernel_rfl) (by kernel_rfl) (by kernel_rfl) (fun _ _ _ h => h) (Or.inl ⟨by rfl, ?_⟩) (by assumption) ?_
  rotate_left
  · intro w hSw; (try dsimp only at hSw); go_simp; try with_reducible rfl
  try simp only [Act.put, List.setIfInBounds_toArray, List.set_cons_zero, List.set_cons_succ]
  refine wpAnyH_take (i := 2) (oi := _) (v := ?_) rfl (by kernel_rfl) (by kernel_rfl) (by kernel_rfl) (fun _ _ _ h => h) (Or.inl ⟨by rfl, ?_⟩) (by assumption) ?_
  rotate_left
  · intro w hSw; (try dsimp only at hSw); go_simp; try with_reducible rfl
  try simp only [Act.put, List.setIfInBounds_toArray, List.set_cons_zero, List.set_cons_succ]
  refine wpAnyH_take (i := 3) (oi := _) (v := ?_) rfl (by kernel_rfl) (by kernel_rfl) (by kernel_rfl) (fun _ _ _ h => h) (Or.inl ⟨by rfl, ?_⟩) (by assumption) ?_
  rotate_left
  · intro w hSw; (try dsimp only at hSw); go_simp; try with_reducible rfl
  try simp only [Act.put, List.setIfInBounds_toArray, List.set_cons_zero, List.set_cons_succ]
  refine wpAnyH_take (i := 4) (oi := _) (v := ?_) rfl (by kernel_rfl) (by kernel_rfl) (by kernel_rfl) (fun _ _ _ h => h) (Or.inl ⟨by rfl, ?_⟩) (by assumption) ?_
  rotate_left
  · intro w hSw; (try dsimp only at hSw); go_simp; try with_reducible rfl
  try simp only [Act.put, List.setIfInBounds_toArray, List.set_cons_zero, List.set_cons_succ]
  refine wpAnyH_take (i := 5) (oi := _) (v := ?_) rfl (by kernel_rfl) (by kernel_rfl) (by kernel_rfl) (fun _ _ _ h => h) (Or.inl ⟨by rfl, ?_⟩) (by assumption) ?_
  rotate_left
  · intro w hSw; (try dsimp only at hSw); go_simp; try with_reducible rfl
  try simp only [Act.put, List.setIfInBounds_toArray, List.set_cons_zero, List.set_cons_succ]
  refine wpAnyH_take (i := 6) (oi := _) (v := ?_) rfl (by kernel_rfl) (by kernel_rfl) (by kernel_rfl) (fun _ _ _ h => h) (Or.inl ⟨by rfl, ?_⟩) (by assumption) ?_
  rotate_left
  · intro w hSw; (try dsimp only at hSw); go_simp; try with_reducible rfl
  try simp only [Act.put, List.setIfInBounds_toArray, List.set_cons_zero, List.set_cons_succ]
  refine wpAnyH_take (i := 7) (oi := _) (v := ?_) rfl (by kernel_rfl) (by kernel_rfl) (by kernel_rfl) (fun _ _ _ h => h) (Or.inl ⟨by rfl, ?_⟩) (by assumption) ?_
  rotate_left
  · intro w hSw; (try dsimp only at hSw); go_simp; try with_reducible rfl
  try simp only [Act.put, List.setIfInBounds_toArray, List.set_cons_zero, List.set_cons_succ]
  refine wpAnyH_take (i := 8) (oi := _) (v := ?_) rfl (by kernel_rfl) (by kernel_rfl) (by kernel_rfl) (fun _ _ _ h => h) (Or.inl ⟨by rfl, ?_⟩) (by assumption) ?_
  rotate_left
  · intro w hSw; (try dsimp only at hSw); go_simp; try with_reducible rfl
  try simp only [Act.put, List.setIfInBounds_toArray, List.set_cons_zero, List.set_cons_succ]
  refine wpAnyH_take (i := 9) (oi := _) (v := ?_) rfl (by kernel_rfl) (by kernel_rfl) (by kernel_rfl) (fun _ _ _ h => h) (Or.inl ⟨by rfl, ?_⟩) (by assumption) ?_
  rotate_left
  · intro w hSw; (try dsimp only at hSw); go_simp; try with_reducible rfl
  try simp only [Act.put, List.setIfInBounds_toArray, List.set_cons_zero, List.set_cons_succ]
  refine wpAnyH_take (i := 10) (oi := _) (v := ?_) rfl (by kernel_rfl) (by kernel_rfl) (by kernel_rfl) (fun _ _ _ h => h) (Or.inl ⟨by rfl, ?_⟩) (by assumption) ?_
  rotate_left
  · intro w hSw; (try dsimp only at hSw); go_simp; try with_reducible rfl
  try simp only [Act.put, List.setIfInBounds_toArray, List.set_cons_zero, List.set_cons_succ]
  refine wpAnyH_take (i := 11) (oi := _) (v := ?_) rfl (by kernel_rfl) (by kernel_rfl) (by kernel_rfl) (fun _ _ _ h => h) (Or.inl ⟨by rfl, ?_⟩) (by assumption) ?_
  rotate_left
  · intro w hSw; (try dsimp only at hSw); go_simp; try with_reducible rfl
  try simp only [Act.put, List.setIfInBounds_toArray, List.set_cons_zero, List.set_cons_succ]
  refine wpAnyH_take (i := 12) (oi := _) (v := ?_) rfl (by kernel_rfl) (by kernel_rfl) (by kernel_rfl) (fun _ _ _ h => h) (Or.inl ⟨by rfl, ?_⟩) (by assumption) ?_
  rotate_left
  · intro w hSw; (try dsimp only at hSw); go_simp; try with_reducible rfl
  try simp only [Act.put, List.setIfInBounds_toArray, List.set_cons_zero, List.set_cons_succ]
  refine wpAnyH_take (i := 13) (oi := _) (v := ?_) rfl (by kernel_rfl) (by kernel_rfl) (by kernel_rfl) (fun _ _ _ h => h) (Or.inl ⟨by rfl, ?_⟩) (by assumption) ?_
  rotate_left
  · intro w hSw; (try dsimp only at hSw); go_simp; try with_reducible rfl
  try simp only [Act.put, List.setIfInBounds_toArray, List.set_cons_zero, List.set_cons_succ]
  refine wpAnyH_take (i := 14) (oi := _) (v := ?_) rfl (by kernel_rfl) (by kernel_rfl) (by kernel_rfl) (fun _ _ _ h => h) (Or.inl ⟨by rfl, ?_⟩) (by assumption) ?_
  rotate_left
  · intro w hSw; (try dsimp only at hSw); go_simp; try with_reducible rfl
  try simp only [Act.put, List.setIfInBounds_toArray, List.set_cons_zero, List.set_cons_succ]
  refine wpAnyH_take (i := 15) (oi := _) (v := ?_) rfl (by kernel_rfl) (by kernel_rfl) (by kernel_rfl) (fun _ _ _ h => h) (Or.inl ⟨by rfl, ?_⟩) (by assumption) ?_
  rotate_left
  · intro w hSw; (try dsimp only at hSw); go_simp; try with_reducible rfl
  try simp only [Act.put, List.setIfInBounds_toArray, List.set_cons_zero, List.set_cons_succ]
  refine wpAnyH_take (i := 16) (oi := _) (v := ?_) rfl (by kernel_rfl) (by kernel_rfl) (by kernel_rfl) (fun _ _ _ h => h) (Or.inl ⟨by rfl, ?_⟩) (by assumption) ?_
  rotate_left
  · intro w hSw; (try dsimp only at hSw); go_simp; try with_reducible rfl
  try simp only [Act.put, List.setIfInBounds_toArray, List.set_cons_zero, List.set_cons_succ]
  refine wpAnyH_take (i := 17) (oi := _) (v := ?_) rfl (by kernel_rfl) (by kernel_rfl) (by kernel_rfl) (fun _ _ _ h => h) (Or.inl ⟨by rfl, ?_⟩) (by assumption) ?_
  rotate_left
  · intro w hSw; (try dsimp only at hSw); go_simp; try with_reducible rfl
  try simp only [Act.put, List.setIfInBounds_toArray, List.set_cons_zero, List.set_cons_succ]
  refine wpAnyH_take (i := 18) (oi := _) (v := ?_) rfl (by kernel_rfl) (by kernel_rfl) (by kernel_rfl) (fun _ _ _ h => h) (Or.inl ⟨by rfl, ?_⟩) (by assumption) ?_
  rotate_left
  · intro w hSw; (try dsimp only at hSw); go_simp; try with_reducible rfl
  try simp only [Act.put, List.setIfInBounds_toArray, List.set_cons_zero, List.set_cons_succ]
  refine wpAnyH_take (i := 19) (oi := _) (v := ?_) rfl (by kernel_rfl) (by kernel_rfl) (by kernel_rfl) (fun _ _ _ h => h) (Or.inl ⟨by rfl, ?_⟩) (by assumption) ?_
  rotate_left
  · intro w hSw; (try dsimp only at hSw); go_simp; try with_reducible rfl
  try simp only [Act.put, List.setIfInBounds_toArray, List.set_cons_zero, List.set_cons_succ]
  refine wpAnyH_take (i := 20) (oi := _) (v := ?_) rfl (by kernel_rfl) (by kernel_rfl) (by kernel_rfl) (fun _ _ _ h => h) (Or.inl ⟨by rfl, ?_⟩) (by assumption) ?_
  rotate_left
  · intro w hSw; (try dsimp only at hSw); go_simp; try with_reducible rfl
  try simp only [Act.put, List.setIfInBounds_toArray, List.set_cons_zero, List.set_cons_succ]
  refine wpAnyH_take (i := 21) (oi := _) (v := ?_) rfl (by kernel_rfl) (by kernel_rfl) (by kernel_rfl) (fun _ _ _ h => h) (Or.inl ⟨by rfl, ?_⟩) (by assumption) ?_
  rotate_left
  · intro w hSw; (try dsimp only at hSw); go_simp; try with_reducible rfl
  try simp only [Act.put, List.setIfInBounds_toArray, List.set_cons_zero, List.set_cons_succ]
  refine wpAnyH_take (i := 22) (oi := _) (v := ?_) rfl (by kernel_rfl) (by kernel_rfl) (by kernel_rfl) (fun _ _ _ h => h) (Or.inl ⟨by rfl, ?_⟩) (by assumption) ?_
  rotate_left
  · intro w hSw; (try dsimp only at hSw); go_simp; try with_reducible rfl
  try simp only [Act.put, List.setIfInBounds_toArray, List.set_cons_zero, List.set_cons_succ]
  refine wpAnyH_take (i := 23) (oi := _) (v := ?_) rfl (by kernel_rfl) (by kernel_rfl) (by kernel_rfl) (fun _ _ _ h => h) (Or.inl ⟨by rfl, ?_⟩) (by assumption) ?_
  rotate_left
  · intro w hSw; (try dsimp only at hSw); go_simp; try with_reducible rfl
  try simp only [Act.put, List.setIfInBounds_toArray, List.set_cons_zero, List.set_cons_succ]
  refine wpAnyH_ready (rs := [24]) (by kernel_rfl) (by simp) ?_
  refine AllReadyH.cons (o := _) rfl (fun K hK => ?_) AllReadyH.nil
  go_simp
  go_at_call 47
  refine (refRight_is a b false h1 _).mono ?_
  rintro e w2 ⟨rfl, hb2⟩
  have st2 := TB.below hT.drew hb2
  refine hK.out _ _ (TB.four st2) (fun hHeld => ?_)
  clear hK K
  try simp only [Act.put, List.setIfInBounds_toArray, List.set_cons_zero, List.set_cons_succ]
  refine wpAnyH_take (i := 25) (oi := _) (v := ?_) rfl (by kernel_rfl) (by kernel_rfl) (by kernel_rfl) (fun _ _ _ h => h) (Or.inl ⟨by rfl, ?_⟩) (by assumption) ?_
  rotate_left
  · intro w hSw; (try dsimp only at hSw); go_simp; try with_reducible rfl
  try simp only [Act.put, List.setIfInBounds_toArray, List.set_cons_zero, List.set_cons_succ]
  refine wpAnyH_take (i := 26) (oi := _) (v := undef) rfl (by kernel_rfl) (by kernel_rfl) (by kernel_rfl) (fun _ _ _ h => h) (Or.inr ⟨by rfl, rfl⟩) (by assumption) ?_
  try simp only [Act.put, List.setIfInBounds_toArray, List.set_cons_zero, List.set_cons_succ]
  refine wpAnyH_take (i := 27) (oi := _) (v := undef) rfl (by kernel_rfl) (by kernel_rfl) (by kernel_rfl) (fun _ _ _ h => h) (Or.inr ⟨by rfl, rfl⟩) (by assumption) ?_
  try simp only [Act.put, List.setIfInBounds_toArray, List.set_cons_zero, List.set_cons_succ]
  refine wpAnyH_take (i := 28) (oi := _) (v := ?_) rfl (by kernel_rfl) (by kernel_rfl) (by kernel_rfl) (fun _ _ _ h => h) (Or.inl ⟨by rfl, ?_⟩) (by assumption) ?_
  rotate_left
  · intro w hSw; (try dsimp only at hSw); go_simp; try with_reducible rfl
  try simp only [Act.put, List.setIfInBounds_toArray, List.set_cons_zero, List.set_cons_succ]
  refine wpAnyH_ready (rs := [29]) (by kernel_rfl) (by simp) ?_
  refine AllReadyH.cons (o := _) rfl (fun K hK => ?_) AllReadyH.nil
  go_simp
  go_at_call 71
  refine (refTold_no _ _ _).mono ?_
  rintro e w4 ⟨rfl, hb4⟩
  have st4 := st2.below hb4
  have hr0 := st4.r0
  have hr1 := st4.r1
  have hf0 := st4.f0
  have hf1 := st4.f1
  refine hK.out _ _ (TB.four st4) (fun hHeld => ?_)
  clear hK K
  try simp only [Act.put, List.setIfInBounds_toArray, List.set_cons_zero, List.set_cons_succ]
  refine wpAnyH_take (i := 30) (oi := _) (v := ?_) rfl (by kernel_rfl) (by kernel_rfl) (by kernel_rfl) (fun _ _ _ h => h) (Or.inl ⟨by rfl, ?_⟩) (by assumption) ?_
  rotate_left
  · intro w hSw; (try dsimp only at hSw); go_simp; try with_reducible rfl
  try simp only [Act.put, List.setIfInBounds_toArray, List.set_cons_zero, List.set_cons_succ]
  refine wpAnyH_take (i := 31) (oi := _) (v := ?_) rfl (by kernel_rfl) (by kernel_rfl) (by kernel_rfl) (fun _ _ _ h => h) (Or.inl ⟨by rfl, ?_⟩) (by assumption) ?_
  rotate_left
  · intro w hSw; (try dsimp only at hSw); go_simp; try with_reducible rfl
  try simp only [Act.put, List.setIfInBounds_toArray, List.set_cons_zero, List.set_cons_succ]
  refine wpAnyH_ready (rs := [32]) (by kernel_rfl) (by simp) ?_
  refine AllReadyH.cons (o := _) rfl (fun K hK => ?_) AllReadyH.nil
  go_simp
  refine hK.out _ _ (TB.stored st4) (fun hHeld => ?_)
  clear hK K
  try simp only [Act.put, List.setIfInBounds_toArray, List.set_cons_zero, List.set_cons_succ]
  refine wpAnyH_take (i := 33) (oi := _) (v := ?_) rfl (by kernel_rfl) (by kernel_rfl) (by kernel_rfl) (fun _ _ _ h => h) (Or.inl ⟨by rfl, ?_⟩) (by assumption) ?_
  rotate_left
  · intro w hSw; (try dsimp only at hSw); go_simp; try with_reducible rfl
  try simp only [Act.put, List.setIfInBounds_toArray, List.set_cons_zero, List.set_cons_succ]
  simp only [List.getElem_toArray, List.getElem_cons_succ, List.getElem_cons_zero]
  refine wpAnyH_done (by kernel_rfl) ?_ _
  refine NoPanic.normal ?_
  have hbel := st4.bel
  clear hT st4 hx0 hx1 hy0 hy1
  go_wp2
  exact bodyPost_ret (v := .tuple #[numV 0 0, .bool false]) (by simp [results, Try.results36, go_sem, hr0, hr1]) rfl ⟨rfl, (hbel.setCell (by show w.heap.size ≤ w.heap.size + 1 + 1; omega) _).setCell (by show w.heap.size ≤ w.heap.size + 1 + 1; omega) _⟩

set_option maxRecDepth 10000 in
set_option maxHeartbeats 2000000 in
theorem refMul_no2 (a b c d : Int) (w : World) (h1 : rightB a b = true) (h2 : rightB c d = false) :
    Calls Try.prog 36 #[numV a b, numV c d] w fun e w' => e = .returned (.tuple #[numV 0 0, .bool false]) ∧ Below w.heap.size w w' := by
  have St0 := Lib.hid (TB.new w a b c d 48)
  go_enter Try.func36, Try.ntmps36
  go_wp2
  refine wp_gen (fun W => TB w W a b c d) St0.out ?_
  intro W hT
  have hx0 := hT.x0
  have hx1 := hT.x1
  have hy0 := hT.y0
  have hy1 := hT.y1
  first | (go_region_held3 (fun W => W.cell? ⟨w.heap.size, 0, none⟩ = some (.int .i64 a) ∧ W.cell? ⟨w.heap.size, 1, none⟩ = some (.int .i64 b) ∧ W.cell? ⟨w.heap.size + 1, 0, none⟩ = some (.int .i64 c) ∧ W.cell? ⟨w.heap.size + 1, 1, none⟩ = some (.int .i64 d)) (first
    | exact TB.four (by assumption)
    | exact TB.four (TB.drew (by assumption))
    | exact TB.stored (by assumption)) (first
    | (go_at_call 47; with_reducible refine (refRight_is a b true h1 _).mono ?_; rintro e w2 ⟨rfl, hb2⟩; have st2 := TB.below (by first | assumption | exact TB.drew (by assumption)) hb2)
    | (go_at_call 47; with_reducible refine (refRight_is c d false h2 _).mono ?_; rintro e w3 ⟨rfl, hb3⟩; have st3 := TB.below (by first | assumption | exact TB.drew (by assumption)) hb3)
    | (go_at_call 71; with_reducible refine (refTold_no _ _ _).mono ?_; rintro e w4 ⟨rfl, hb4⟩; have st4 := TB.below (by first | assumption | exact TB.drew (by assumption)) hb4; have hr0 := st4.r0; have hr1 := st4.r1; have hf0 := st4.f0; have hf1 := st4.f1))) | fail
  all_goals
    have hbel := st4.bel
    clear hT st4 hx0 hx1 hy0 hy1
    go_wp2
    exact bodyPost_ret (v := .tuple #[numV 0 0, .bool false]) (by simp [results, Try.results36, go_sem, hr0, hr1]) rfl ⟨rfl, (hbel.setCell (by show w.heap.size ≤ w.heap.size + 1 + 1; omega) _).setCell (by show w.heap.size ≤ w.heap.size + 1 + 1; omega) _⟩

set_option maxRecDepth 10000 in
set_option maxHeartbeats 2000000 in
theorem refMul_yes (a b c d : Int) (w : World) (h1 : rightB a b = true) (h2 : rightB c d = true) :
    Calls Try.prog 36 #[numV a b, numV c d] w fun e w' => e = .returned (toldV (rightB (a * c - b * d) (a * d + b * c)) (a * c - b * d) (a * d + b * c)) ∧ Below w.heap.size w w' := by
  obtain ⟨p, q⟩ := of_rightB h1
  obtain ⟨r, s⟩ := of_rightB h2
  have m1 := mul_bd p r
  have m2 := mul_bd q s
  have m3 := mul_bd p s
  have m4 := mul_bd q r
  have e1 : IntKind.i64.wrap (a * c) = a * c := by rw [IntKind.wrap_i64]; omega
  have e2 : IntKind.i64.wrap (b * d) = b * d := by rw [IntKind.wrap_i64]; omega
  have e3 : IntKind.i64.wrap (a * d) = a * d := by rw [IntKind.wrap_i64]; omega
  have e4 : IntKind.i64.wrap (b * c) = b * c := by rw [IntKind.wrap_i64]; omega
  have e5 : IntKind.i64.wrap (a * c - b * d) = a * c - b * d := by rw [IntKind.wrap_i64]; omega
  have e6 : IntKind.i64.wrap (a * d + b * c) = a * d + b * c := by rw [IntKind.wrap_i64]; omega
  clear m1 m2 m3 m4
  clear p q r s
  have ht := fun W => refTold_any (a * c - b * d) (a * d + b * c) true W
  rw [Bool.true_and] at ht
  obtain ⟨r1, r2, ok, hv⟩ : ∃ r1 r2 ok, toldV (rightB (a * c - b * d) (a * d + b * c)) (a * c - b * d) (a * d + b * c) = .tuple #[numV r1 r2, .bool ok] := ⟨_, _, _, rfl⟩
  rw [hv] at ht ⊢
  clear hv
  have St0 := Lib.hid (TB.new w a b c d 48)
  go_enter Try.func36, Try.ntmps36
  go_wp2
  refine wp_gen (fun W => TB w W a b c d) St0.out ?_
  intro W hT
  have hx0 := hT.x0
  have hx1 := hT.x1
  have hy0 := hT.y0
  have hy1 := hT.y1
  first | (go_region_held3 (fun W => W.cell? ⟨w.heap.size, 0, none⟩ = some (.int .i64 a) ∧ W.cell? ⟨w.heap.size, 1, none⟩ = some (.int .i64 b) ∧ W.cell? ⟨w.heap.size + 1, 0, none⟩ = some (.int .i64 c) ∧ W.cell? ⟨w.heap.size + 1, 1, none⟩ = some (.int .i64 d)) (first
    | exact TB.four (by assumption)
    | exact TB.four (TB.drew (by assumption))
    | exact TB.stored (by assumption)) (first
    | (go_at_call 47; with_reducible refine (refRight_is a b true h1 _).mono ?_; rintro e w2 ⟨rfl, hb2⟩; have st2 := TB.below (by first | assumption | exact TB.drew (by assumption)) hb2)
    | (go_at_call 47; with_reducible refine (refRight_is c d true h2 _).mono ?_; rintro e w3 ⟨rfl, hb3⟩; have st3 := TB.below (by first | assumption | exact TB.drew (by assumption)) hb3)
    | (go_at_call 71; with_reducible refine (ht _).mono ?_; rintro e w4 ⟨rfl, hb4⟩; have st4 := TB.below (by first | assumption | exact TB.drew (by assumption)) hb4; have hr0 := st4.r0; have hr1 := st4.r1; have hf0 := st4.f0; have hf1 := st4.f1))) | fail
  all_goals
    have hbel := st4.bel
    clear hT st4 hx0 hx1 hy0 hy1
    go_wp2
    exact bodyPost_ret (v := .tuple #[numV r1 r2, .bool ok]) (by simp [results, Try.results36, go_sem, hr0, hr1]) rfl ⟨rfl, (hbel.setCell (by show w.heap.size ≤ w.heap.size + 1 + 1; omega) _).setCell (by show w.heap.size ≤ w.heap.size + 1 + 1; omega) _⟩

theorem refMul_any (a b c d : Int) (w : World) :
    Calls Try.prog 36 #[numV a b, numV c d] w fun e w' => e = .returned (opV a b c d (a * c - b * d) (a * d + b * c)) ∧ Below w.heap.size w w' := by
  by_cases h1 : rightB a b = true
  · by_cases h2 : rightB c d = true
    · refine (refMul_yes a b c d w h1 h2).mono fun e w' ⟨he, hw⟩ => ⟨he.trans ?_, hw⟩
      simp [opV, h1, h2]
    · have h2 := eq_false_of_ne_true h2
      refine (refMul_no2 a b c d w h1 h2).mono fun e w' ⟨he, hw⟩ => ⟨he.trans ?_, hw⟩
      simp [opV, h2]
  · have h1 := eq_false_of_ne_true h1
    refine (refMul_no1 a b c d w h1).mono fun e w' ⟨he, hw⟩ => ⟨he.trans ?_, hw⟩
    simp [opV, h1]

end Go.Proofs.Ytebhojbllhjkeaa
