/- told, handed each of gauss' four functions (printed by wip/told.py): two numbers that may be give the result, if it may be; else none. -/
import Derived.Test.YtebhojbllhjkeaaGauss
namespace Go.Proofs.Ytebhojbllhjkeaa
open Go.RowKit
set_option linter.all false

set_option maxRecDepth 10000 in
set_option maxHeartbeats 1000000 in
theorem told_mul (a b c d x y : Int) (w : World) (hx0 : -9007199254740992 < x) (hx1 : x < 9007199254740992) (hy0 : -9007199254740992 < y) (hy1 : y < 9007199254740992)
    (hf : ∀ (u v : Value) (W : World), Cx u a b → Cx v c d → Calls Try.prog 72 #[u, v] W fun e W' => ∃ r, e = .returned r ∧ Cx r x y ∧ W' = W) (hr : rightB a b = true) (hr2 : rightB c d = true) :
    Calls Try.prog 69 #[numV a b, numV c d, .func (Fn.func 72) #[] #[]] w fun e w' => e = .returned (toldV (rightB x y) x y) ∧ Below w.heap.size w w' := by
  obtain ⟨⟨a0, a1⟩, b0, b1⟩ := of_rightB hr
  obtain ⟨⟨c0, c1⟩, d0, d1⟩ := of_rightB hr2
  go_enter Try.func69, Try.ntmps69
  have st0 := TB.new w a b c d 50
  have St0 := Lib.hid st0
  clear st0
  go_upto_region 3 with (first
    | (go_at_call 46; with_reducible refine (right_any a b _).mono ?_; rintro e w1 ⟨rfl, hb1⟩; have st1 := St0.out.below hb1; have h0 := st1.y0; have h1 := st1.y1)
    | (go_at_call 46; with_reducible refine (right_any c d _).mono ?_; rintro e w2 ⟨rfl, hb2⟩; have st2 := Lib.hid (st1.below hb2); clear h0 h1 st1 hb1 hb2))
  clear St0
  go_cut [8] (fun v wx => TB w wx a b c d ∧ ∃ Y, v = .pointer (some ⟨Y, 0, none⟩) ∧ w.heap.size + 2 < Y ∧ wx.cell? ⟨Y, 0, none⟩ = some (.int .i64 x) ∧ wx.cell? ⟨Y, 1, none⟩ = some (.int .i64 y))
  case first =>
    have st := st2.out
    obtain ⟨hx0, hx1, hy0, hy1, hr0, hr1, hf0, hf1, hbel, hsz⟩ := st2.out
    clear st2
    go_region_held3 (fun W => W.cell? ⟨w.heap.size, 0, none⟩ = some (.int .i64 a) ∧ W.cell? ⟨w.heap.size, 1, none⟩ = some (.int .i64 b) ∧ W.cell? ⟨w.heap.size + 1, 0, none⟩ = some (.int .i64 c) ∧ W.cell? ⟨w.heap.size + 1, 1, none⟩ = some (.int .i64 d) ∧ TB w W a b c d) (first
      | exact TB.all (by assumption)
      | exact TB.all (TB.drew (by assumption))
      | exact TB.all (TB.alloc (by assumption) _)
      | exact TB.all (TB.alloc (TB.drew (by assumption)) _)
      | exact TB.all (TB.drew (TB.alloc (by assumption) _))
      | exact TB.all (TB.far2 (by assumption) (TB.sz (by assumption)))
      | exact TB.all (TB.far2 (TB.alloc (by assumption) _) (TB.sz (by assumption)))) (first
      | (go_at_call 79; with_reducible refine (of_num a b _ (by omega) (by omega)).mono ?_; rintro e w3 ⟨v3, rfl, hv3, hb3⟩; have st3 := TB.below (by first | assumption | exact TB.drew (by assumption) | exact TB.alloc (by assumption) _ | exact TB.alloc (TB.drew (by assumption)) _ | exact TB.drew (TB.alloc (by assumption) _)) hb3; obtain ⟨hcl3, hfr3⟩ := bcell hb3; first | (have hy3 := size_one_drew hb3) | (have hy3 := size_one hb3) | skip)
      | (go_at_call 79; with_reducible refine (of_num c d _ (by omega) (by omega)).mono ?_; rintro e w4 ⟨v4, rfl, hv4, hb4⟩; have st4 := TB.below (by first | assumption | exact TB.drew (by assumption) | exact TB.alloc (by assumption) _ | exact TB.alloc (TB.drew (by assumption)) _ | exact TB.drew (TB.alloc (by assumption) _)) hb4; obtain ⟨hcl4, hfr4⟩ := bcell hb4; first | (have hy4 := size_one_drew hb4) | (have hy4 := size_one hb4) | (have hy4 := Nat.lt_of_lt_of_le hy3 hb4.size) | skip)
      | (go_at_call 72; refine (hf _ _ _ hv3 hv4).mono ?_; rintro e w5 ⟨v5, rfl, hv5, rfl⟩)
      | (go_at_call 73; refine (num_any _ x y _ hv5 (by omega) (by omega) (by omega) (by omega)).mono ?_; rintro e w6 ⟨rfl, hb6⟩; have st6 := TB.below (by first | assumption | exact TB.drew (by assumption) | exact TB.alloc (by assumption) _ | exact TB.alloc (TB.drew (by assumption)) _ | exact TB.drew (TB.alloc (by assumption) _)) hb6; obtain ⟨hcl6, hfr6⟩ := bcell hb6; first | (have hy6 := size_one_drew hb6) | (have hy6 := size_one hb6) | (have hy6 := Nat.lt_of_lt_of_le hy4 hb6.size) | skip))
    all_goals clear hx0 hx1 hy0 hy1 hr0 hr1 hf0 hf1 hbel hsz
    all_goals
      go_wp2
      go_meet
      case rel =>
        clear hf
        refine ⟨?_, _, rfl, ?_, ?_, ?_⟩
        · first
            | exact TB.alloc (by assumption) _
            | exact TB.far2 (by assumption) (TB.sz (by assumption))
        · exact TB.sz (by assumption)
        · first
            | exact World.cell?_alloc_at _ _ _ _ rfl
            | (refine (set_other (by decide)).trans (set_same (u := .int .i64 0) ?_); first | (rw [hcl6 _ _ (by first | assumption | (simp; done) | (simp; omega))]; exact World.cell?_alloc_at _ _ _ _ rfl) | (rw [hcl6 _ _ (by assumption), hcl4 _ _ (by first | assumption | (simp; done) | (simp; omega))]; exact World.cell?_alloc_at _ _ _ _ rfl) | (rw [hcl6 _ _ (by assumption), hcl4 _ _ (by assumption), hcl3 _ _ (by first | assumption | (simp; done) | (simp; omega))]; exact World.cell?_alloc_at _ _ _ _ rfl))
        · first
            | exact World.cell?_alloc_at _ _ _ _ rfl
            | (refine set_same (u := .int .i64 0) ((set_other (by decide)).trans ?_); first | (rw [hcl6 _ _ (by first | assumption | (simp; done) | (simp; omega))]; exact World.cell?_alloc_at _ _ _ _ rfl) | (rw [hcl6 _ _ (by assumption), hcl4 _ _ (by first | assumption | (simp; done) | (simp; omega))]; exact World.cell?_alloc_at _ _ _ _ rfl) | (rw [hcl6 _ _ (by assumption), hcl4 _ _ (by assumption), hcl3 _ _ (by first | assumption | (simp; done) | (simp; omega))]; exact World.cell?_alloc_at _ _ _ _ rfl))
  case rest =>
    obtain ⟨hst, Y, rfl, hYs, hc0, hc1⟩ := hcut
    obtain ⟨hx0, hx1, hy0, hy1, hr0, hr1, hf0, hf1, hbel, hsz⟩ := hst
    clear st2 hx0 hx1 hy0 hy1 hf
    have hYl : Y < wc.heap.size := block_lt_of_cell hc0
    by_cases ho : rightB x y = true
    · have Ho := Lib.hid ho
      go_wp2_with (go_at_call 46; refine (right_any _ _ _).mono ?_; rintro e w7 ⟨rfl, hb7⟩; obtain ⟨hcl, hfr⟩ := bcell hb7; have hz7 := Nat.lt_of_lt_of_le hsz hb7.size)
      exact bodyPost_ret (v := .tuple #[numV x y, .bool true]) (by simp [results, Try.results69, go_sem, hcl, hr0, hr1, hsz]) rfl ⟨by rw [Ho.out]; rfl, ((below_trans hbel hb7).setCell (by show w.heap.size ≤ w.heap.size + 1 + 1; omega) _).setCell (by show w.heap.size ≤ w.heap.size + 1 + 1; omega) _⟩
    · have ho := eq_false_of_ne_true ho
      have Ho := Lib.hid ho
      go_wp2_with (go_at_call 46; refine (right_any _ _ _).mono ?_; rintro e w7 ⟨rfl, hb7⟩; obtain ⟨hcl, hfr⟩ := bcell hb7; have hz7 := Nat.lt_of_lt_of_le hsz hb7.size)
      exact bodyPost_ret (v := .tuple #[numV 0 0, .bool false]) (by simp [results, Try.results69, go_sem, hcl, hr0, hr1, hsz]) rfl ⟨by rw [Ho.out]; rfl, ((below_trans hbel hb7).setCell (by show w.heap.size ≤ w.heap.size + 1 + 1; omega) _).setCell (by show w.heap.size ≤ w.heap.size + 1 + 1; omega) _⟩

set_option maxRecDepth 10000 in
set_option maxHeartbeats 1000000 in
theorem told_mul_no (a b c d : Int) (w : World) (hr : (rightB a b && rightB c d) = false) :
    Calls Try.prog 69 #[numV a b, numV c d, .func (Fn.func 72) #[] #[]] w fun e w' => e = .returned (toldV false 0 0) ∧ Below w.heap.size w w' := by
  have st0 := TB.new w a b c d 50
  have St0 := Lib.hid st0
  clear st0
  by_cases ho : rightB a b = true
  · have ho2 : rightB c d = false := by simpa [ho] using hr
    clear hr
    go_enter Try.func69, Try.ntmps69
    go_wp2_with (first
      | (go_at_call 46; with_reducible refine (right_any a b _).mono ?_; rintro e w1 ⟨rfl, hb1⟩; have st1 := St0.out.below hb1; have h0 := st1.y0; have h1 := st1.y1)
      | (go_at_call 46; with_reducible refine (right_any c d _).mono ?_; rintro e w2 ⟨rfl, hb2⟩; obtain ⟨hx0, hx1, hy0, hy1, hr0, hr1, hf0, hf1, hbel, hsz⟩ := st1.below hb2; clear h0 h1 st1 hb1 hb2))
    exact bodyPost_ret (v := .tuple #[numV 0 0, .bool false]) (by simp [results, Try.results69, go_sem, hr0, hr1]) rfl ⟨rfl, ((hbel).setCell (by show w.heap.size ≤ w.heap.size + 1 + 1; omega) _).setCell (by show w.heap.size ≤ w.heap.size + 1 + 1; omega) _⟩
  · have ho := eq_false_of_ne_true ho
    clear hr
    go_enter Try.func69, Try.ntmps69
    go_wp2_with (go_at_call 46; with_reducible refine (right_any a b _).mono ?_; rintro e w1 ⟨rfl, hb1⟩; obtain ⟨hx0, hx1, hy0, hy1, hr0, hr1, hf0, hf1, hbel, hsz⟩ := St0.out.below hb1)
    exact bodyPost_ret (v := .tuple #[numV 0 0, .bool false]) (by simp [results, Try.results69, go_sem, hr0, hr1]) rfl ⟨rfl, ((hbel).setCell (by show w.heap.size ≤ w.heap.size + 1 + 1; omega) _).setCell (by show w.heap.size ≤ w.heap.size + 1 + 1; omega) _⟩

end Go.Proofs.Ytebhojbllhjkeaa
