/- The document's Turn: for any number and any k, the number turned k quarters, if it may be; else none. -/
import Derived.Test.YtebhojbllhjkeaaGaussTurn
import Derived.Test.YtebhojbllhjkeaaGaussRef
namespace Go.Proofs.Ytebhojbllhjkeaa
open Go.RowKit
set_option linter.all false

structure TR (w W : World) (x y : Int) : Prop where
  x0 : W.cell? ⟨w.heap.size, 0, none⟩ = some (.int .i64 x)
  x1 : W.cell? ⟨w.heap.size, 1, none⟩ = some (.int .i64 y)
  g0 : W.frozen? ⟨w.heap.size, 0, none⟩ = false
  g1 : W.frozen? ⟨w.heap.size, 1, none⟩ = false
  r0 : W.cell? ⟨w.heap.size + 1, 0, none⟩ = some (.int .i64 0)
  r1 : W.cell? ⟨w.heap.size + 1, 1, none⟩ = some (.int .i64 0)
  f0 : W.frozen? ⟨w.heap.size + 1, 0, none⟩ = false
  f1 : W.frozen? ⟨w.heap.size + 1, 1, none⟩ = false
  bel : Below w.heap.size w W
  sz : w.heap.size + 1 < W.heap.size
theorem TR.below {w W W' : World} {x y : Int} (h : TR w W x y) (hb : Below W.heap.size W W') : TR w W' x y := by
  have hs := h.sz
  have hc := fun i o (hi : i < W.heap.size) => hb.cell (p := ⟨i, o, none⟩) hi
  have hf := fun i o (hi : i < W.heap.size) => hb.frozen (p := ⟨i, o, none⟩) hi
  exact ⟨(hc _ _ (by omega)).trans h.x0, (hc _ _ (by omega)).trans h.x1, (hf _ _ (by omega)).trans h.g0, (hf _ _ (by omega)).trans h.g1, (hc _ _ (by omega)).trans h.r0, (hc _ _ (by omega)).trans h.r1,
    (hf _ _ (by omega)).trans h.f0, (hf _ _ (by omega)).trans h.f1, below_trans h.bel hb, Nat.lt_of_lt_of_le hs hb.size⟩
theorem TR.turned {w W : World} {x y x' y' : Int} (h : TR w W x y) : TR w ((W.setCell ⟨w.heap.size, 0, none⟩ (.int .i64 x')).setCell ⟨w.heap.size, 1, none⟩ (.int .i64 y')) x' y' := by
  have e : ∀ j o, j ≠ w.heap.size → ((W.setCell ⟨w.heap.size, 0, none⟩ (.int .i64 x')).setCell ⟨w.heap.size, 1, none⟩ (.int .i64 y')).cell? ⟨j, o, none⟩ = W.cell? ⟨j, o, none⟩ := fun j o hj =>
    (set_far (by show w.heap.size ≠ j; omega)).trans (set_far (by show w.heap.size ≠ j; omega))
  refine ⟨(set_other (by decide)).trans (set_same h.x0), set_same ((set_other (by decide)).trans h.x1), ?_, ?_, (e _ _ (by omega)).trans h.r0, (e _ _ (by omega)).trans h.r1, ?_, ?_, (h.bel.setCell (Nat.le_refl _) _).setCell (Nat.le_refl _) _, ?_⟩
  · rw [set_frozen, set_frozen]; exact h.g0
  · rw [set_frozen, set_frozen]; exact h.g1
  · rw [set_frozen, set_frozen]; exact h.f0
  · rw [set_frozen, set_frozen]; exact h.f1
  · have := h.sz
    simpa [World.setCell] using this

theorem rot_step (n : Nat) (h : n < 3) (a b : Int) : rotR (n + 1) a b = -(rotI n a b) ∧ rotI (n + 1) a b = rotR n a b := by
  match n, h with
  | 0, _ => exact ⟨rfl, rfl⟩
  | 1, _ => exact ⟨rfl, rfl⟩
  | 2, _ => exact ⟨by simp [rotR, rotI], rfl⟩
theorem rot_right (n : Nat) (a b : Int) : rightB (rotR n a b) (rotI n a b) = rightB a b := by
  have n1 := (right_neg b a).1
  have n2 := (right_neg a b).2.2
  have n3 := (right_neg a (-b)).1
  have n4 := (right_neg a b).2.1
  have n5 := (right_neg b a).2.1
  match n with
  | 0 => rfl
  | 1 => simp [rotR, rotI, n1, n2]
  | 2 => simp [rotR, rotI, n3, n4]
  | n + 3 => simp [rotR, rotI, n5, n2]

set_option maxRecDepth 10000 in
set_option maxHeartbeats 1000000 in
theorem refTurn_any (a b k : Int) (w : World) :
    Calls Try.prog 38 #[numV a b, .int .i64 k] w fun e w' => e = .returned (toldV (rightB a b) (rotR (quarters k) a b) (rotI (quarters k) a b)) ∧ Below w.heap.size w w' := by
  have hq := quart k
  have kb := tmod4 k
  have hQ : (k.tmod 4 + 4).tmod 4 = (quarters k : Int) := by unfold quarters; omega
  have hQ4 : quarters k < 4 := by unfold quarters; omega
  generalize hQQ : quarters k = Q at *
  clear hq hQQ
  have St0 : TR w ((w.alloc (.cells #[.int .i64 a, .int .i64 b] 48)).alloc (.cells #[.int .i64 0, .int .i64 0] 48)) a b := by
    constructor
    case bel => exact below_two _ _ _
    all_goals (simp [go_sem]; done)
  have St0 := Lib.hid St0
  go_enter Try.func38, Try.ntmps38
  go_wp2
  go_loopw [6] (fun i wr => ∃ (j : Nat), j ≤ Q ∧ (rightB a b = true ∨ j = 0) ∧ i = .int .i64 j ∧ TR w wr (rotR j a b) (rotI j a b)) (fun i _ => Q - (intOf i).toNat)
  case atStart => exact ⟨0, Nat.zero_le _, .inr rfl, rfl, St0.out⟩
  case round =>
    obtain ⟨j, hj, hjr, rfl, hst⟩ := hrel
    have hrr := rot_right j a b
    by_cases hr : rightB a b = true
    · by_cases hlt : j < Q
      · obtain ⟨s1, s2⟩ := rot_step j (by omega) a b
        have S1 := Lib.hid s1
        have S2 := Lib.hid s2
        obtain ⟨⟨x0, x1⟩, y0, y1⟩ := of_rightB (hrr.trans hr)
        rw [hr] at hrr
        generalize rotR j a b = x at *
        generalize rotI j a b = y at *
        clear s1 s2
        have hc0 := hst.x0
        have hc1 := hst.x1
        go_wp2_with (go_at_call 47; refine (refRight_any x y _).mono ?_; rintro e w2 ⟨rfl, hb2⟩; have st2 := hst.below hb2; have St2 := Lib.hid st2; obtain ⟨hx0, hx1, hg0, hg1, hr0, hr1, hf0, hf1, hbel, hsz⟩ := st2; clear hc0 hc1 hst)
        go_roundw
        case rel => exact ⟨j + 1, by omega, .inl hr, by go_num, by rw [S1.out, S2.out]; exact St2.out.turned⟩
        case measure => simp [intOf]; omega
      · obtain rfl : j = Q := by omega
        have hc0 := hst.x0
        have hc1 := hst.x1
        have ht := fun W => refTold_any (rotR j a b) (rotI j a b) true W
        rw [hrr, hr, Bool.true_and] at ht
        have Hr := Lib.hid hr
        generalize hX : rotR j a b = x at hst hc0 hc1 ht hrr
        generalize hY : rotI j a b = y at hst hc0 hc1 ht hrr
        have Hx := Lib.hid hX
        have Hy := Lib.hid hY
        clear hX hY
        go_wp2_with (go_at_call 71; refine (ht _).mono ?_; rintro e w2 ⟨rfl, hb2⟩; obtain ⟨hx0, hx1, hg0, hg1, hr0, hr1, hf0, hf1, hbel, hsz⟩ := hst.below hb2; clear hc0 hc1 hst)
        exact bodyPost_ret (v := .tuple #[numV x y, .bool true]) (by simp [results, Try.results38, go_sem, hr0, hr1]) rfl ⟨by rw [Hr.out, Hx.out, Hy.out]; rfl, (hbel.setCell (by show w.heap.size ≤ w.heap.size + 1; omega) _).setCell (by show w.heap.size ≤ w.heap.size + 1; omega) _⟩
    · obtain rfl : j = 0 := by rcases hjr with h | h; exact absurd h hr; exact h
      have hr := eq_false_of_ne_true hr
      have hst' : TR w wr a b := hst
      have hc0 := hst'.x0
      have hc1 := hst'.x1
      have ht := fun W => refTold_any a b true W
      rw [hr, Bool.true_and] at ht
      have Hr := Lib.hid hr
      by_cases hlt : 0 < Q
      · go_wp2_with (first
          | (go_at_call 47; refine (refRight_any a b _).mono ?_; rintro e w2 ⟨rfl, hb2⟩; have st2 := hst'.below hb2; have hd0 := st2.x0; have hd1 := st2.x1)
          | (go_at_call 71; refine (ht _).mono ?_; rintro e w3 ⟨rfl, hb3⟩; obtain ⟨hx0, hx1, hg0, hg1, hr0, hr1, hf0, hf1, hbel, hsz⟩ := st2.below hb3; clear hc0 hc1 hst hst' st2 hd0 hd1))
        exact bodyPost_ret (v := .tuple #[numV 0 0, .bool false]) (by simp [results, Try.results38, go_sem, hr0, hr1]) rfl ⟨by rw [Hr.out]; rfl, (hbel.setCell (by show w.heap.size ≤ w.heap.size + 1; omega) _).setCell (by show w.heap.size ≤ w.heap.size + 1; omega) _⟩
      · go_wp2_with (go_at_call 71; refine (ht _).mono ?_; rintro e w3 ⟨rfl, hb3⟩; obtain ⟨hx0, hx1, hg0, hg1, hr0, hr1, hf0, hf1, hbel, hsz⟩ := hst'.below hb3; clear hc0 hc1 hst hst')
        exact bodyPost_ret (v := .tuple #[numV 0 0, .bool false]) (by simp [results, Try.results38, go_sem, hr0, hr1]) rfl ⟨by rw [Hr.out]; rfl, (hbel.setCell (by show w.heap.size ≤ w.heap.size + 1; omega) _).setCell (by show w.heap.size ≤ w.heap.size + 1; omega) _⟩
end Go.Proofs.Ytebhojbllhjkeaa
