/- The document's Sum: for any numbers, their sum from the first on, or none as soon as one is not. -/
import Derived.Test.YtebhojbllhjkeaaGaussSum
namespace Go.Proofs.Ytebhojbllhjkeaa
open Go.RowKit
set_option linter.all false

theorem opV_inv {a b c d x y r1 r2 : Int} {ok : Bool} (h : opV a b c d x y = .tuple #[numV r1 r2, .bool ok]) :
    (ok = true → (rightB a b && rightB c d && rightB x y) = true ∧ r1 = x ∧ r2 = y) ∧ (ok = false → ¬ (rightB a b && rightB c d && rightB x y) = true ∧ r1 = 0 ∧ r2 = 0) := by
  unfold opV toldV at h
  generalize (rightB a b && rightB c d && rightB x y) = R at *
  cases R <;> simp at h <;> obtain ⟨⟨rfl, rfl⟩, rfl⟩ := h <;> simp

set_option maxRecDepth 10000 in
set_option maxHeartbeats 1000000 in
theorem refSum_any (p : Option Addr) (cap : Nat) (zs : List (Int × Int)) (w : World) (hp : ReadsN w p zs) :
    Calls Try.prog 42 #[.slice p zs.length cap] w fun e w' => e = .returned (sumV zs) ∧ Below w.heap.size w w' := by
  have Hp := Lib.hid hp
  have hn := hp.1
  go_enter Try.func42, Try.ntmps42
  go_wp2
  go_loopw [5, 6] (fun is i wr => ∃ (k : Nat) (a b : Int) (ok : Bool), k ≤ zs.length ∧ i = .int .i64 k ∧ is = .bool ok ∧ (ok = true → sumFrom 0 0 zs = sumFrom a b (zs.drop k)) ∧ (ok = false → sumFrom 0 0 zs = (a, b, false)) ∧
    wr.cell? ⟨w.heap.size + 1, 0, none⟩ = some (.int .i64 a) ∧ wr.cell? ⟨w.heap.size + 1, 1, none⟩ = some (.int .i64 b) ∧ wr.frozen? ⟨w.heap.size + 1, 0, none⟩ = false ∧ wr.frozen? ⟨w.heap.size + 1, 1, none⟩ = false ∧
    wr.cell? ⟨w.heap.size, 0, none⟩ = some (.int .i64 0) ∧ wr.cell? ⟨w.heap.size, 1, none⟩ = some (.int .i64 0) ∧ wr.frozen? ⟨w.heap.size, 0, none⟩ = false ∧ wr.frozen? ⟨w.heap.size, 1, none⟩ = false ∧ Below w.heap.size w wr) (fun _ i _ => zs.length - (intOf i).toNat)
  case atStart => exact ⟨0, 0, 0, true, Nat.zero_le _, rfl, rfl, fun _ => rfl, (fun h => by cases h), by simp [go_sem], by simp [go_sem], by simp [go_sem], by simp [go_sem], by simp [go_sem], by simp [go_sem], by simp [go_sem], by simp [go_sem], below_two _ _ _⟩
  case round =>
    obtain ⟨k, a, b, ok, hk, rfl, rfl, hs, hs', hx0, hx1, hf0, hf1, hr0, hr1, hg0, hg1, hb⟩ := hrel
    have hsz : w.heap.size + 1 < wr.heap.size := block_lt_of_cell hx0
    have Hs := Lib.hid hs
    have Hs' := Lib.hid hs'
    clear hp hs hs'
    cases ok with
    | false =>
      have hfin : sumFrom 0 0 zs = (a, b, false) := Hs'.out rfl
      have Hfin := Lib.hid hfin
      clear hfin
      by_cases hlt : k < zs.length
      · go_wp2
        exact bodyPost_ret (v := .tuple #[numV a b, .bool false]) (by simp [results, Try.results42, go_sem, hr0, hr1]) rfl ⟨by simp [sumV, Hfin.out], (hb.setCell (p := ⟨w.heap.size, 0, none⟩) (Nat.le_refl _) _).setCell (p := ⟨w.heap.size, 1, none⟩) (Nat.le_refl _) _⟩
      · obtain rfl : k = zs.length := by omega
        go_wp2
        exact bodyPost_ret (v := .tuple #[numV a b, .bool false]) (by simp [results, Try.results42, go_sem, hr0, hr1]) rfl ⟨by simp [sumV, Hfin.out], (hb.setCell (p := ⟨w.heap.size, 0, none⟩) (Nat.le_refl _) _).setCell (p := ⟨w.heap.size, 1, none⟩) (Nat.le_refl _) _⟩
    | true =>
      by_cases hlt : k < zs.length
      · obtain ⟨g, off, rfl, hg, hc⟩ := Hp.out.2 (by omega)
        obtain ⟨hc0, hc1⟩ := hc k hlt
        have hd0 := (hb.cell (p := ⟨g, off + k * 2, none⟩) hg).trans hc0
        have hd1 := (hb.cell (p := ⟨g, off + k * 2 + 1, none⟩) hg).trans hc1
        have hdrop : zs.drop k = zs.getD k (0, 0) :: zs.drop (k + 1) := by rw [List.drop_eq_getElem_cons hlt]; simp [hlt]
        have Hdrop := Lib.hid hdrop
        clear hdrop hc0 hc1 hc
        generalize hz : zs.getD k (0, 0) = z at *
        obtain ⟨c, d⟩ := z
        simp only at hd0 hd1
        clear hz
        have hadd := fun W => refAdd_any a b c d W
        obtain ⟨r1, r2, ok, hv⟩ : ∃ r1 r2 ok, opV a b c d (a + c) (b + d) = .tuple #[numV r1 r2, .bool ok] := ⟨_, _, _, rfl⟩
        rw [hv] at hadd
        have Hv := Lib.hid hv
        clear hv
        go_wp2
        go_region_with (go_at_call 34; refine (hadd _).mono ?_; rintro e w2 ⟨rfl, hb2⟩; have y0 := (hb2.cell (p := ⟨w.heap.size + 1, 0, none⟩) hsz).trans hx0; have y1 := (hb2.cell (p := ⟨w.heap.size + 1, 1, none⟩) hsz).trans hx1; have y2 := (hb2.frozen (p := ⟨w.heap.size + 1, 0, none⟩) hsz).trans hf0; have y3 := (hb2.frozen (p := ⟨w.heap.size + 1, 1, none⟩) hsz).trans hf1)
        all_goals
          have Y0 := Lib.hid y0
          have Y1 := Lib.hid y1
          have Y2 := Lib.hid y2
          have Y3 := Lib.hid y3
          have hsz0 : w.heap.size < wr.heap.size := by omega
          have u0 := Lib.hid ((hb2.cell (p := ⟨w.heap.size, 0, none⟩) hsz0).trans hr0)
          have u1 := Lib.hid ((hb2.cell (p := ⟨w.heap.size, 1, none⟩) hsz0).trans hr1)
          have u2 := Lib.hid ((hb2.frozen (p := ⟨w.heap.size, 0, none⟩) hsz0).trans hg0)
          have u3 := Lib.hid ((hb2.frozen (p := ⟨w.heap.size, 1, none⟩) hsz0).trans hg1)
          have Hb := Lib.hid (((below_trans hb.drew hb2).setCell (p := ⟨w.heap.size + 1, 0, none⟩) (by show w.heap.size ≤ w.heap.size + 1; omega) (.int .i64 r1)).setCell (p := ⟨w.heap.size + 1, 1, none⟩) (by show w.heap.size ≤ w.heap.size + 1; omega) (.int .i64 r2))
          clear y0 y1 y2 y3 hb2 hr0 hr1 hg0 hg1 hx0 hx1 hf0 hf1 hd0 hd1 hadd
          go_wp2
          go_roundw
          case rel =>
            refine ⟨k + 1, r1, r2, ok, by omega, by go_num, rfl, fun h => ?_, fun h => ?_, (set_other (by decide)).trans (set_same Y0.out), set_same ((set_other (by decide)).trans Y1.out), ?_, ?_, ?_, ?_, ?_, ?_, Hb.out⟩
            · obtain ⟨h1, rfl, rfl⟩ := (opV_inv Hv.out).1 h
              rw [Hs.out (by trivial), Hdrop.out, sumFrom, if_pos h1]
            · obtain ⟨h1, rfl, rfl⟩ := (opV_inv Hv.out).2 h
              rw [Hs.out (by trivial), Hdrop.out, sumFrom, if_neg h1]
            · rw [set_frozen, set_frozen]; exact Y2.out
            · rw [set_frozen, set_frozen]; exact Y3.out
            · exact (set_far (by show w.heap.size + 1 ≠ w.heap.size; omega)).trans ((set_far (by show w.heap.size + 1 ≠ w.heap.size; omega)).trans u0.out)
            · exact (set_far (by show w.heap.size + 1 ≠ w.heap.size; omega)).trans ((set_far (by show w.heap.size + 1 ≠ w.heap.size; omega)).trans u1.out)
            · rw [set_frozen, set_frozen]; exact u2.out
            · rw [set_frozen, set_frozen]; exact u3.out
          case measure => simp [intOf]; omega
      · obtain rfl : k = zs.length := by omega
        have hfin : sumFrom 0 0 zs = (a, b, true) := by rw [Hs.out rfl, List.drop_length, sumFrom]
        have Hfin := Lib.hid hfin
        clear hfin
        go_wp2
        exact bodyPost_ret (v := .tuple #[numV a b, .bool true]) (by simp [results, Try.results42, go_sem, hr0, hr1]) rfl ⟨by simp [sumV, Hfin.out], (hb.setCell (p := ⟨w.heap.size, 0, none⟩) (Nat.le_refl _) _).setCell (p := ⟨w.heap.size, 1, none⟩) (Nat.le_refl _) _⟩
end Go.Proofs.Ytebhojbllhjkeaa
