/- gauss.Sum and the document's Sum: for any numbers, their sum from the first on, or none as soon as one is not. -/
import Derived.Test.YtebhojbllhjkeaaGaussRefOps
namespace Go.Proofs.Ytebhojbllhjkeaa
open Go.RowKit
set_option linter.all false

/-- the sum from (a, b) on -/
def sumFrom : Int → Int → List (Int × Int) → Int × Int × Bool
  | a, b, [] => (a, b, true)
  | a, b, (c, d) :: t => if rightB a b && rightB c d && rightB (a + c) (b + d) then sumFrom (a + c) (b + d) t else (0, 0, false)
abbrev sumV (zs : List (Int × Int)) : Value := .tuple #[numV (sumFrom 0 0 zs).1 (sumFrom 0 0 zs).2.1, .bool (sumFrom 0 0 zs).2.2]

/-- a slice at 'p' reads as the numbers 'zs' -/
def ReadsN (w : World) (p : Option Addr) (zs : List (Int × Int)) : Prop := zs.length ≤ 1000000 ∧ (0 < zs.length → ∃ b off, p = some ⟨b, off, none⟩ ∧ b < w.heap.size ∧
  ∀ i, i < zs.length → w.cell? ⟨b, off + i * 2, none⟩ = some (.int .i64 (zs.getD i (0, 0)).1) ∧ w.cell? ⟨b, off + i * 2 + 1, none⟩ = some (.int .i64 (zs.getD i (0, 0)).2))

set_option maxRecDepth 10000 in
set_option maxHeartbeats 1000000 in
theorem sum_any (p : Option Addr) (cap : Nat) (zs : List (Int × Int)) (w : World) (hp : ReadsN w p zs) :
    Calls Try.prog 41 #[.slice p zs.length cap] w fun e w' => e = .returned (sumV zs) ∧ Below w.heap.size w w' := by
  have Hp := Lib.hid hp
  have hn := hp.1
  go_enter Try.func41, Try.ntmps41
  go_wp2
  go_loopw [3, 8] (fun is i wr => ∃ (k : Nat) (a b : Int), k ≤ zs.length ∧ i = .int .i64 k ∧ is = .bool true ∧ sumFrom 0 0 zs = sumFrom a b (zs.drop k) ∧
    wr.cell? ⟨w.heap.size, 0, none⟩ = some (.int .i64 a) ∧ wr.cell? ⟨w.heap.size, 1, none⟩ = some (.int .i64 b) ∧ wr.frozen? ⟨w.heap.size, 0, none⟩ = false ∧ wr.frozen? ⟨w.heap.size, 1, none⟩ = false ∧ Below w.heap.size w wr) (fun _ i _ => zs.length - (intOf i).toNat)
  case atStart => exact ⟨0, 0, 0, Nat.zero_le _, rfl, rfl, rfl, by simp [go_sem], by simp [go_sem], by simp [go_sem], by simp [go_sem], below_one _ _⟩
  case round =>
    obtain ⟨k, a, b, hk, rfl, rfl, hs, hx0, hx1, hf0, hf1, hb⟩ := hrel
    have Hs := Lib.hid hs
    have hsz : w.heap.size < wr.heap.size := block_lt_of_cell hx0
    clear hp hs
    by_cases hlt : k < zs.length
    · obtain ⟨g, off, rfl, hg, hc⟩ := Hp.out.2 (by omega)
      obtain ⟨hc0, hc1⟩ := hc k hlt
      have hd0 := (hb.cell (p := ⟨g, off + k * 2, none⟩) hg).trans hc0
      have hd1 := (hb.cell (p := ⟨g, off + k * 2 + 1, none⟩) hg).trans hc1
      have hdrop : zs.drop k = zs.getD k (0, 0) :: zs.drop (k + 1) := by rw [List.drop_eq_getElem_cons hlt]; simp [hlt]
      have Hdrop := Lib.hid hdrop
      clear hdrop hc0 hc1 hc
      generalize hz : zs.getD k (0, 0) = z at *
      obtain ⟨c, d⟩ := z
      simp only at hd0 hd1
      have Hz := Lib.hid hz
      clear hz
      have hadd := fun W => add_any a b c d W
      by_cases hok : (rightB a b && rightB c d && rightB (a + c) (b + d)) = true
      · rw [show opV a b c d (a + c) (b + d) = .tuple #[numV (a + c) (b + d), .bool true] by simp [opV, hok]] at hadd
        have Hok := Lib.hid hok
        clear hok
        go_wp2_with (go_at_call 33; refine (hadd _).mono ?_; rintro e w2 ⟨rfl, hb2⟩; obtain ⟨hcl, hfr⟩ := bcell hb2; have hz2 := size_one hb2; have hz0 := Nat.lt_trans hsz hz2)
        have hbw := (below_one wr _).trans (hb2.mono (by simp))
        have y0 := Lib.hid ((hbw.cell (p := ⟨w.heap.size, 0, none⟩) hsz).trans hx0)
        have y1 := Lib.hid ((hbw.cell (p := ⟨w.heap.size, 1, none⟩) hsz).trans hx1)
        have z0 := Lib.hid ((hbw.frozen (p := ⟨w.heap.size, 0, none⟩) hsz).trans hf0)
        have z1 := Lib.hid ((hbw.frozen (p := ⟨w.heap.size, 1, none⟩) hsz).trans hf1)
        clear hbw
        have Hb := Lib.hid ((((below_trans hb ((below_one _ _).trans (hb2.mono (by simp))))).setCell (p := ⟨w.heap.size, 0, none⟩) (Nat.le_refl _) (.int .i64 (a + c))).setCell (p := ⟨w.heap.size, 1, none⟩) (Nat.le_refl _) (.int .i64 (b + d)))
        go_roundw
        case rel =>
          refine ⟨k + 1, a + c, b + d, by omega, by go_num, rfl, ?_, ?_, ?_, ?_, ?_, Hb.out⟩
          · rw [Hs.out, Hdrop.out, sumFrom, if_pos Hok.out]
          · exact (set_other (by decide)).trans (set_same y0.out)
          · exact set_same ((set_other (by decide)).trans y1.out)
          · rw [set_frozen, set_frozen]; exact z0.out
          · rw [set_frozen, set_frozen]; exact z1.out
        case measure => simp [intOf]; omega
      · rw [show opV a b c d (a + c) (b + d) = .tuple #[numV 0 0, .bool false] by simp [opV, hok]] at hadd
        have Hok := Lib.hid hok
        clear hok
        go_wp2_with (go_at_call 33; refine (hadd _).mono ?_; rintro e w2 ⟨rfl, hb2⟩; obtain ⟨hcl, hfr⟩ := bcell hb2; have hz2 := size_one hb2; have hz0 := Nat.lt_trans hsz hz2; have hbw := (below_one wr _).trans (hb2.mono (by simp)); have y0 := (hbw.cell (p := ⟨w.heap.size, 0, none⟩) hsz).trans hx0; have y1 := (hbw.cell (p := ⟨w.heap.size, 1, none⟩) hsz).trans hx1; have z0 := (hbw.frozen (p := ⟨w.heap.size, 0, none⟩) hsz).trans hf0; have z1 := (hbw.frozen (p := ⟨w.heap.size, 1, none⟩) hsz).trans hf1; clear hbw hcl hfr)
        have p0 : ((w2.setCell ⟨w.heap.size, 0, none⟩ (.int .i64 0)).setCell ⟨w.heap.size, 1, none⟩ (.int .i64 0)).cell? ⟨w.heap.size, 0, none⟩ = some (.int .i64 0) := (set_other (by decide)).trans (set_same y0)
        have p1 : ((w2.setCell ⟨w.heap.size, 0, none⟩ (.int .i64 0)).setCell ⟨w.heap.size, 1, none⟩ (.int .i64 0)).cell? ⟨w.heap.size, 1, none⟩ = some (.int .i64 0) := set_same ((set_other (by decide)).trans y1)
        have q0 : ((((w2.setCell ⟨w.heap.size, 0, none⟩ (.int .i64 0)).setCell ⟨w.heap.size, 1, none⟩ (.int .i64 0)).setCell ⟨w.heap.size, 0, none⟩ (.int .i64 0)).setCell ⟨w.heap.size, 1, none⟩ (.int .i64 0)).cell? ⟨w.heap.size, 0, none⟩ = some (.int .i64 0) := (set_other (by decide)).trans (set_same p0)
        have q1 : ((((w2.setCell ⟨w.heap.size, 0, none⟩ (.int .i64 0)).setCell ⟨w.heap.size, 1, none⟩ (.int .i64 0)).setCell ⟨w.heap.size, 0, none⟩ (.int .i64 0)).setCell ⟨w.heap.size, 1, none⟩ (.int .i64 0)).cell? ⟨w.heap.size, 1, none⟩ = some (.int .i64 0) := set_same ((set_other (by decide)).trans p1)
        have hb3 := below_trans hb ((below_one _ _).trans (hb2.mono (by simp)))
        exact bodyPost_ret (v := .tuple #[numV 0 0, .bool false]) (by simp [results, Try.results41, go_sem, q0, q1]) rfl ⟨by
          have : sumFrom 0 0 zs = (0, 0, false) := by rw [Hs.out, Hdrop.out, sumFrom, if_neg Hok.out]
          simp [sumV, this], (((hb3.setCell (Nat.le_refl _) _).setCell (Nat.le_refl _) _).setCell (Nat.le_refl _) _).setCell (Nat.le_refl _) _⟩
    · obtain rfl : k = zs.length := by omega
      go_wp2
      exact bodyPost_ret (v := .tuple #[numV a b, .bool true]) (by simp [results, Try.results41, go_sem, hx0, hx1, hsz]) rfl ⟨by
        have : sumFrom 0 0 zs = (a, b, true) := by rw [Hs.out, List.drop_length, sumFrom]
        simp [sumV, this], (hb.setCell (Nat.le_refl _) _).setCell (Nat.le_refl _) _⟩
end Go.Proofs.Ytebhojbllhjkeaa
