/- The contract of bellroperef01.Same: are two slices of integers the same, element by element? -/
import Derived.Test.YtbbnackahgcegaaDoorRows
import Derived.Test.YtbbnackahgcegaaDoorKit
import Derived.WalkKit
import Derived.WalkSpells
import Derived.WalkLawsBesides
import Derived.Lib.Hide
import Derived.Deep.QuietTactic
import Derived.BigQuiet
namespace Go.Proofs.YtbbnackahgcegaaDoor
open Go.RowKit
set_option linter.unusedVariables false

/-- a slice at 'p' reads as the integers 'xs' -/
def Reads (w : World) (p : Option Addr) (xs : List Int) : Prop := xs.length ≤ 9223372036854775807 ∧ (0 < xs.length → ∃ b off, p = some ⟨b, off, none⟩ ∧ ∀ i, i < xs.length → w.cell? ⟨b, off + i, none⟩ = some (.int .i64 (xs.getD i 0)))

theorem reads_of_heap {w : World} {g : Nat} {s : List Int} {t : TypeId} (h : w.heap[g]? = some (.cells (s.map (Value.int .i64)).toArray t (0, 0))) (hs : s.length ≤ 9223372036854775807) : Reads w (some ⟨g, 0, none⟩) s :=
  ⟨hs, fun _ => ⟨g, 0, rfl, fun i hi => by
    rw [cell_of_row w g (0 + i) _ t _ h]
    simp [hi]⟩⟩
theorem Reads.below {w w' : World} {b off : Nat} {s : List Int} (h : Reads w (some ⟨b, off, none⟩) s) (hb : Below w.heap.size w w') (hlt : b < w.heap.size) : Reads w' (some ⟨b, off, none⟩) s :=
  ⟨h.1, fun hp => by
    obtain ⟨b', off', he, hc⟩ := h.2 hp
    injection he with he
    injection he with h1 h2
    subst h1 h2
    exact ⟨b, off, rfl, fun i hi => (hb.cell (p := ⟨b, off + i, none⟩) hlt).trans (hc i hi)⟩⟩

theorem length_take_le {zs : List Int} {len : Nat} (h : len ≤ zs.length) : (zs.take len).length = len := by simp [Nat.min_eq_left h]
theorem reads_of_ints {W : World} {x : Addr} {len cap : Nat} {zs : List Int} (hl : len ≤ cap) (hm : cap ≤ maxLen) (hz : zs.length = cap)
    (hcell : ∀ i, i < zs.length → W.cell? (x.add i) = some (.int .i64 (zs.getD i 0))) : Reads W (some x) (zs.take len) := by
  have hlen : (zs.take len).length = len := length_take_le (by omega)
  unfold maxLen at hm
  refine ⟨by omega, fun hp => ?_⟩
  obtain ⟨b, off, spot⟩ := x
  have hc := hcell 0 (by omega)
  have hspot : spot = none := by simpa [Addr.add] using World.cell?_spot hc
  subst hspot
  refine ⟨b, off, rfl, fun i hi => ?_⟩
  have := hcell i (by omega)
  rw [Addr.add_mid] at this
  rw [this]
  have hi2 : i < len := by omega
  simp [hi2]
theorem reads_nil (W : World) : Reads W none [] := ⟨by simp, fun h => by simp at h⟩

theorem take_succ_eq {xs ys : List Int} {k : Nat} (hx : k < xs.length) (hy : k < ys.length) (h : xs.take k = ys.take k) (he : xs.getD k 0 = ys.getD k 0) : xs.take (k + 1) = ys.take (k + 1) := by
  rw [List.take_succ_eq_append_getElem hx, List.take_succ_eq_append_getElem hy, h]
  simp [List.getD_eq_getElem?_getD, hx, hy] at he
  rw [he]

theorem getD_ne_take {xs ys : List Int} {k : Nat} (h : xs.getD k 0 ≠ ys.getD k 0) : xs ≠ ys := by
  rintro rfl
  exact h rfl

set_option maxHeartbeats 800000 in
theorem same_any (p q : Option Addr) (c d : Nat) (xs ys : List Int) (w : World) (hp : Reads w p xs) (hq : Reads w q ys) :
    Calls Tryd.prog 49 #[.slice p xs.length c, .slice q ys.length d] w fun e w' => e = .returned (.bool (decide (xs = ys))) ∧ ∃ n, w' = w.drewN n := by
  obtain ⟨hpl, hp⟩ := hp
  obtain ⟨hql, hq⟩ := hq
  have hp := Lib.hid hp
  have hq := Lib.hid hq
  by_cases hl : xs.length = ys.length
  · have hne : ((xs.length : Int) != (ys.length : Int)) = false := by simp [hl]
    have hl' := Lib.hid hl
    clear hl
    go_enter Tryd.func49, Tryd.ntmps49
    go_wp2
    go_loopw [5] (fun i wr => ∃ k : Nat, k ≤ xs.length ∧ i = .int .i64 k ∧ xs.take k = ys.take k ∧ ∃ n, wr = w.drewN n) (fun i _ => xs.length - (intOf i).toNat)
    case atStart => exact ⟨0, Nat.zero_le _, rfl, rfl, 0, rfl⟩
    case round =>
      obtain ⟨k, hk, rfl, ht, n, rfl⟩ := hrel
      have ht := Lib.hid ht
      by_cases hlt : k < xs.length
      · obtain ⟨b, off, rfl, hb⟩ := hp.out (by omega)
        obtain ⟨b2, off2, rfl, hb2⟩ := hq.out (by have := hl'.out; omega)
        have h1 := hb k hlt
        have h2 := hb2 k (by have := hl'.out; omega)
        have hlt2 : k < ys.length := by have := hl'.out; omega
        clear hb hb2
        by_cases he : xs.getD k 0 = ys.getD k 0
        · have hts := Lib.hid (take_succ_eq hlt hlt2 ht.out he)
          generalize xs.getD k 0 = u at *
          subst he
          go_wp2
          go_quiet (fail)
          go_wp2
          go_roundw
          case rel => exact ⟨k + 1, by omega, by go_num, hts.out, _, rfl⟩
          case measure => simp [intOf]; omega
        · have hxy := Lib.hid (getD_ne_take he)
          generalize xs.getD k 0 = u at *
          generalize ys.getD k 0 = v at *
          have hnb : (u != v) = true := by simpa using he
          go_wp2
          go_quiet (fail)
          go_wp2
          go_ret
          exact ⟨ret_bool (decide_eq_false hxy.out).symm, n + nq, World.drewN_drewN ..⟩
      · obtain rfl : k = xs.length := by omega
        have hxy : xs = ys := by
          have := ht.out
          rwa [List.take_length, hl'.out, List.take_length] at this
        go_wp2
        go_ret
        exact ⟨ret_bool (by simp [hxy]), _, rfl⟩
  · have hne : ((xs.length : Int) != (ys.length : Int)) = true := by simp; omega
    have hxy : xs ≠ ys := fun h => hl (by rw [h])
    go_enter Tryd.func49, Tryd.ntmps49
    go_wp2
    go_ret
    exact ⟨ret_bool (by simp [hxy]), 0, rfl⟩

end Go.Proofs.YtbbnackahgcegaaDoor
