/- The document's answer for the rank: one list. -/
import Derived.Test.YtbbnackahgcegaaDoorRankL
namespace Go.Proofs.YtbbnackahgcegaaDoor
open Go.RowKit
set_option linter.all false

/-- the cells of such a list -/
def cellsL (L : List (Int × Int)) : List Value := L.flatMap (fun x => [.int .i64 x.1, .int .i64 x.2])
theorem cellsL_length (L : List (Int × Int)) : (cellsL L).length = L.length * 2 := by
  induction L with
  | nil => rfl
  | cons x L ih => rw [cellsL, List.flatMap_cons, List.length_append, List.length_cons, show (List.flatMap (fun x : Int × Int => [Value.int .i64 x.1, .int .i64 x.2]) L) = cellsL L from rfl, ih]; simp; omega
theorem cellsL_append (A B : List (Int × Int)) : cellsL (A ++ B) = cellsL A ++ cellsL B := by simp [cellsL, List.flatMap_append]
theorem cellsL_at : ∀ (L : List (Int × Int)) (k : Nat), k < L.length → (cellsL L)[k * 2]? = some (.int .i64 (L.getD k (0, 0)).1) ∧ (cellsL L)[k * 2 + 1]? = some (.int .i64 (L.getD k (0, 0)).2)
  | [], k, h => by simp at h
  | x :: L, 0, _ => by simp [cellsL]
  | x :: L, k + 1, h => by
    have := cellsL_at L k (by simpa using h)
    rw [show cellsL (x :: L) = .int .i64 x.1 :: .int .i64 x.2 :: cellsL L from rfl, show (k + 1) * 2 = k * 2 + 1 + 1 by omega, List.getElem?_cons_succ, List.getElem?_cons_succ, List.getElem?_cons_succ, List.getElem?_cons_succ]
    exact this
/-- such a list lies in memory: a row of cells from a block's first cell on -/
structure RdL (w : World) (a : Option Addr) (L : List (Int × Int)) : Prop where
  le : L.length ≤ 1000000
  at_ : 0 < L.length → ∃ g, a = some ⟨g, 0, none⟩ ∧ ∀ k, k < L.length → w.cell? ⟨g, k * 2, none⟩ = some (.int .i64 (L.getD k (0, 0)).1) ∧ w.cell? ⟨g, k * 2 + 1, none⟩ = some (.int .i64 (L.getD k (0, 0)).2)
theorem RdL.up {w w' : World} {a : Option Addr} {L : List (Int × Int)} (h : RdL w a L) (hb : Below w.heap.size w w') : RdL w' a L :=
  ⟨h.le, fun hp => by
    obtain ⟨g, e, hc⟩ := h.at_ hp
    have hg := block_lt_of_cell (hc 0 hp).1
    exact ⟨g, e, fun k hk => ⟨(hb.cell (p := ⟨g, k * 2, none⟩) hg).trans (hc k hk).1, (hb.cell (p := ⟨g, k * 2 + 1, none⟩) hg).trans (hc k hk).2⟩⟩⟩
/-- the place of a task: the first of that number, or -1 -/
def placeL (L : List (Int × Int)) (t : Int) : Int := if t ∈ L.map (·.1) then ((L.takeWhile (fun x => x.1 != t)).length : Int) else -1

set_option maxRecDepth 100000 in
set_option maxHeartbeats 1000000 in
theorem place_any (a : Option Addr) (c i0 : Nat) (L : List (Int × Int)) (task : Int) (w : World) (h : RdL w a L) (hi : i0 ≤ L.length) (hno : ∀ k, k < i0 → (L.getD k (0, 0)).1 ≠ task) (hyes : i0 < L.length → (L.getD i0 (0, 0)).1 = task) :
    Calls Tryd.prog 76 #[.agg #[.slice a L.length c], .int .i64 task] w fun e w' => e = .returned (.int .i64 (if i0 < L.length then (i0 : Int) else -1)) ∧ Below w.heap.size w w' := by
  have hR := h.up (below_one w (.cells #[.slice a L.length c] 70))
  have Hat := Lib.hid hR.at_
  have hle := h.le
  have Hno := Lib.hid (And.intro hno hyes)
  clear hno hyes h hR
  go_enter Tryd.func76, Tryd.ntmps76
  go_wp2
  go_loop [5] (fun i => ∃ k : Nat, k ≤ i0 ∧ i = .int .i64 k) (fun i => L.length - (intOf i).toNat)
  case atStart => exact ⟨0, Nat.zero_le _, rfl⟩
  case round =>
    obtain ⟨k, hk, rfl⟩ := hrel
    by_cases hlt : k < L.length
    · obtain ⟨g, rfl, hc⟩ := Hat.out (by omega)
      have hc1 := (hc k hlt).1
      have k1 : (k : Int) < (L.length : Int) := by omega
      by_cases hki : k = i0
      · subst hki
        rw [Hno.out.2 hlt] at hc1
        clear hc
        go_wp2
        go_ret
        exact ⟨by first | rfl | exact ret_int (by rw [if_pos hlt]), below_one _ _⟩
      · have hne := Hno.out.1 k (by omega)
        generalize (L.getD k (0, 0)).1 = x at hc1 hne
        have hnb : (x == task) = false := by simpa using hne
        clear hc
        go_wp2
        go_round
        case rel => exact ⟨k + 1, by omega, by go_num⟩
        case measure => simp [intOf]; omega
    · obtain rfl : k = i0 := by omega
      have hnl : ¬ k < L.length := hlt
      go_wp2
      go_ret
      exact ⟨by first | rfl | exact ret_int (by rw [if_neg hlt]), below_one _ _⟩

/-- the list without one in the middle, or the place where it ends -/
theorem place_yes {A B : List (Int × Int)} {t P : Int} (h : Good (A ++ (t, P) :: B)) : (∀ k, k < A.length → ((A ++ (t, P) :: B).getD k (0, 0)).1 ≠ t) ∧ ((A ++ (t, P) :: B).getD A.length (0, 0)) = (t, P) ∧ A.length < (A ++ (t, P) :: B).length := by
  have hone := h.one
  rw [List.map_append, List.map_cons, List.nodup_append] at hone
  obtain ⟨_, _, hA⟩ := hone
  refine ⟨fun k hk he => ?_, by rw [List.getD_eq_getElem?_getD, List.getElem?_append_right (Nat.le_refl _)]; simp, by simp⟩
  rw [List.getD_eq_getElem?_getD, List.getElem?_append_left hk] at he
  have hm : (A[k]).1 ∈ A.map (·.1) := List.mem_map.2 ⟨_, List.getElem_mem hk, rfl⟩
  refine hA (A[k]).1 hm t (List.mem_cons_self ..) ?_
  simpa [hk] using he
theorem place_no {L : List (Int × Int)} {t : Int} (h : t ∉ L.map (·.1)) : ∀ k, k < L.length → (L.getD k (0, 0)).1 ≠ t := by
  intro k hk he
  refine h (List.mem_map.2 ⟨L[k], List.getElem_mem hk, ?_⟩)
  simpa [hk] using he
theorem split_at {L : List (Int × Int)} {t : Int} (h : t ∈ L.map (·.1)) : ∃ A P B, L = A ++ (t, P) :: B := by
  obtain ⟨⟨a, P⟩, hx, rfl⟩ := List.mem_map.1 h
  obtain ⟨A, B, e⟩ := List.append_of_mem hx
  exact ⟨A, P, B, e⟩

set_option maxRecDepth 100000 in
set_option maxHeartbeats 1000000 in
theorem fprio_no (a : Option Addr) (c : Nat) (L : List (Int × Int)) (task : Int) (w : World) (h : RdL w a L) (hno : task ∉ L.map (·.1)) :
    Calls Tryd.prog 45 #[.agg #[.slice a L.length c], .int .i64 task] w fun e w' => e = .returned (.tuple #[.int .i64 0, .bool false]) ∧ Below w.heap.size w w' := by
  have hR := h.up (below_one w (.cells #[.slice a L.length c] 70))
  have hpl := fun W h => place_any a c L.length L task W h (Nat.le_refl _) (place_no hno) (fun h => absurd h (Nat.lt_irrefl _))
  have e : (if L.length < L.length then (L.length : Int) else -1) = -1 := if_neg (Nat.lt_irrefl _)
  rw [e] at hpl
  clear e
  go_enter Tryd.func45, Tryd.ntmps45
  go_wp2_with (go_at_call 76; with_reducible refine (hpl _ hR).mono ?_; rintro e w2 ⟨rfl, hb2⟩)
  exact bodyPost_ret (v := .tuple #[.int .i64 0, .bool false]) (by simp [results, Tryd.results45, go_sem]) rfl ⟨rfl, below_trans (below_one _ _) hb2⟩

set_option maxRecDepth 100000 in
set_option maxHeartbeats 1000000 in
theorem fprio_yes (a : Option Addr) (c i0 : Nat) (L : List (Int × Int)) (task P : Int) (w : World) (h : RdL w a L) (hi : i0 < L.length) (hno : ∀ k, k < i0 → (L.getD k (0, 0)).1 ≠ task) (hat : L.getD i0 (0, 0) = (task, P)) :
    Calls Tryd.prog 45 #[.agg #[.slice a L.length c], .int .i64 task] w fun e w' => e = .returned (.tuple #[.int .i64 P, .bool true]) ∧ Below w.heap.size w w' := by
  have hR := h.up (below_one w (.cells #[.slice a L.length c] 70))
  have hpl := fun W h => place_any a c i0 L task W h (by omega) hno (fun _ => by rw [hat])
  rw [if_pos hi] at hpl
  obtain ⟨g, rfl, hc⟩ := hR.at_ (by omega)
  have hc2 := (hc i0 hi).2
  rw [hat] at hc2
  have hle := h.le
  have i1 : (i0 : Int) < (L.length : Int) := by omega
  have hsz : w.heap.size < (w.alloc (.cells #[.slice (some ⟨g, 0, none⟩) L.length c] 70)).heap.size := by simp
  have hcs : (w.alloc (.cells #[.slice (some ⟨g, 0, none⟩) L.length c] 70)).cell? ⟨w.heap.size, 0, none⟩ = some (.slice (some ⟨g, 0, none⟩) L.length c) := World.cell?_alloc_at _ _ _ _ (by simp)
  clear hc hat hno
  go_enter Tryd.func45, Tryd.ntmps45
  go_wp2_with (go_at_call 76; with_reducible refine (hpl _ hR).mono ?_; rintro e w2 ⟨rfl, hb2⟩; have hd2 := (hb2.cell (p := ⟨g, i0 * 2 + 1, none⟩) (block_lt_of_cell hc2)).trans hc2; have hds := (hb2.cell (p := ⟨w.heap.size, 0, none⟩) hsz).trans hcs)
  exact bodyPost_ret (v := .tuple #[.int .i64 P, .bool true]) (by simp [results, Tryd.results45, go_sem]) rfl ⟨rfl, below_trans (below_one _ _) hb2⟩
end Go.Proofs.YtbbnackahgcegaaDoor
