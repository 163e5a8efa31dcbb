/- A new rank; the rows that any priorities make; the chapter's example. -/
import Derived.Test.YtbbnackahgcegaaDoorRankList
namespace Go.Proofs.YtbbnackahgcegaaDoor
open Go.RowKit
set_option linter.all false

theorem RK.new (w : World) (t : TypeId) : RK (w.alloc (.cells Tryd.zeroCells67 t)) w.heap.size (fun _ => []) 0 0 := by
  have e : Tryd.zeroCells67 = (List.replicate 544 (Value.int .i64 0) ++ [Value.int .u32 0, Value.int .i64 0]).toArray := by kernel_rfl
  have hl : (List.replicate 544 (Value.int .i64 0)).length = 544 := List.length_replicate
  generalize hR : List.replicate 544 (Value.int .i64 0) = R at *
  have hR0 : ∀ i, i < 544 → R[i]? = some (Value.int .i64 0) := fun i hi => by rw [← hR, List.getElem?_replicate, if_pos hi]
  clear hR
  have hs : (Tryd.zeroCells67).size = 546 := by rw [e, List.size_toArray, List.length_append, hl]; rfl
  have hc : ∀ i, (w.alloc (.cells Tryd.zeroCells67 t)).cell? ⟨w.heap.size, i, none⟩ = (R ++ [Value.int .u32 0, Value.int .i64 0])[i]? := fun i => by
    rw [World.cell?_alloc_at _ _ _ _ rfl, e, List.getElem?_toArray]
  have h0 : ∀ i, i < 544 → (w.alloc (.cells Tryd.zeroCells67 t)).cell? ⟨w.heap.size, i, none⟩ = some (.int .i64 0) := fun i hi => by
    rw [hc, List.getElem?_append_left (by omega), hR0 i hi]
  refine ⟨fun p i hp hi => by simp at hi, fun p i hp hi => ⟨0, h0 _ (by omega)⟩, fun p hp => by rw [h0 _ (by omega)]; rfl, ?_, ?_, fun i hi => ?_, fun p hp => by simp, by omega, by omega, fun p hp => by simp⟩
  · rw [hc, List.getElem?_append_right (by omega), hl]; rfl
  · rw [hc, List.getElem?_append_right (by omega), hl]; rfl
  · have := (there_new w Tryd.zeroCells67 t 546 (by rw [hs]; exact Nat.le_refl _) i hi).2
    rwa [Nat.zero_add] at this

theorem RK.hiI_eq {w : World} {B P : Nat} {q : Nat → List Int} {b n : Int} (h : RK w B q b n) (hP : P < 32) (hq : 0 < (q P).length) (hup : ∀ p, P < p → p < 32 → q p = []) : hiI b = P := by
  have h0 := h.lo
  have h1 := h.hi
  have : Lib.bitLen b.toNat = P + 1 := bitLen_is (by omega) (fun j hj => by
    by_cases h32 : j < 32
    · rw [h.tb j h32, hup j (by omega) h32]
      simp
    · exact tb_high (by omega) (by omega)) (.inr (by
      rw [Nat.add_sub_cancel, h.tb P hP]
      have : q P ≠ [] := fun e => by rw [e] at hq; simp at hq
      simp [this]))
  unfold hiI
  omega

/-- two rows, the others empty -/
def Q2 (a c : List Int) : Nat → List Int := fun p => if p = 5 then a else if p = 9 then c else []
theorem Q2_add5 (a c : List Int) (t : Int) : addQ (Q2 a c) 5 t = Q2 (a ++ [t]) c := by
  funext p
  unfold addQ Q2
  by_cases h : p = 5 <;> simp [h]
theorem Q2_add9 (a c : List Int) (t : Int) : addQ (Q2 a c) 9 t = Q2 a (c ++ [t]) := by
  funext p
  unfold addQ Q2
  by_cases h : p = 9
  · subst h; simp
  · simp [h]
theorem Q2_del5 (a c : List Int) (j : Nat) : delQ (Q2 a c) 5 j = Q2 (a.eraseIdx j) c := by
  funext p
  unfold delQ Q2
  by_cases h : p = 5 <;> simp [h]
theorem Q2_del9 (a c : List Int) (j : Nat) : delQ (Q2 a c) 9 j = Q2 a (c.eraseIdx j) := by
  funext p
  unfold delQ Q2
  by_cases h : p = 9
  · subst h; simp
  · simp [h]
theorem Q2_no {a c : List Int} {t : Int} (ha : t ∉ a) (hc : t ∉ c) : ∀ p, p < 32 → ∀ i, i < (Q2 a c p).length → (Q2 a c p).getD i 0 ≠ t := by
  intro p _ i hi he
  have hm : t ∈ Q2 a c p := by rw [← he]; simp [hi]
  unfold Q2 at hm
  split at hm
  · exact ha hm
  · split at hm
    · exact hc hm
    · cases hm

set_option maxRecDepth 100000 in
set_option maxHeartbeats 1000000 in
theorem alive23 (w : World) (hT : Tab w) : Calls Tryd.prog 35 #[] w fun e w' => e = .returned (.bool true) ∧ Below w.heap.size w w' := by
  have hTB : 0 < w.heap.size := hT.lt
  have st0 : RK (w.alloc (.cells Tryd.zeroCells67 67)) w.heap.size (Q2 [] []) 0 0 := by
    have := RK.new w 67
    rwa [show (fun _ => [] : Nat → List Int) = Q2 [] [] by funext p; unfold Q2; simp] at this
  have bb0 := below_one w (.cells Tryd.zeroCells67 67)
  have A1 : ∀ W b, Tab W → RK W w.heap.size (Q2 [] []) b 0 → Calls Tryd.prog 36 #[.pointer (some ⟨w.heap.size, 0, none⟩), .int .i64 1, .int .i64 5] W fun e w' => e = .returned (.bool true) ∧ RK w' w.heap.size (Q2 [1] []) (putT b 5) 1 ∧ W.grownBy w' (some w.heap.size) := fun W b hT h => by
    have := radd_yes w.heap.size 5 (Q2 [] []) b 0 1 W hT h (Q2_no (by simp) (by simp)) (by omega) (by omega) (by omega) (by simp [Q2]) (by omega)
    rwa [Q2_add5] at this
  have A2 : ∀ W b, Tab W → RK W w.heap.size (Q2 [1] []) b 1 → Calls Tryd.prog 36 #[.pointer (some ⟨w.heap.size, 0, none⟩), .int .i64 2, .int .i64 5] W fun e w' => e = .returned (.bool true) ∧ RK w' w.heap.size (Q2 [1, 2] []) (putT b 5) 2 ∧ W.grownBy w' (some w.heap.size) := fun W b hT h => by
    have := radd_yes w.heap.size 5 (Q2 [1] []) b 1 2 W hT h (Q2_no (by simp) (by simp)) (by omega) (by omega) (by omega) (by simp [Q2]) (by omega)
    rwa [Q2_add5] at this
  have A3 : ∀ W b, Tab W → RK W w.heap.size (Q2 [1, 2] []) b 2 → Calls Tryd.prog 36 #[.pointer (some ⟨w.heap.size, 0, none⟩), .int .i64 3, .int .i64 9] W fun e w' => e = .returned (.bool true) ∧ RK w' w.heap.size (Q2 [1, 2] [3]) (putT b 9) 3 ∧ W.grownBy w' (some w.heap.size) := fun W b hT h => by
    have := radd_yes w.heap.size 9 (Q2 [1, 2] []) b 2 3 W hT h (Q2_no (by simp) (by simp)) (by omega) (by omega) (by omega) (by simp [Q2]) (by omega)
    rwa [Q2_add9] at this
  have F1 : ∀ W b, RK W w.heap.size (Q2 [1, 2] [3]) b 3 → Calls Tryd.prog 42 #[.pointer (some ⟨w.heap.size, 0, none⟩)] W fun e w' => e = .returned (.tuple #[.int .i64 3, .bool true]) ∧ Below W.heap.size W w' := fun W b h =>
    rfirst_yes w.heap.size 9 (Q2 [1, 2] [3]) b 3 W h (by omega) (by omega) (h.hiI_eq (by omega) (by simp [Q2]) (fun p h1 _ => by unfold Q2; rw [if_neg (by omega), if_neg (by omega)])) (by simp [Q2])
  have R1 : ∀ W b, Tab W → RK W w.heap.size (Q2 [1, 2] [3]) b 3 → Calls Tryd.prog 38 #[.pointer (some ⟨w.heap.size, 0, none⟩), .int .i64 3] W fun e w' => e = .returned (.bool true) ∧ RK w' w.heap.size (Q2 [1, 2] []) (putF b 9) 2 ∧ W.grownBy w' (some w.heap.size) := fun W b hT h => by
    have := rremove_yes w.heap.size 9 0 (Q2 [1, 2] [3]) b 3 3 W hT h (by omega) (by simp [Q2]) (by simp [Q2]) (fun p hp i hi he => by
      unfold Q2 at hi he
      by_cases h5 : p = 5
      · subst h5
        simp at hi
        rcases (by omega : i = 0 ∨ i = 1) with rfl | rfl <;> simp at he
      · by_cases h9 : p = 9
        · subst h9
          simp at hi
          exact ⟨rfl, hi⟩
        · simp [h5, h9] at hi) (by omega) (putF b 9) (by simp [Q2])
    rwa [Q2_del9] at this
  have T1 : ∀ W b, Tab W → RK W w.heap.size (Q2 [1, 2] []) b 2 → Calls Tryd.prog 40 #[.pointer (some ⟨w.heap.size, 0, none⟩), .int .i64 1] W fun e w' => e = .returned (.bool true) ∧ (∃ b', RK w' w.heap.size (Q2 [2, 1] []) b' 2) ∧ W.grownBy w' (some w.heap.size) := fun W b hT h => by
    have := rturn_yes w.heap.size 5 0 (Q2 [1, 2] []) b 2 1 W hT h (by omega) (by simp [Q2]) (by simp [Q2]) (fun p hp i hi he => by
      unfold Q2 at hi he
      by_cases h5 : p = 5
      · subst h5
        simp at hi
        rcases (by omega : i = 0 ∨ i = 1) with rfl | rfl
        · exact ⟨rfl, rfl⟩
        · simp at he
      · by_cases h9 : p = 9 <;> simp [h5, h9] at hi) (by omega) (by omega) (by omega) hTB
    rwa [Q2_del5, Q2_add5] at this
  have F2 : ∀ W b, RK W w.heap.size (Q2 [2, 1] []) b 2 → Calls Tryd.prog 42 #[.pointer (some ⟨w.heap.size, 0, none⟩)] W fun e w' => e = .returned (.tuple #[.int .i64 2, .bool true]) ∧ Below W.heap.size W w' := fun W b h =>
    rfirst_yes w.heap.size 5 (Q2 [2, 1] []) b 2 W h (by omega) (by omega) (h.hiI_eq (by omega) (by simp [Q2]) (fun p h1 _ => by unfold Q2; rw [if_neg (by omega)]; split <;> rfl)) (by simp [Q2])
  have L1 : ∀ W b, RK W w.heap.size (Q2 [2, 1] []) b 2 → Calls Tryd.prog 48 #[.pointer (some ⟨w.heap.size, 0, none⟩)] W fun e w' => e = .returned (.int .i64 2) ∧ w' = W := fun W b h => rlen_any w.heap.size (Q2 [2, 1] []) b 2 W h
  have up : ∀ {W W' : World}, Below w.heap.size w W → W.grownBy W' (some w.heap.size) → Below w.heap.size w W' := fun hb hg => hb.grown hg hb.size (fun k hk => by injection hk with hk; omega)
  go_enter Tryd.func35, Tryd.ntmps35
  go_wp2_with (first
    | (go_at_call 36; with_reducible refine (A1 _ _ (hT.below bb0) st0).mono ?_; rintro e w1 ⟨rfl, st1, hg1⟩; have bb1 := up bb0 hg1)
    | (go_at_call 36; with_reducible refine (A2 _ _ (hT.below bb1) st1).mono ?_; rintro e w2 ⟨rfl, st2, hg2⟩; have bb2 := up bb1 hg2)
    | (go_at_call 36; with_reducible refine (A3 _ _ (hT.below bb2) st2).mono ?_; rintro e w3 ⟨rfl, st3, hg3⟩; have bb3 := up bb2 hg3)
    | (go_at_call 42; with_reducible refine (F1 _ _ st3).mono ?_; rintro e w4 ⟨rfl, hl4⟩; have st4 := st3.up hl4; have bb4 := below_trans bb3 hl4)
    | (go_at_call 38; with_reducible refine (R1 _ _ (hT.below bb4) st4).mono ?_; rintro e w5 ⟨rfl, st5, hg5⟩; have bb5 := up bb4 hg5)
    | (go_at_call 40; with_reducible refine (T1 _ _ (hT.below bb5) st5).mono ?_; rintro e w6 ⟨rfl, ⟨b6, st6⟩, hg6⟩; have bb6 := up bb5 hg6)
    | (go_at_call 42; with_reducible refine (F2 _ _ st6).mono ?_; rintro e w7 ⟨rfl, hl7⟩; have st7 := st6.up hl7; have bb7 := below_trans bb6 hl7)
    | (go_at_call 48; with_reducible refine (L1 _ _ st7).mono ?_; rintro e w8 ⟨rfl, rfl⟩))
  go_ret
  exact ⟨rfl, by assumption⟩
end Go.Proofs.YtbbnackahgcegaaDoor
