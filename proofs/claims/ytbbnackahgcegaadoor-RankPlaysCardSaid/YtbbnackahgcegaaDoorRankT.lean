/- A turn of who is first, on lists. No program in sight. -/
import Derived.Test.YtbbnackahgcegaaDoorRankZ
namespace Go.Proofs.YtbbnackahgcegaaDoor
open Go.RowKit
set_option linter.all false

theorem catQ_congr {q q' : Nat → List Int} : ∀ {c : Nat}, (∀ p, p < c → q p = q' p) → catQ q c = catQ q' c
  | 0, _ => rfl
  | c + 1, h => by rw [catQ, catQ, h c (by omega), catQ_congr (fun p hp => h p (by omega))]
theorem turned_row {q : Nat → List Int} {P : Nat} {f : Int} {A : List Int} (hq : q P = f :: A) : addQ (delQ q P 0) P f P = A ++ [f] := by
  unfold addQ delQ
  simp [hq]
theorem turned_other {q : Nat → List Int} {P p : Nat} {f : Int} (h : p ≠ P) : addQ (delQ q P 0) P f p = q p := by
  unfold addQ delQ
  simp [h]
theorem turned_cat {q : Nat → List Int} {P : Nat} {f : Int} {A : List Int} (hq : q P = f :: A) (hP : P < 32) (hup : ∀ p, P < p → p < 32 → q p = []) : catQ (addQ (delQ q P 0) P f) 32 = (A ++ [f]) ++ catQ q P := by
  rw [catQ_skip (p := P + 1) (by omega) (fun j h1 h2 => by rw [turned_other (by omega)]; exact hup j (by omega) h2), catQ, turned_row hq, catQ_congr (q' := q) (fun p hp => turned_other (by omega))]
theorem now_lt {f : Int} {A T : List Int} {i : Nat} (h : i < A.length) : ((A ++ [f]) ++ T).getD i 0 = ((f :: A) ++ T).getD (i + 1) 0 := by
  rw [List.getD_eq_getElem?_getD, List.getD_eq_getElem?_getD, List.append_assoc, List.getElem?_append_left h, List.cons_append, List.getElem?_cons_succ, List.getElem?_append_left h]
theorem now_eq {f : Int} {A T : List Int} : ((A ++ [f]) ++ T).getD A.length 0 = f := by
  rw [List.getD_eq_getElem?_getD, List.append_assoc, List.getElem?_append_right (Nat.le_refl _)]
  simp
theorem now_gt {f : Int} {A T : List Int} {i : Nat} (h : A.length < i) : ((A ++ [f]) ++ T).getD i 0 = ((f :: A) ++ T).getD i 0 := by
  rw [List.getD_eq_getElem?_getD, List.getD_eq_getElem?_getD, List.getElem?_append_right (by simp; omega), List.getElem?_append_right (by simp; omega)]
  simp
theorem turned_one {q : Nat → List Int} {P : Nat} {f : Int} {A : List Int} (hq : q P = f :: A) (hone : ∀ p, p < 32 → ∀ i, i < (q p).length → (q p).getD i 0 = f → p = P ∧ i = 0) :
    ∀ p, p < 32 → ∀ i, i < (addQ (delQ q P 0) P f p).length → (addQ (delQ q P 0) P f p).getD i 0 = f → p = P ∧ i = A.length := by
  intro p hp i hi he
  by_cases e : p = P
  · subst e
    rw [turned_row hq] at hi he
    refine ⟨rfl, ?_⟩
    rcases Nat.lt_trichotomy i A.length with h | h | h
    · have h2 := hone p hp (i + 1) (by rw [hq]; simp; omega) (by
        rw [hq, List.getD_eq_getElem?_getD, List.getElem?_cons_succ]
        rwa [List.getD_eq_getElem?_getD, List.getElem?_append_left h] at he)
      omega
    · exact h
    · simp at hi
      omega
  · rw [turned_other e] at hi he
    exact absurd (hone p hp i hi he).1 e
/-- the first ones told are those of the uppermost row -/
theorem first_in {zs ls : List Int} {k P i : Nat} (hls : ls = rowZ zs k P ++ catQ (rowZ zs k) P) (hi : i < (rowZ zs k P).length) : zs.getD (ls.getD i 0).toNat 0 = (P : Int) := by
  have e : ls.getD i 0 = (rowZ zs k P).getD i 0 := by rw [hls, List.getD_eq_getElem?_getD, List.getD_eq_getElem?_getD, List.getElem?_append_left hi]
  have hm : (rowZ zs k P).getD i 0 ∈ rowZ zs k P := by simp [hi]
  obtain ⟨j, _, hx, hz, _⟩ := rowZ_mem hm
  rw [e, hx, Int.toNat_natCast, hz]
theorem first_out {zs ls : List Int} {k P i : Nat} (hls : ls = rowZ zs k P ++ catQ (rowZ zs k) P) (hi : (rowZ zs k P).length ≤ i) (hl : i < ls.length) : zs.getD (ls.getD i 0).toNat 0 ≠ (P : Int) := by
  have hl2 : i - (rowZ zs k P).length < (catQ (rowZ zs k) P).length := by
    rw [hls, List.length_append] at hl
    omega
  have e : ls.getD i 0 = (catQ (rowZ zs k) P).getD (i - (rowZ zs k P).length) 0 := by rw [hls, List.getD_eq_getElem?_getD, List.getD_eq_getElem?_getD, List.getElem?_append_right hi]
  have hm : (catQ (rowZ zs k) P).getD (i - (rowZ zs k P).length) 0 ∈ catQ (rowZ zs k) P := by simp [hl2]
  obtain ⟨j, _, hx, _, hz, _⟩ := catZ_mem hm
  rw [e, hx, Int.toNat_natCast]
  omega
theorem RK.only {w w' : World} {B C : Nat} {q : Nat → List Int} {b n : Int} (h : RK w C q b n) (hg : w.grownBy w' (some B)) (hne : C ≠ B) : RK w' C q b n := by
  have hc : ∀ i, w'.cell? ⟨C, i, none⟩ = w.cell? ⟨C, i, none⟩ := fun i => only_cell hg (p := ⟨C, i, none⟩) h.lt hne
  exact h.moved (fun i _ => hc i) (fun i hi => (only_frozen hg (p := ⟨C, i, none⟩) h.lt hne).trans (h.fr i hi))
end Go.Proofs.YtbbnackahgcegaaDoor
