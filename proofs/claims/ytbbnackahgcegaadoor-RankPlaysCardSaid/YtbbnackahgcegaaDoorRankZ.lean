/- The rows that Adds of 0, 1, .. with any priorities make; their list. No program in sight. -/
import Derived.Test.YtbbnackahgcegaaDoorRankList
namespace Go.Proofs.YtbbnackahgcegaaDoor
open Go.RowKit
set_option linter.all false

/-- those below k of priority p, as they came -/
def rowZ (zs : List Int) (k : Nat) : Nat → List Int := fun p => ((List.range k).filter (fun j => decide (zs.getD j 0 = (p : Int) ∧ p < 32))).map (fun j : Nat => (j : Int))
theorem rowZ_zero (zs : List Int) : rowZ zs 0 = fun _ => [] := by funext p; simp [rowZ]
theorem rowZ_in {zs : List Int} {k P : Nat} (h : zs.getD k 0 = (P : Int)) (hP : P < 32) : rowZ zs (k + 1) = addQ (rowZ zs k) P k := by
  funext p
  unfold rowZ addQ
  rw [List.range_succ, List.filter_append, List.map_append]
  by_cases e : p = P
  · subst e
    rw [if_pos rfl]
    simp only [List.filter_cons, h, hP, and_self, decide_true, if_true, List.filter_nil, List.map_cons, List.map_nil]
  · rw [if_neg e]
    have : decide (zs.getD k 0 = (p : Int) ∧ p < 32) = false := decide_eq_false (by rw [h]; omega)
    simp only [List.filter_cons, this, List.filter_nil]
    simp
theorem rowZ_out {zs : List Int} {k : Nat} (h : ¬ (0 ≤ zs.getD k 0 ∧ zs.getD k 0 < 32)) : rowZ zs (k + 1) = rowZ zs k := by
  funext p
  unfold rowZ
  rw [List.range_succ, List.filter_append, List.map_append]
  have : decide (zs.getD k 0 = (p : Int) ∧ p < 32) = false := decide_eq_false (by omega)
  simp only [List.filter_cons, this, List.filter_nil]
  simp
theorem rowZ_mem {zs : List Int} {k p : Nat} {x : Int} (h : x ∈ rowZ zs k p) : ∃ j : Nat, j < k ∧ x = j ∧ zs.getD j 0 = p ∧ p < 32 := by
  unfold rowZ at h
  obtain ⟨j, hj, rfl⟩ := List.mem_map.1 h
  obtain ⟨h1, h2⟩ := List.mem_filter.1 hj
  have h3 := of_decide_eq_true h2
  exact ⟨j, List.mem_range.1 h1, rfl, h3.1, h3.2⟩
theorem rowZ_len (zs : List Int) (k p : Nat) : (rowZ zs k p).length ≤ k := by
  unfold rowZ
  rw [List.length_map]
  have := List.length_filter_le (fun j => decide (zs.getD j 0 = (p : Int) ∧ p < 32)) (List.range k)
  rwa [List.length_range] at this
theorem rowZ_no (zs : List Int) (k : Nat) : ∀ p, p < 32 → ∀ i, i < (rowZ zs k p).length → (rowZ zs k p).getD i 0 ≠ (k : Int) := by
  intro p _ i hi he
  have hm : (k : Int) ∈ rowZ zs k p := by rw [← he]; simp [hi]
  obtain ⟨j, hj, e, _⟩ := rowZ_mem hm
  omega
theorem rowZ_up (zs : List Int) (k p : Nat) : (rowZ zs k p).Pairwise (· < ·) := by
  unfold rowZ
  rw [List.pairwise_map]
  exact ((List.pairwise_lt_range (n := k)).filter _).imp (fun h => by omega)

/-- one stands before another -/
def Ahead (zs : List Int) (x y : Int) : Prop := zs.getD y.toNat 0 < zs.getD x.toNat 0 ∨ (zs.getD y.toNat 0 = zs.getD x.toNat 0 ∧ x < y)
theorem catZ_mem {zs : List Int} {k : Nat} {x : Int} : ∀ {c : Nat}, x ∈ catQ (rowZ zs k) c → ∃ j : Nat, j < k ∧ x = j ∧ 0 ≤ zs.getD j 0 ∧ zs.getD j 0 < c ∧ zs.getD j 0 < 32
  | 0, h => by cases h
  | c + 1, h => by
    rw [catQ, List.mem_append] at h
    rcases h with h | h
    · obtain ⟨j, h1, h2, h3, h4⟩ := rowZ_mem h
      exact ⟨j, h1, h2, by omega, by omega, by omega⟩
    · obtain ⟨j, h1, h2, h3, h4, h5⟩ := catZ_mem h
      exact ⟨j, h1, h2, h3, by omega, h5⟩
theorem catZ_up (zs : List Int) (k : Nat) : ∀ c, (catQ (rowZ zs k) c).Pairwise (Ahead zs)
  | 0 => List.Pairwise.nil
  | c + 1 => by
    rw [catQ, List.pairwise_append]
    refine ⟨(rowZ_up zs k c).imp_of_mem (fun ha hb h => ?_), catZ_up zs k c, fun a ha b hb => ?_⟩
    · obtain ⟨j, _, rfl, h3, _⟩ := rowZ_mem ha
      obtain ⟨i, _, rfl, h4, _⟩ := rowZ_mem hb
      exact .inr ⟨by simp only [Int.toNat_natCast]; omega, h⟩
    · obtain ⟨j, _, rfl, h3, _⟩ := rowZ_mem ha
      obtain ⟨i, _, rfl, _, h4, _⟩ := catZ_mem hb
      exact .inl (by simp only [Int.toNat_natCast]; omega)
theorem mem_catQ {q : Nat → List Int} {x : Int} : ∀ {c : Nat}, (x ∈ catQ q c) ↔ (∃ p, p < c ∧ x ∈ q p)
  | 0 => ⟨fun h => (by cases h), fun h => (by obtain ⟨p, h, _⟩ := h; omega)⟩
  | c + 1 => by
    rw [catQ, List.mem_append, mem_catQ (c := c)]
    constructor
    · rintro (h | ⟨p, h1, h2⟩)
      · exact ⟨c, by omega, h⟩
      · exact ⟨p, by omega, h2⟩
    · rintro ⟨p, h1, h2⟩
      by_cases e : p = c
      · subst e; exact .inl h2
      · exact .inr ⟨p, by omega, h2⟩
theorem catQ_add {q : Nat → List Int} {P : Nat} {t : Int} : ∀ {c : Nat}, (catQ (addQ q P t) c).length = (catQ q c).length + (if P < c then 1 else 0)
  | 0 => by simp [catQ]
  | c + 1 => by
    rw [catQ, catQ, List.length_append, List.length_append, catQ_add]
    unfold addQ
    by_cases e : c = P
    · subst e; simp; omega
    · rw [if_neg e]
      by_cases h : P < c
      · rw [if_pos h, if_pos (by omega)]; omega
      · rw [if_neg h, if_neg (by omega)]; omega

/-- who is told stands in its row, once -/
theorem catZ_row {zs : List Int} {k : Nat} {x : Int} (h : x ∈ catQ (rowZ zs k) 32) : ∃ P J : Nat, P < 32 ∧ J < (rowZ zs k P).length ∧ (rowZ zs k P).getD J 0 = x ∧ (P : Int) = zs.getD x.toNat 0 ∧ (∀ p, p < 32 → ∀ i, i < (rowZ zs k p).length → (rowZ zs k p).getD i 0 = x → p = P ∧ i = J) := by
  obtain ⟨P, hP, hm⟩ := mem_catQ.1 h
  obtain ⟨J, hJ, e⟩ := List.getElem_of_mem hm
  obtain ⟨j, _, hx, hz, _⟩ := rowZ_mem hm
  have e1 : (rowZ zs k P).getD J 0 = x := by simp [hJ, e]
  refine ⟨P, J, hP, hJ, e1, by rw [hx, Int.toNat_natCast, hz], fun p hp i hi he => ?_⟩
  have hm2 : x ∈ rowZ zs k p := by rw [← he]; simp [hi]
  obtain ⟨j2, _, hx2, hz2, _⟩ := rowZ_mem hm2
  have hjj : j2 = j := by omega
  rw [hjj, hz] at hz2
  have hpp : p = P := by omega
  subst hpp
  refine ⟨rfl, ?_⟩
  have hup := List.pairwise_iff_getElem.1 (rowZ_up zs k p)
  have he' : (rowZ zs k p)[i] = x := by simpa [hi] using he
  rcases Nat.lt_trichotomy i J with h | h | h
  · have := hup i J hi hJ h
    rw [he', e] at this
    omega
  · exact h
  · have := hup J i hJ hi h
    rw [he', e] at this
    omega
/-- the first told is the first of the uppermost row -/
theorem catQ_top {q : Nat → List Int} : ∀ {c : Nat}, 0 < (catQ q c).length → ∃ P, P < c ∧ 0 < (q P).length ∧ (∀ p, P < p → p < c → q p = []) ∧ catQ q c = q P ++ catQ q P
  | 0, h => by simp [catQ] at h
  | c + 1, h => by
    by_cases e : q c = []
    · rw [catQ, e, List.nil_append] at h
      obtain ⟨P, h1, h2, h3, h4⟩ := catQ_top h
      refine ⟨P, by omega, h2, fun p p1 p2 => ?_, by rw [catQ, e, List.nil_append, h4]⟩
      by_cases x : p = c
      · rw [x, e]
      · exact h3 p p1 (by omega)
    · exact ⟨c, by omega, List.length_pos_iff.2 e, fun p p1 p2 => by omega, rfl⟩
end Go.Proofs.YtbbnackahgcegaaDoor
