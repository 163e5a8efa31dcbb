/- Ready tasks as one list, in the order in which they came: its rows. No program in sight. -/
import Derived.Test.YtbbnackahgcegaaDoorRankT
namespace Go.Proofs.YtbbnackahgcegaaDoor
open Go.RowKit
set_option linter.all false

/-- the row of priority p -/
def rowL (L : List (Int × Int)) : Nat → List Int := fun p => (L.filter (fun x => decide (x.2 = (p : Int)))).map (·.1)
theorem rowL_nil : rowL [] = fun _ => [] := rfl
theorem rowL_append (A B : List (Int × Int)) (p : Nat) : rowL (A ++ B) p = rowL A p ++ rowL B p := by simp [rowL]
theorem rowL_one (t : Int) (P p : Nat) : rowL [(t, (P : Int))] p = if p = P then [t] else [] := by
  unfold rowL
  by_cases e : p = P
  · subst e; simp
  · rw [if_neg e]
    have : decide (((P : Nat) : Int) = (p : Int)) = false := decide_eq_false (by omega)
    simp [List.filter_cons, this]
theorem rowL_add (L : List (Int × Int)) (t : Int) (P : Nat) : rowL (L ++ [(t, (P : Int))]) = addQ (rowL L) P t := by
  funext p
  rw [rowL_append, rowL_one]
  unfold addQ
  by_cases e : p = P
  · subst e; rw [if_pos rfl, if_pos rfl]
  · rw [if_neg e, if_neg e, List.append_nil]
theorem rowL_mem {L : List (Int × Int)} {p : Nat} {t : Int} : t ∈ rowL L p ↔ (t, (p : Int)) ∈ L := by
  unfold rowL
  constructor
  · intro h
    obtain ⟨⟨a, c⟩, h1, rfl⟩ := List.mem_map.1 h
    obtain ⟨h2, h3⟩ := List.mem_filter.1 h1
    have h4 := of_decide_eq_true h3
    simp only at h4
    rw [← h4]
    exact h2
  · intro h
    exact List.mem_map.2 ⟨(t, (p : Int)), List.mem_filter.2 ⟨h, decide_eq_true rfl⟩, rfl⟩
/-- the tasks of a list are in bounds, and each is there once -/
structure Good (L : List (Int × Int)) : Prop where
  bd : ∀ x ∈ L, 0 ≤ x.1 ∧ x.1 < 16 ∧ 0 ≤ x.2 ∧ x.2 < 32
  one : (L.map (·.1)).Nodup
theorem Good.nil : Good [] := ⟨fun _ h => (by cases h), List.nodup_nil⟩
theorem rowL_no {L : List (Int × Int)} {t : Int} (h : t ∉ L.map (·.1)) : ∀ p, p < 32 → ∀ i, i < (rowL L p).length → (rowL L p).getD i 0 ≠ t := by
  intro p _ i hi he
  have hm : t ∈ rowL L p := by rw [← he]; simp [hi]
  exact h (List.mem_map.2 ⟨_, rowL_mem.1 hm, rfl⟩)
theorem Good.add {L : List (Int × Int)} {t : Int} {P : Nat} (h : Good L) (hn : t ∉ L.map (·.1)) (t0 : 0 ≤ t) (t1 : t < 16) (hP : P < 32) : Good (L ++ [(t, (P : Int))]) := by
  refine ⟨fun x hx => ?_, ?_⟩
  · rcases List.mem_append.1 hx with hx | hx
    · exact h.bd x hx
    · obtain rfl := List.mem_singleton.1 hx
      exact ⟨t0, t1, by simp only; omega, by simp only; omega⟩
  · rw [List.map_append, List.nodup_append]
    refine ⟨h.one, by simp, fun a ha c hc => ?_⟩
    simp at hc
    rintro rfl
    exact hn (hc ▸ ha)
/-- who goes out of the middle goes out of its row -/
theorem rowL_del (A B : List (Int × Int)) (t : Int) (P : Nat) : rowL (A ++ B) = delQ (rowL (A ++ (t, (P : Int)) :: B)) P (rowL A P).length := by
  funext p
  have e : rowL (A ++ (t, (P : Int)) :: B) p = rowL A p ++ ((if p = P then [t] else []) ++ rowL B p) := by
    rw [show A ++ (t, (P : Int)) :: B = A ++ ([(t, (P : Int))] ++ B) by simp, rowL_append, rowL_append, rowL_one]
  unfold delQ
  by_cases h : p = P
  · subst h
    rw [if_pos rfl, e, if_pos rfl, rowL_append, List.eraseIdx_append_of_length_le (Nat.le_refl _)]
    simp
  · rw [if_neg h, e, if_neg h, rowL_append, List.nil_append]
theorem Good.del {A B : List (Int × Int)} {x : Int × Int} (h : Good (A ++ x :: B)) : Good (A ++ B) := by
  refine ⟨fun y hy => h.bd y (by
    rcases List.mem_append.1 hy with hy | hy
    · exact List.mem_append.2 (.inl hy)
    · exact List.mem_append.2 (.inr (List.mem_cons_of_mem _ hy))), ?_⟩
  have := h.one
  rw [List.map_append, List.map_cons] at this
  rw [List.map_append]
  exact this.sublist (List.Sublist.append (List.Sublist.refl _) (List.sublist_cons_self _ _))
/-- where who is there stands in its row -/
theorem rowL_at {A B : List (Int × Int)} {t : Int} {P : Nat} (h : Good (A ++ (t, (P : Int)) :: B)) :
    (rowL A P).length < (rowL (A ++ (t, (P : Int)) :: B) P).length ∧ (rowL (A ++ (t, (P : Int)) :: B) P).getD (rowL A P).length 0 = t ∧
    (∀ p, p < 32 → ∀ i, i < (rowL (A ++ (t, (P : Int)) :: B) p).length → (rowL (A ++ (t, (P : Int)) :: B) p).getD i 0 = t → p = P ∧ i = (rowL A P).length) := by
  have hone := h.one
  rw [List.map_append, List.map_cons, List.nodup_append, List.nodup_cons] at hone
  obtain ⟨_, ⟨hB, _⟩, hA⟩ := hone
  have hA' : t ∉ A.map (·.1) := fun hm => hA t hm t (List.mem_cons_self ..) rfl
  have e : ∀ p, rowL (A ++ (t, (P : Int)) :: B) p = rowL A p ++ ((if p = P then [t] else []) ++ rowL B p) := fun p => by
    rw [show A ++ (t, (P : Int)) :: B = A ++ ([(t, (P : Int))] ++ B) by simp, rowL_append, rowL_append, rowL_one]
  refine ⟨?_, ?_, fun p hp i hi he => ?_⟩
  · rw [e, if_pos rfl]; simp
  · rw [e, if_pos rfl, List.getD_eq_getElem?_getD, List.getElem?_append_right (Nat.le_refl _)]
    simp
  · rw [e] at hi he
    have hm : i < (rowL A p).length → t ∈ rowL A p := fun hl => by
      rw [List.getD_eq_getElem?_getD, List.getElem?_append_left hl] at he
      rw [← he]
      simp [hl]
    have hi1 : ¬ i < (rowL A p).length := fun hl => hA' (List.mem_map.2 ⟨_, rowL_mem.1 (hm hl), rfl⟩)
    have hBn : ∀ q, t ∉ rowL B q := fun q hq => hB (List.mem_map.2 ⟨_, rowL_mem.1 hq, rfl⟩)
    rw [List.getD_eq_getElem?_getD, List.getElem?_append_right (by omega)] at he
    rw [List.length_append] at hi
    by_cases hpP : p = P
    · subst hpP
      refine ⟨rfl, ?_⟩
      rw [if_pos rfl] at he hi
      by_cases h0 : i = (rowL A p).length
      · exact h0
      · exfalso
        obtain ⟨j, hj⟩ : ∃ j, i - (rowL A p).length = j + 1 := ⟨i - (rowL A p).length - 1, by omega⟩
        rw [hj] at he
        simp at hi
        have hjl : j < (rowL B p).length := by omega
        have : t ∈ rowL B p := by
          rw [← he]
          simp [hjl]
        exact hBn p this
    · exfalso
      rw [if_neg hpP, List.nil_append] at he hi
      have hjl : i - (rowL A p).length < (rowL B p).length := by omega
      exact hBn p (by rw [← he]; simp [hjl])
end Go.Proofs.YtbbnackahgcegaaDoor
