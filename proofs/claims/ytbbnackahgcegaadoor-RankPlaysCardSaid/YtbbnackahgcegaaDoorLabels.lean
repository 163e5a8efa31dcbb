/- A scope with two labels, the one behind the other: what holds whenever the run stands at either, and a measure that every pass lowers. No program in sight. -/
import Derived.Test.YtbbnackahgcegaaDoorKit
import Derived.ScopeJumps
namespace Go.Proofs.YtbbnackahgcegaaDoor

/-- by a goto to l: J of l; else as Q -/
def Exit.jumps (J : Nat → Act → World → Prop) (Q : Exit → Act → World → Prop) : Exit → Act → World → Prop
  | .goto l, a, w => J l a w
  | e, a, w => Q e a w

section
variable {P : Program} {a : Act} {w : World} {Q : Exit → Act → World → Prop}

theorem wp_scope_many {c : Code} (J : Nat → Act → World → Prop) (m : Nat → Act → World → Nat) (rest : Nat → Code) (hf : ∀ l a w, J l a w → findLabel c l = some (rest l))
    (first : c.wp P (Exit.jumps J Q) a w)
    (pass : ∀ l a w, J l a w → (rest l).wp P (Exit.jumps (fun l' a' w' => J l' a' w' ∧ m l' a' w' < m l a w) Q) a w) : (Code.scope c).wp P Q a w := by
  intro b k cs
  have back : ∀ l a w, J l a w → gotoIn l (.inScope c :: k) = some (.code (rest l) :: .inScope c :: k) := fun l a w h => by simp [gotoIn, hf l a w h]
  have turn : ∀ n l a w, m l a w = n → J l a w → ∃ e a' w', Q e a' w' ∧ Arrives P (lone (b.at a (.code (rest l) :: .inScope c :: k)) cs w) b k cs e a' w' := by
    intro n
    induction n using Nat.strongRecOn with
    | _ n ih =>
      intro l a w hn hJ
      obtain ⟨e, a₁, w₁, hq, harr⟩ := pass l a w hJ b (.inScope c :: k) cs
      cases e with
      | normal => exact ⟨.normal, a₁, w₁, hq, Steps.trans harr (.one step_inScope)⟩
      | exit id => exact ⟨.exit id, a₁, w₁, hq, fun k' hk => harr k' (by simp [exitTo, hk])⟩
      | goto l' =>
        obtain ⟨hJ', hlt⟩ := hq
        obtain ⟨e₂, a₂, w₂, hq₂, harr₂⟩ := ih _ (by omega) l' a₁ w₁ rfl hJ'
        exact ⟨e₂, a₂, w₂, hq₂, .of_steps (harr _ (back _ _ _ hJ')) harr₂⟩
      | ret => exact ⟨_, a₁, w₁, hq, harr⟩
      | panic ch => exact ⟨_, a₁, w₁, hq, harr⟩
      | outgrown => exact ⟨_, a₁, w₁, hq, harr⟩
  obtain ⟨e, a₁, w₁, hq, harr⟩ := first b (.inScope c :: k) cs
  cases e with
  | normal => exact ⟨.normal, a₁, w₁, hq, .head step_scope (Steps.trans harr (.one step_inScope))⟩
  | exit id => exact ⟨.exit id, a₁, w₁, hq, fun k' hk => .head step_scope (harr k' (by simp [exitTo, hk]))⟩
  | goto l' =>
    obtain ⟨e₂, a₂, w₂, hq₂, harr₂⟩ := turn _ l' a₁ w₁ rfl hq
    exact ⟨e₂, a₂, w₂, hq₂, .of_steps (.head step_scope (harr _ (back _ _ _ hq))) harr₂⟩
  | ret => exact ⟨_, a₁, w₁, hq, .of_steps (.one step_scope) harr⟩
  | panic ch => exact ⟨_, a₁, w₁, hq, .of_steps (.one step_scope) harr⟩
  | outgrown => exact ⟨_, a₁, w₁, hq, .of_steps (.one step_scope) harr⟩

/-- X; l0: Y; l1: R. -/
theorem wp_scope_two {X Y R : Code} (l0 l1 : Nat) (hne : l1 ≠ l0) (J0 J1 : Act → World → Prop) (m0 m1 : Act → World → Nat)
    (f0 : findLabel (X.seq ((Code.label l0).seq (Y.seq ((Code.label l1).seq R)))) l0 = some (Code.skip.seq (Y.seq ((Code.label l1).seq R))))
    (f1 : findLabel (X.seq ((Code.label l0).seq (Y.seq ((Code.label l1).seq R)))) l1 = some (Code.skip.seq R))
    (first : X.wp P (Exit.then J0 (Exit.jump l0 (fun _ _ => False) Q)) a w)
    (pass0 : ∀ a w, J0 a w → Y.wp P (Exit.then (fun a' w' => J1 a' w' ∧ m1 a' w' < m0 a w) (Exit.jump l0 (fun a' w' => J0 a' w' ∧ m0 a' w' < m0 a w) Q)) a w)
    (pass1 : ∀ a w, J1 a w → R.wp P (Exit.jump l1 (fun a' w' => J1 a' w' ∧ m1 a' w' < m1 a w) Q) a w) : (Code.scope (X.seq ((Code.label l0).seq (Y.seq ((Code.label l1).seq R))))).wp P Q a w := by
  have p0 : ∀ a w, J0 a w → (Y.seq ((Code.label l1).seq R)).wp P (Exit.jumps (fun l' a' w' => (l' = l0 ∧ J0 a' w' ∧ m0 a' w' < m0 a w) ∨ (l' = l1 ∧ J1 a' w' ∧ m1 a' w' < m0 a w)) Q) a w := by
    intro a w hJ
    refine wp_seq (wp_mono (pass0 a w hJ) ?_)
    intro e a1 w1 h
    cases e with
    | normal =>
      obtain ⟨hJ1, hlt⟩ := h
      refine wp_seq (wp_label (wp_mono (pass1 a1 w1 hJ1) ?_))
      intro e a2 w2 h2
      cases e with
      | goto l => exact .inr ⟨h2.1, h2.2.1, Nat.lt_trans h2.2.2 hlt⟩
      | _ => exact h2
    | goto l => exact .inl h
    | _ => exact h
  refine wp_scope_many (fun l a w => (l = l0 ∧ J0 a w) ∨ (l = l1 ∧ J1 a w)) (fun l a w => if l = l0 then m0 a w else m1 a w)
    (fun l => if l = l0 then Code.skip.seq (Y.seq ((Code.label l1).seq R)) else Code.skip.seq R) ?_ ?_ ?_
  · rintro l a w (⟨rfl, _⟩ | ⟨rfl, _⟩)
    · rw [if_pos rfl]; exact f0
    · rw [if_neg hne]; exact f1
  · refine wp_seq (wp_mono first ?_)
    intro e a1 w1 h
    cases e with
    | normal =>
      refine wp_seq (wp_label (wp_mono (p0 a1 w1 h) ?_))
      intro e a2 w2 h2
      cases e with
      | goto l => exact h2.imp (fun h => ⟨h.1, h.2.1⟩) (fun h => ⟨h.1, h.2.1⟩)
      | _ => exact h2
    | goto l => exact h.2.elim
    | _ => exact h
  · rintro l a w (⟨rfl, hJ⟩ | ⟨rfl, hJ⟩)
    · rw [if_pos rfl]
      refine wp_seq (wp_skip (wp_mono (p0 a w hJ) ?_))
      intro e a2 w2 h2
      cases e with
      | goto l' =>
        rcases h2 with ⟨rfl, h, k⟩ | ⟨rfl, h, k⟩
        · exact ⟨.inl ⟨rfl, h⟩, by simpa using k⟩
        · exact ⟨.inr ⟨rfl, h⟩, by simpa [hne] using k⟩
      | _ => exact h2
    · rw [if_neg hne]
      refine wp_seq (wp_skip (wp_mono (pass1 a w hJ) ?_))
      intro e a2 w2 h2
      cases e with
      | goto l' =>
        obtain ⟨rfl, h, k⟩ := h2
        exact ⟨.inr ⟨rfl, h⟩, by simpa [hne] using k⟩
      | _ => exact h2

/-- X; l: R. -/
theorem wp_scope_one {X R : Code} (l : Nat) (J : Act → World → Prop) (m : Act → World → Nat)
    (f : findLabel (X.seq ((Code.label l).seq R)) l = some (Code.skip.seq R))
    (first : X.wp P (Exit.then J (Exit.jump l (fun _ _ => False) Q)) a w)
    (pass : ∀ a w, J a w → R.wp P (Exit.jump l (fun a' w' => J a' w' ∧ m a' w' < m a w) Q) a w) : (Code.scope (X.seq ((Code.label l).seq R))).wp P Q a w := by
  refine wp_scope_jumps l J m f (wp_seq (wp_mono first ?_)) (fun a w h => wp_seq (wp_skip (pass a w h)))
  intro e a1 w1 h
  cases e with
  | normal =>
    refine wp_seq (wp_label (wp_mono (pass a1 w1 h) ?_))
    intro e a2 w2 h2
    cases e with
    | goto l' => exact ⟨h2.1, h2.2.1⟩
    | _ => exact h2
  | goto l' => exact h.2.elim
  | _ => exact h

/-- X; Y; l: R. -/
theorem wp_scope_one' {X Y R : Code} (l : Nat) (J : Act → World → Prop) (m : Act → World → Nat)
    (f : findLabel (X.seq (Y.seq ((Code.label l).seq R))) l = some (Code.skip.seq R))
    (first : X.wp P (Exit.then (fun a w => Y.wp P (Exit.then J (Exit.jump l (fun _ _ => False) Q)) a w) (Exit.jump l (fun _ _ => False) Q)) a w)
    (pass : ∀ a w, J a w → R.wp P (Exit.jump l (fun a' w' => J a' w' ∧ m a' w' < m a w) Q) a w) : (Code.scope (X.seq (Y.seq ((Code.label l).seq R)))).wp P Q a w := by
  refine wp_scope_jumps l J m f (wp_seq (wp_mono first ?_)) (fun a w h => wp_seq (wp_skip (pass a w h)))
  intro e a1 w1 h
  cases e with
  | normal =>
    refine wp_seq (wp_mono h ?_)
    intro e a1 w1 h
    cases e with
    | normal =>
      refine wp_seq (wp_label (wp_mono (pass a1 w1 h) ?_))
      intro e a2 w2 h2
      cases e with
      | goto l' => exact ⟨h2.1, h2.2.1⟩
      | _ => exact h2
    | goto l' => exact h.2.elim
    | _ => exact h
  | goto l' => exact h.2.elim
  | _ => exact h
end
end Go.Proofs.YtbbnackahgcegaaDoor
