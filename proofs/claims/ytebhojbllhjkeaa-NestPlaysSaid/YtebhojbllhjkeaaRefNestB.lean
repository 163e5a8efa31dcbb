/- The contract of the document's Leave. -/
import Derived.Test.YtebhojbllhjkeaaRefNest
import Derived.Deep.RegionHeld3
namespace Go.Proofs.Ytebhojbllhjkeaa
open Go.RowKit
set_option linter.unusedVariables false

theorem refEnter_yes (base : Nat) (k : Int) (v : Value) (s : List Int) (m : Int) (w : World) (h : Lv w base v s) (hk : mayB k s = true) (hs : s.length ≤ 32) :
    Calls Try.prog 22 #[.agg #[v, .int .i64 m], .int .i64 k] w fun e w' => ∃ v', e = .returned (.tuple #[.agg #[v', .int .i64 (max m ((s.length : Int) + 1))], .bool true]) ∧ Lv w' w.heap.size v' (s ++ [k]) ∧ Below w.heap.size w w' := by
  rcases h.2 with ⟨rfl, hn⟩ | ⟨g, cap, cur, rfl, _⟩
  · obtain rfl : s = [] := List.eq_nil_of_length_eq_zero hn
    exact (refEnter_nil base k m w hk).mono fun e w' ⟨v', he, hl, hb⟩ => ⟨v', by simpa using he, by simpa using hl, hb⟩
  · exact refEnter_some base g cap k s m w h hk hs

set_option maxHeartbeats 800000 in
theorem refLeave_none (base : Nat) (v : Value) (m : Int) (w : World) (h : Lv w base v []) :
    Calls Try.prog 24 #[.agg #[v, .int .i64 m]] w fun e w' => e = .returned (.tuple #[.agg #[v, .int .i64 m], .int .i64 0, .bool false]) ∧ Below w.heap.size w w' := by
  obtain ⟨a, c, rfl, hc, hc2, hp⟩ := h.shape
  clear hp
  rw [List.length_nil] at hc
  go_enter Try.func24, Try.ntmps24
  go_wp2
  exact bodyPost_ret (v := .tuple #[.agg #[.slice a 0 c, .int .i64 m], .int .i64 0, .bool false]) (by simp [results, Try.results24, go_sem]) rfl ⟨rfl, below_two _ _ _⟩

theorem Lv.set {w : World} {base g n c : Nat} {s : List Int} (h : Lv w base (.slice (some ⟨g, 0, none⟩) n c) s) (p : Addr) (u : Value) (hne : g ≠ p.block) : Lv (w.setCell p u) base (.slice (some ⟨g, 0, none⟩) n c) s :=
  h.kept (only_setCell (only_refl _ _) (.inl rfl) u) (.inr (by simpa [Value.ownBlock] using hne))

theorem Lv.pop {w : World} {base g c : Nat} {s : List Int} {x : Int} (h : Lv w base (.slice (some ⟨g, 0, none⟩) (s.length + 1) c) (s ++ [x])) : Lv w base (.slice (some ⟨g, 0, none⟩) s.length c) s := by
  have h' : w.ownsRow base 3 1 (.slice (some ⟨g, 0, none⟩) (s.length + 1) c) (s.length + 1) (s.map (Value.int .i64) ++ [.int .i64 x]) := by
    have : Lv w base (.slice (some ⟨g, 0, none⟩) (s.length + 1) c) (s ++ [x]) := h
    unfold Lv at this
    simpa using this
  exact ownsRow_pop (by simp) h'

set_option maxHeartbeats 1000000 in
theorem refLeave_some (base : Nat) (v : Value) (s : List Int) (x m : Int) (w : World) (h : Lv w base v (s ++ [x])) :
    Calls Try.prog 24 #[.agg #[v, .int .i64 m]] w fun e w' => ∃ v', e = .returned (.tuple #[.agg #[v', .int .i64 m], .int .i64 x, .bool true]) ∧ Lv w' base v' s ∧ Below w.heap.size w w' := by
  obtain ⟨g, c, rfl, hc, hc2, hbg, hg⟩ := owns_some h (by simp)
  have hT := fun W hW => refTop_any base (.slice (some ⟨g, 0, none⟩) (s ++ [x]).length c) (s ++ [x]) m W hW
  have h' : Lv w base (.slice (some ⟨g, 0, none⟩) (s.length + 1) c) (s ++ [x]) := by rw [List.length_append, List.length_singleton] at h; exact h
  have et : topI (s ++ [x]) = x := by simp [topI]
  rw [et] at hT
  simp only [List.length_append, List.length_singleton] at hc hT ⊢
  unfold maxLen at hc2
  have hz : (((s.length + 1 : Nat) : Int) == 0) = false := beq_eq_false_iff_ne.2 (by omega)
  have h0 : (0 : Int) ≤ (s.length : Int) := by omega
  have h1 : (s.length : Int) ≤ (c : Int) := by omega
  have hlt : s.length + 1 ≤ 9223372036854775807 := by omega
  have hc0 : ¬ c = 0 := by omega
  have hw1 : IntKind.i64.wrap (s.length : Int) = (s.length : Int) := IntWalk.i64_in _ (by omega)
  go_enter Try.func24, Try.ntmps24
  go_wp2
  go_region_held3 (fun w' => w'.cell? ⟨w.heap.size, 0, none⟩ = some (.slice (some ⟨g, 0, none⟩) (s.length + 1) c) ∧ w'.cell? ⟨w.heap.size, 1, none⟩ = some (.int .i64 m)) (first | (go_keep; done) | exact ⟨by rw [hcl _ _ (by simp; omega)]; simp, by rw [hcl _ _ (by simp; omega)]; simp⟩) (first | (go_at_call 26; refine (hT _ (h'.below (Z := 0) (below_two _ _ _).drew)).mono ?_; rintro e w1 ⟨rfl, hb⟩; obtain ⟨hcl, hfr⟩ := bcell hb; obtain ⟨hz1, hz2⟩ := size_two_drew hb))
  all_goals
    have hl1 : Lv w1 base (.slice (some ⟨g, 0, none⟩) (s.length + 1) c) (s ++ [x]) := h'.below (Z := 0) (below_trans (below_two _ _ _).drew hb)
    have hl2 := ((hl1.pop).set ⟨w.heap.size + 1, 0, none⟩ (.slice (some ⟨g, 0, none⟩) s.length c) (by show g ≠ w.heap.size + 1; omega)).set ⟨w.heap.size + 1, 1, none⟩ (.int .i64 m) (by show g ≠ w.heap.size + 1; omega)
    have hb2 : Below w.heap.size w ((w1.setCell ⟨w.heap.size + 1, 0, none⟩ (.slice (some ⟨g, 0, none⟩) s.length c)).setCell ⟨w.heap.size + 1, 1, none⟩ (.int .i64 m)) :=
      ((below_trans (below_two _ _ _).drew hb).setCell (by simp) _).setCell (by simp) _
    have H2 := Lib.hid hl2
    have H3 := Lib.hid hb2
    clear hl2 hb2 hl1
    go_wp2
    exact bodyPost_ret (v := .tuple #[.agg #[.slice (some ⟨g, 0, none⟩) s.length c, .int .i64 m], .int .i64 x, .bool true]) (by simp [results, Try.results24, go_sem, hcl]) rfl ⟨_, rfl, H2.out, H3.out⟩

end Go.Proofs.Ytebhojbllhjkeaa
