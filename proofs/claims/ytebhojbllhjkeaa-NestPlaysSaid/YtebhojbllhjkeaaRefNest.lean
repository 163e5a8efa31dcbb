/- The contracts of the document's answer for nests (package bellroperef08): Top, Enter and Leave. -/
import Derived.Test.YtebhojbllhjkeaaNestB
import Derived.OwnWalk
import Derived.WalkSmall
import Derived.Laws.AppendOwnNone
import Derived.Laws.ResultCell
namespace Go.Proofs.Ytebhojbllhjkeaa
open Go.RowKit
set_option linter.unusedVariables false

/-- the slice value 'v' reads as the levels 's'; its cells lie in new memory from block 'base' on -/
abbrev Lv (w : World) (base : Nat) (v : Value) (s : List Int) : Prop := w.ownsRow base 3 1 v s.length (s.map (Value.int .i64))

theorem Lv.shape {w : World} {base : Nat} {v : Value} {s : List Int} (h : Lv w base v s) : ∃ a c, v = .slice a s.length c ∧ s.length ≤ c ∧ c ≤ maxLen ∧ (0 < s.length → ∃ g, a = some ⟨g, 0, none⟩ ∧ base ≤ g ∧ g < w.heap.size ∧ ∀ i, i < s.length → w.cell? ⟨g, i, none⟩ = some (.int .i64 (s.getD i 0))) := by
  rcases h.2 with ⟨rfl, hn⟩ | ⟨g, cap, cur, rfl, hb, hg, hn, hc, hs, ht⟩
  · exact ⟨none, 0, by rw [hn], by omega, by simp, fun hp => by omega⟩
  · refine ⟨_, cap, rfl, hn, hc, fun _ => ⟨g, rfl, hb, (h.lt g rfl).2, fun i hi => ?_⟩⟩
    have := h.cells (g := g) rfl i (.int .i64 (s.getD i 0)) (by simp [hi])
    rwa [Addr.add_mid, Nat.zero_add] at this

set_option maxHeartbeats 400000 in
theorem refTop_any (base : Nat) (v : Value) (s : List Int) (m : Int) (w : World) (h : Lv w base v s) :
    Calls Try.prog 26 #[.agg #[v, .int .i64 m]] w fun e w' => e = .returned (.int .i64 (topI s)) ∧ Below w.heap.size w w' := by
  obtain ⟨a, c, rfl, hc, hc2, hp⟩ := h.shape
  unfold maxLen at hc2
  by_cases h0 : s.length = 0
  · have ht : topI s = -1 := if_pos h0
    rw [h0] at hc ⊢
    rw [ht]
    go_enter Try.func26, Try.ntmps26
    go_wp2
    go_ret
    exact ⟨rfl, below_one _ _⟩
  · obtain ⟨g, rfl, hg1, hg2, hg3⟩ := hp (by omega)
    have hz : ((s.length : Int) == 0) = false := beq_eq_false_iff_ne.2 (by omega)
    have hl := hg3 (s.length - 1) (by omega)
    have hs0 : 0 < s.length := by omega
    have ht : topI s = s.getD (s.length - 1) 0 := if_neg h0
    rw [ht]
    go_enter Try.func26, Try.ntmps26
    go_wp2
    go_ret
    exact ⟨ret_int (by simp), below_one _ _⟩

theorem Lv.below {w w' : World} {base Z : Nat} {v : Value} {s : List Int} (h : Lv w base v s) (hb : Below w.heap.size w w') : Lv w' base v s :=
  h.kept (only_of_below hb none) (by cases v.ownBlock <;> simp)

set_option maxHeartbeats 800000 in
theorem refEnter_no (base : Nat) (k : Int) (v : Value) (s : List Int) (m : Int) (w : World) (h : Lv w base v s) (hk : mayB k s = false) :
    Calls Try.prog 22 #[.agg #[v, .int .i64 m], .int .i64 k] w fun e w' => e = .returned (.tuple #[.agg #[v, .int .i64 m], .bool false]) ∧ Below w.heap.size w w' := by
  have hk' := Lib.hid hk
  clear hk
  obtain ⟨a, c, rfl, hc, hc2, hp⟩ := h.shape
  clear hp
  by_cases k0 : k < 0
  · go_enter Try.func22, Try.ntmps22
    go_wp2
    exact bodyPost_ret (v := .tuple #[.agg #[.slice a s.length c, .int .i64 m], .bool false]) (by simp [results, Try.results22, go_sem]) rfl ⟨rfl, below_two _ _ _⟩
  · by_cases k1 : 31 < k
    · go_enter Try.func22, Try.ntmps22
      go_wp2
      exact bodyPost_ret (v := .tuple #[.agg #[.slice a s.length c, .int .i64 m], .bool false]) (by simp [results, Try.results22, go_sem]) rfl ⟨rfl, below_two _ _ _⟩
    · have k2 : k ≤ topI s := by
        have := of_decide_eq_false hk'.out
        omega
      go_enter Try.func22, Try.ntmps22
      go_wp2_with (go_at_call 26; refine (refTop_any base _ s m _ (h.below (Z := 0) (below_two _ _ _))).mono ?_; rintro e w1 ⟨rfl, hb⟩; obtain ⟨hcl, hfr⟩ := bcell hb; have hz : w.heap.size + 1 < w1.heap.size := by have := hb.size; simp at this; omega)
      exact bodyPost_ret (v := .tuple #[.agg #[.slice a s.length c, .int .i64 m], .bool false]) (by simp [results, Try.results22, go_sem, hcl]) rfl ⟨rfl, ((below_trans (below_two _ _ _) hb).setCell (by simp) _).setCell (by simp) _⟩

theorem Lv.mk {w : World} {base n : Nat} {v : Value} {xs : List Value} {s : List Int} (h : w.ownsRow base 3 1 v n xs) (hn : n = s.length) (hx : xs = s.map (Value.int .i64)) : Lv w base v s := by
  subst hn hx
  exact h

theorem map_one (s : List Int) : ∀ u ∈ s.map (Value.int .i64), u.oneCell' = true := by
  intro u hu
  obtain ⟨x, _, rfl⟩ := List.mem_map.1 hu
  rfl

set_option maxRecDepth 100000 in
set_option maxHeartbeats 800000 in
theorem refEnter_some (base g c : Nat) (k : Int) (s : List Int) (m : Int) (w : World) (h : Lv w base (.slice (some ⟨g, 0, none⟩) s.length c) s) (hk : mayB k s = true) (hs : s.length ≤ 32) :
    Calls Try.prog 22 #[.agg #[.slice (some ⟨g, 0, none⟩) s.length c, .int .i64 m], .int .i64 k] w fun e w' => ∃ v', e = .returned (.tuple #[.agg #[v', .int .i64 (max m ((s.length : Int) + 1))], .bool true]) ∧ Lv w' w.heap.size v' (s ++ [k]) ∧ Below w.heap.size w w' := by
  obtain ⟨k0, k1, k2⟩ := of_decide_eq_true hk
  clear hk
  have e0 : decide (k < 0) = false := decide_eq_false (by omega)
  have e1 : decide (31 < k) = false := decide_eq_false (by omega)
  have e2 : decide (k ≤ topI s) = false := decide_eq_false (by omega)
  have hgl := (h.lt g rfl).2
  have hcs := Lib.hid (h.cells (g := g) rfl)
  obtain ⟨i0, hi, hz0, hz1, hz2'⟩ := info_parts infoInt
  go_enter Try.func22, Try.ntmps22
  go_wp2_with (first
    | (go_at_call 26; refine (refTop_any base _ s m _ (h.below (Z := 0) (below_two _ _ _))).mono ?_; rintro e w1 ⟨rfl, hb⟩; obtain ⟨hcl, hfr⟩ := bcell hb; obtain ⟨hz, hz2⟩ := size_two hb)
    | (at_builtin; apply stop))
  refine Stop.go ?_
  refine wpList_append_own _ rfl (.tmp 20) (.tmp 22) 29 rfl w1.heap.size 3 i0 (.int .i64 0) 1 8 Try.underlying29 hi hz0 hz1 hz2' rfl (by decide) (.slice (some ⟨w1.heap.size, 0, none⟩) 0 0) 0 [] rfl (World.ownsRow_made w1 #[] 0 (Nat.le_refl _) (by simp) rfl) ⟨g, 0, none⟩ s.length c (s.map (Value.int .i64)) rfl (by simp) ?_ (map_one s) (by unfold maxLen; omega) (by omega) (by simp) ?_
  · intro j u hj
    have hcj := hcs.out j u hj
    rw [Addr.add_mid] at hcj ⊢
    rw [World.cell?_alloc_past _ _ _ (by omega), hcl _ _ (by simp; omega), (below_two w _ _).cell (p := ⟨g, 0 + j, none⟩) hgl]
    exact hcj
  intro v2 w2 hown2 hgr2 _
  simp only [Nat.zero_add, List.nil_append] at hown2
  have hb2 := below_append hgr2
  go_wp2_with (at_builtin; apply stop)
  refine Stop.go ?_
  refine wpList_append_own _ rfl (.tmp 23) (.tmp 25) 29 rfl w1.heap.size 3 i0 (.int .i64 0) 1 8 Try.underlying29 hi hz0 hz1 hz2' rfl (by decide) v2 s.length (s.map (Value.int .i64)) rfl (hown2.alloc _) ⟨w2.heap.size, 0, none⟩ 1 1 [.int .i64 k] rfl (by simp) (cell_one_new _ _ _) (by simp [Value.oneCell']) (by unfold maxLen; omega) (by omega) (by have := hb2.size; simp; omega) ?_
  intro v3 w3 hown3 hgr3 _
  have hb3 := below_append' hb2 hb2.size hown2 hgr3
  obtain ⟨g3, c3, hv3, _, hc3, _⟩ := owns_some hown3 (by omega)
  subst hv3
  obtain ⟨hcl3, hfr3⟩ := bcell hb3
  have hz3 : w.heap.size < w3.heap.size := Nat.lt_of_lt_of_le hz hb3.size
  have hz4 : w.heap.size + 1 < w3.heap.size := Nat.lt_of_lt_of_le hz2 hb3.size
  clear hgr2 hgr3 hcs hi
  have hc3' : c3 ≤ 9223372036854775807 := by unfold maxLen at hc3; omega
  have hown4 : Lv ((w3.setCell ⟨w.heap.size + 1, 0, none⟩ (.slice (some ⟨g3, 0, none⟩) (s.length + 1) c3)).setCell ⟨w.heap.size + 1, 1, none⟩ (.int .i64 (max m ((s.length : Int) + 1)))) w.heap.size (.slice (some ⟨g3, 0, none⟩) (s.length + 1) c3) (s ++ [k]) :=
    Lv.mk (owns_base (ownsRow_setCell_below (ownsRow_setCell_below hown3 (by exact hz2) _) (by exact hz2) _) (Nat.le_of_lt hz)) (by simp) (by simp)
  have hbf : Below w.heap.size w ((w3.setCell ⟨w.heap.size + 1, 0, none⟩ (.slice (some ⟨g3, 0, none⟩) (s.length + 1) c3)).setCell ⟨w.heap.size + 1, 1, none⟩ (.int .i64 (max m ((s.length : Int) + 1)))) :=
    (((below_trans (below_two _ _ _) hb).trans (hb3.mono (Nat.le_of_lt hz))).setCell (by simp) _).setCell (by simp) _
  by_cases hmx : m < (s.length : Int) + 1
  · have e3 : max m ((s.length : Int) + 1) = (s.length : Int) + 1 := by omega
    rw [e3] at hown4 hbf
    have H3 := Lib.hid e3
    have H4 := Lib.hid hown4
    have H5 := Lib.hid hbf
    clear hown4 hbf e3 hown3
    go_wp2
    exact bodyPost_ret (v := .tuple #[.agg #[.slice (some ⟨g3, 0, none⟩) (s.length + 1) c3, .int .i64 ((s.length : Int) + 1)], .bool true]) (by simp [results, Try.results22, go_sem, hcl3, hcl, hz2]) rfl ⟨_, by rw [H3.out], H4.out, H5.out⟩
  · have e3 : max m ((s.length : Int) + 1) = m := by omega
    rw [e3] at hown4 hbf
    have H3 := Lib.hid e3
    have H4 := Lib.hid hown4
    have H5 := Lib.hid hbf
    clear hown4 hbf e3 hown3
    go_wp2
    exact bodyPost_ret (v := .tuple #[.agg #[.slice (some ⟨g3, 0, none⟩) (s.length + 1) c3, .int .i64 m], .bool true]) (by simp [results, Try.results22, go_sem, hcl3, hcl, hz2]) rfl ⟨_, by rw [H3.out], H4.out, H5.out⟩

set_option maxRecDepth 100000 in
set_option maxHeartbeats 800000 in
theorem refEnter_nil (base : Nat) (k : Int) (m : Int) (w : World) (hk : mayB k [] = true) :
    Calls Try.prog 22 #[.agg #[.slice none 0 0, .int .i64 m], .int .i64 k] w fun e w' => ∃ v', e = .returned (.tuple #[.agg #[v', .int .i64 (max m 1)], .bool true]) ∧ Lv w' w.heap.size v' [k] ∧ Below w.heap.size w w' := by
  obtain ⟨k0, k1, k2⟩ := of_decide_eq_true hk
  clear hk
  have e0 : decide (k < 0) = false := decide_eq_false (by omega)
  have e1 : decide (31 < k) = false := decide_eq_false (by omega)
  have e2 : decide (k ≤ topI []) = false := decide_eq_false (by omega)
  obtain ⟨i0, hi, hz0, hz1, hz2'⟩ := info_parts infoInt
  go_enter Try.func22, Try.ntmps22
  go_wp2_with (first
    | (go_at_call 26; refine (refTop_any base _ [] m _ (World.ownsRow_nil _ _ _ _)).mono ?_; rintro e w1 ⟨rfl, hb⟩; obtain ⟨hcl, hfr⟩ := bcell hb; obtain ⟨hz, hz2⟩ := size_two hb)
    | (at_builtin; apply stop))
  refine Stop.go ?_
  have hown0 : (w1.alloc (.cells #[] 3)).ownsRow w1.heap.size 3 1 (.slice (some ⟨w1.heap.size, 0, none⟩) 0 0) 0 [] := World.ownsRow_made w1 #[] 0 (Nat.le_refl _) (by simp) rfl
  refine wpList_append_own_none rfl (.tmp 20) (.tmp 22) 29 rfl w1.heap.size 3 i0 1 Try.underlying29 hi (.slice (some ⟨w1.heap.size, 0, none⟩) 0 0) 0 [] rfl hown0 rfl ?_
  go_wp2_with (at_builtin; apply stop)
  refine Stop.go ?_
  refine wpList_append_own _ rfl (.tmp 23) (.tmp 25) 29 rfl w1.heap.size 3 i0 (.int .i64 0) 1 8 Try.underlying29 hi hz0 hz1 hz2' rfl (by decide) (.slice (some ⟨w1.heap.size, 0, none⟩) 0 0) 0 [] rfl (hown0.alloc _) ⟨w1.heap.size + 1, 0, none⟩ 1 1 [.int .i64 k] rfl (by simp) (by simpa using cell_one_new (w1.alloc (.cells #[] 3)) (.int .i64 k) 3) (by simp [Value.oneCell']) (by simp [maxLen]) (by omega) (by simp; omega) ?_
  intro v3 w3 hown3 hgr3 _
  simp only [Nat.zero_add, List.nil_append] at hown3
  have hb3 : Below w1.heap.size w1 w3 := below_append' (below_one w1 _) (by simp) hown0 hgr3
  obtain ⟨g3, c3, hv3, _, hc3, _⟩ := owns_some hown3 (by omega)
  subst hv3
  obtain ⟨hcl3, hfr3⟩ := bcell hb3
  have hz3 : w.heap.size < w3.heap.size := Nat.lt_of_lt_of_le hz hb3.size
  have hz4 : w.heap.size + 1 < w3.heap.size := Nat.lt_of_lt_of_le hz2 hb3.size
  clear hgr3 hi
  have hc3' : c3 ≤ 9223372036854775807 := by unfold maxLen at hc3; omega
  have hown4 : Lv ((w3.setCell ⟨w.heap.size + 1, 0, none⟩ (.slice (some ⟨g3, 0, none⟩) 1 c3)).setCell ⟨w.heap.size + 1, 1, none⟩ (.int .i64 (max m 1))) w.heap.size (.slice (some ⟨g3, 0, none⟩) 1 c3) [k] :=
    Lv.mk (owns_base (ownsRow_setCell_below (ownsRow_setCell_below hown3 (by exact hz2) _) (by exact hz2) _) (Nat.le_of_lt hz)) (by simp) (by simp)
  have hbf : Below w.heap.size w ((w3.setCell ⟨w.heap.size + 1, 0, none⟩ (.slice (some ⟨g3, 0, none⟩) 1 c3)).setCell ⟨w.heap.size + 1, 1, none⟩ (.int .i64 (max m 1))) :=
    (((below_trans (below_two _ _ _) hb).trans (hb3.mono (Nat.le_of_lt hz))).setCell (by simp) _).setCell (by simp) _
  by_cases hmx : m < 1
  · have e3 : max m 1 = 1 := by omega
    rw [e3] at hown4 hbf
    have H3 := Lib.hid e3
    have H4 := Lib.hid hown4
    have H5 := Lib.hid hbf
    clear hown4 hbf e3 hown3
    go_wp2
    exact bodyPost_ret (v := .tuple #[.agg #[.slice (some ⟨g3, 0, none⟩) 1 c3, .int .i64 1], .bool true]) (by simp [results, Try.results22, go_sem, hcl3, hcl, hz2]) rfl ⟨_, by rw [H3.out], H4.out, H5.out⟩
  · have e3 : max m 1 = m := by omega
    rw [e3] at hown4 hbf
    have H3 := Lib.hid e3
    have H4 := Lib.hid hown4
    have H5 := Lib.hid hbf
    clear hown4 hbf e3 hown3
    go_wp2
    exact bodyPost_ret (v := .tuple #[.agg #[.slice (some ⟨g3, 0, none⟩) 1 c3, .int .i64 m], .bool true]) (by simp [results, Try.results22, go_sem, hcl3, hcl, hz2]) rfl ⟨_, by rw [H3.out], H4.out, H5.out⟩

end Go.Proofs.Ytebhojbllhjkeaa
