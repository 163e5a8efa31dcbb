/- The document's rank: Add, Remove. -/
import Derived.Test.YtbbnackahgcegaaDoorRefRank
import Derived.Laws.AppendOwnNone
namespace Go.Proofs.YtbbnackahgcegaaDoor
open Go.RowKit
set_option linter.all false

/-- the slice value v is the list L, in a row of its own -/
abbrev OL (w : World) (base : Nat) (v : Value) (L : List (Int × Int)) : Prop := w.ownsRow base 99 2 v L.length (cellsL L)
theorem cellsL_one (L : List (Int × Int)) : ∀ u ∈ cellsL L, u.oneCell' = true := by
  intro u hu
  obtain ⟨x, _, hx⟩ := List.mem_flatMap.1 hu
  simp at hx
  rcases hx with rfl | rfl <;> rfl
theorem two_new (w : World) (x y : Value) (t : TypeId) : ∀ j u, [x, y][j]? = some u → (w.alloc (.cells #[x, y] t)).cell? ((⟨w.heap.size, 0, none⟩ : Addr).add j) = some u := by
  intro j u hj
  rw [Addr.add_mid, Nat.zero_add, World.cell?_alloc_at _ _ _ _ rfl]
  simpa using hj
theorem infoO : (Tryd.prog.info? 99).map (fun i => (i.zero, i.size, i.bytes)) = some (some (.agg #[.int .i64 0, .int .i64 0]), 2, 16) := by kernel_rfl
theorem OL.up {w w' : World} {base : Nat} {v : Value} {L : List (Int × Int)} (h : OL w base v L) (hb : Below w.heap.size w w') : OL w' base v L :=
  h.kept (only_of_below hb none) (by cases hv : v.ownBlock <;> simp)
theorem OL.shape {w : World} {base : Nat} {v : Value} {L : List (Int × Int)} (h : OL w base v L) (hl : L.length ≤ 1000000) : (v = .slice none 0 0 ∧ L = []) ∨ ∃ g c, v = .slice (some ⟨g, 0, none⟩) L.length c ∧ RdL w (some ⟨g, 0, none⟩) L ∧ g < w.heap.size := by
  rcases h.2 with ⟨hv, hn⟩ | ⟨g, cap, cur, rfl, hb, hg, hn, hc, hs, ht⟩
  · exact .inl ⟨hv, List.eq_nil_of_length_eq_zero hn⟩
  · refine .inr ⟨g, cap, rfl, ⟨hl, fun _ => ⟨g, rfl, fun k hk => ?_⟩⟩, (h.lt g rfl).2⟩
    have e := cellsL_at L k hk
    have h1 := h.cells (g := g) rfl (k * 2) _ e.1
    have h2 := h.cells (g := g) rfl (k * 2 + 1) _ e.2
    rw [Addr.add_mid, Nat.zero_add] at h1 h2
    exact ⟨h1, h2⟩

set_option maxRecDepth 100000 in
set_option maxHeartbeats 1000000 in
theorem fadd_yes (g c : Nat) (L : List (Int × Int)) (base : Nat) (task P : Int) (w : World) (h : OL w base (.slice (some ⟨g, 0, none⟩) L.length c) L) (hl : L.length ≤ 1000) (hno : task ∉ L.map (·.1)) (t0 : 0 ≤ task) (t1 : task < 16) (p0 : 0 ≤ P) (p1 : P < 32) :
    Calls Tryd.prog 37 #[.agg #[.slice (some ⟨g, 0, none⟩) L.length c], .int .i64 task, .int .i64 P] w fun e w' => ∃ v, e = .returned (.tuple #[.agg #[v], .bool true]) ∧ OL w' w.heap.size v (L ++ [(task, P)]) ∧ Below w.heap.size w w' := by
  obtain ⟨i0, hi, hz0, hz1, hz2⟩ := info_parts infoO
  have hpl := fun W h => place_any (some ⟨g, 0, none⟩) c L.length L task W h (Nat.le_refl _) (place_no hno) (fun h => absurd h (Nat.lt_irrefl _))
  have e : (if L.length < L.length then (L.length : Int) else -1) = -1 := if_neg (Nat.lt_irrefl _)
  rw [e] at hpl
  clear e
  have hRd : RdL w (some ⟨g, 0, none⟩) L := by
    rcases h.shape (by omega) with ⟨h1, _⟩ | ⟨g', c', h1, h2, _⟩
    · cases h1
    · injection h1 with e1 _ _
      rw [e1]
      exact h2
  have d1 : decide (task < 0) = false := decide_eq_false (by omega)
  have d2 : decide ((15 : Int) < task) = false := decide_eq_false (by omega)
  have d3 : decide (P < 0) = false := decide_eq_false (by omega)
  have d4 : decide ((31 : Int) < P) = false := decide_eq_false (by omega)
  go_enter Tryd.func37, Tryd.ntmps37
  have hcs : ∀ o : Obj, w.heap.size < ((w.alloc (.cells #[.slice (some ⟨g, 0, none⟩) L.length c] 70)).alloc o).heap.size ∧ ((w.alloc (.cells #[.slice (some ⟨g, 0, none⟩) L.length c] 70)).alloc o).cell? ⟨w.heap.size, 0, none⟩ = some (.slice (some ⟨g, 0, none⟩) L.length c) := fun o =>
    ⟨by simp; omega, ((below_one (w.alloc (.cells #[.slice (some ⟨g, 0, none⟩) L.length c] 70)) o).cell (p := ⟨w.heap.size, 0, none⟩) (by simp)).trans (World.cell?_alloc_at _ _ _ _ (by simp))⟩
  have hct : ∀ W : World, W.heap.size = w.heap.size + 1 → w.heap.size + 1 < (W.alloc (.cells #[.slice none 0 0] 70)).heap.size ∧ (W.alloc (.cells #[.slice none 0 0] 70)).cell? ⟨w.heap.size + 1, 0, none⟩ = some (.slice none 0 0) ∧ (W.alloc (.cells #[.slice none 0 0] 70)).frozen? ⟨w.heap.size + 1, 0, none⟩ = false := fun W hW => by
    rw [← hW]
    exact ⟨by simp, World.cell?_alloc_at _ _ _ _ (by simp), World.frozen?_alloc_at _ _ _ _ (by simp)⟩
  go_upto_region 3 with (go_at_call 76; with_reducible refine (hpl _ (hRd.up (below_two _ _ _))).mono ?_; rintro e w2 ⟨rfl, hb2⟩; have hds := (hb2.cell (p := ⟨w.heap.size, 0, none⟩) (hcs _).1).trans (hcs _).2; have hdt := (hb2.cell (p := ⟨w.heap.size + 1, 0, none⟩) (hct _ (by simp)).1).trans (hct _ (by simp)).2.1; have hdf := (hb2.frozen (p := ⟨w.heap.size + 1, 0, none⟩) (hct _ (by simp)).1).trans (hct _ (by simp)).2.2)
  have hs2 : w.heap.size < w2.heap.size ∧ w.heap.size + 1 < w2.heap.size := size_two hb2
  obtain ⟨s1, s2⟩ := hs2
  have hO2 := (h.up (below_two w _ _)).up hb2
  have hbel2 := below_trans (below_two w _ _) hb2
  have hsrc0 := fun o => (hO2.alloc o).cells (g := g) rfl
  clear hb2 hcs hct hpl hRd h
  go_upto_region 4 with (at_builtin; apply stop)
  refine Stop.go ?_
  refine wpList_append_own _ rfl (.tmp 29) (.tmp 31) 68 rfl w2.heap.size 99 i0 (.agg #[.int .i64 0, .int .i64 0]) 2 16 Tryd.underlying68 hi hz0 hz1 hz2 rfl (by decide) (.slice (some ⟨w2.heap.size, 0, none⟩) 0 0) 0 [] rfl (World.ownsRow_made w2 #[] 0 (Nat.le_refl _) (by unfold maxLen; omega) rfl) ⟨g, 0, none⟩ L.length c (cellsL L) rfl (cellsL_length L) (hsrc0 _) (cellsL_one L) (by unfold maxLen; omega) (by omega) (by simp) ?_
  intro v3 w3 hown3 hgr3 _
  have hO3 : w3.ownsRow w2.heap.size 99 2 v3 L.length (cellsL L) := by simpa using hown3
  have hb3 : Below w2.heap.size w2 w3 := below_append hgr3
  have hdt3 := (hb3.cell (p := ⟨w.heap.size + 1, 0, none⟩) s2).trans hdt
  have hdf3 := (hb3.frozen (p := ⟨w.heap.size + 1, 0, none⟩) s2).trans hdf
  clear hown3 hgr3 hds hsrc0 hO2
  have Hd := Lib.hid (And.intro hdt hdf)
  clear hdt hdf
  go_wp2_with (at_builtin; apply stop)
  refine Stop.go ?_
  refine wpList_append_own _ rfl (.tmp 32) (.tmp 36) 68 rfl w2.heap.size 99 i0 (.agg #[.int .i64 0, .int .i64 0]) 2 16 Tryd.underlying68 hi hz0 hz1 hz2 rfl (by decide) v3 L.length (cellsL L) rfl (hO3.alloc _) ⟨w3.heap.size, 0, none⟩ 1 1 [.int .i64 task, .int .i64 P] rfl (by simp) (two_new _ _ _ _) (by simp [Value.oneCell']) (by unfold maxLen; omega) (by omega) (by have := hb3.size; simp; omega) ?_
  intro v5 w5 hown5 hgr5 _
  have hb5 := below_append' hb3 hb3.size hO3 hgr5
  have hdt5 := (hb5.cell (p := ⟨w.heap.size + 1, 0, none⟩) s2).trans Hd.out.1
  have hdf5 := (hb5.frozen (p := ⟨w.heap.size + 1, 0, none⟩) s2).trans Hd.out.2
  clear hi hgr5 hdt3 hdf3
  have hO5 : OL w5 w.heap.size v5 (L ++ [(task, P)]) := by
    have := owns_base (b' := w.heap.size) hown5 (by omega)
    rw [OL, cellsL_append, List.length_append]
    exact this
  obtain ⟨g5, c5, rfl, _, _, hg5, hl5⟩ := owns_some hown5 (by omega)
  have hne : w.heap.size + 1 ≠ g5 := by omega
  have hbel5 : Below w.heap.size w w5 := below_trans hbel2 hb5
  have HO5 := Lib.hid hO5
  clear hO5 hown5 hb5 hb3 hO3 hbel2
  go_wp2
  exact bodyPost_ret (v := .tuple #[.agg #[.slice (some ⟨g5, 0, none⟩) (L.length + 1) c5], .bool true]) (by simp [results, Tryd.results37, go_sem, hdt5]) rfl
    ⟨_, rfl, HO5.out.kept (only_set (only_refl w5 (some (w.heap.size + 1))) _) (.inr (fun e => hne (by injection e with e; exact e.symm))), hbel5.setCell (p := ⟨w.heap.size + 1, 0, none⟩) (Nat.le_succ _) _⟩
set_option maxRecDepth 100000 in
set_option maxHeartbeats 1000000 in
theorem fadd_nil (task P : Int) (w : World) (t0 : 0 ≤ task) (t1 : task < 16) (p0 : 0 ≤ P) (p1 : P < 32) :
    Calls Tryd.prog 37 #[.agg #[.slice none 0 0], .int .i64 task, .int .i64 P] w fun e w' => ∃ v, e = .returned (.tuple #[.agg #[v], .bool true]) ∧ OL w' w.heap.size v [(task, P)] ∧ Below w.heap.size w w' := by
  obtain ⟨i0, hi, hz0, hz1, hz2⟩ := info_parts infoO
  have hpl : ∀ W, RdL W none [] → Calls Tryd.prog 76 #[.agg #[.slice none 0 0], .int .i64 task] W fun e w' => e = .returned (.int .i64 (-1)) ∧ Below W.heap.size W w' := fun W h => place_any none 0 0 [] task W h (Nat.le_refl _) (fun k hk => by omega) (fun h => absurd h (Nat.lt_irrefl _))
  have hRd : ∀ W, RdL W none [] := fun W => ⟨by simp, fun h => by simp at h⟩
  have d1 : decide (task < 0) = false := decide_eq_false (by omega)
  have d2 : decide ((15 : Int) < task) = false := decide_eq_false (by omega)
  have d3 : decide (P < 0) = false := decide_eq_false (by omega)
  have d4 : decide ((31 : Int) < P) = false := decide_eq_false (by omega)
  go_enter Tryd.func37, Tryd.ntmps37
  have hcs : ∀ o : Obj, w.heap.size < ((w.alloc (.cells #[.slice none 0 0] 70)).alloc o).heap.size ∧ ((w.alloc (.cells #[.slice none 0 0] 70)).alloc o).cell? ⟨w.heap.size, 0, none⟩ = some (.slice none 0 0) := fun o =>
    ⟨by simp; omega, ((below_one (w.alloc (.cells #[.slice none 0 0] 70)) o).cell (p := ⟨w.heap.size, 0, none⟩) (by simp)).trans (World.cell?_alloc_at _ _ _ _ (by simp))⟩
  have hct : ∀ W : World, W.heap.size = w.heap.size + 1 → w.heap.size + 1 < (W.alloc (.cells #[.slice none 0 0] 70)).heap.size ∧ (W.alloc (.cells #[.slice none 0 0] 70)).cell? ⟨w.heap.size + 1, 0, none⟩ = some (.slice none 0 0) ∧ (W.alloc (.cells #[.slice none 0 0] 70)).frozen? ⟨w.heap.size + 1, 0, none⟩ = false := fun W hW => by
    rw [← hW]
    exact ⟨by simp, World.cell?_alloc_at _ _ _ _ (by simp), World.frozen?_alloc_at _ _ _ _ (by simp)⟩
  go_upto_region 3 with (go_at_call 76; with_reducible refine (hpl _ (hRd _)).mono ?_; rintro e w2 ⟨rfl, hb2⟩; have hds := (hb2.cell (p := ⟨w.heap.size, 0, none⟩) (hcs _).1).trans (hcs _).2; have hdt := (hb2.cell (p := ⟨w.heap.size + 1, 0, none⟩) (hct _ (by simp)).1).trans (hct _ (by simp)).2.1; have hdf := (hb2.frozen (p := ⟨w.heap.size + 1, 0, none⟩) (hct _ (by simp)).1).trans (hct _ (by simp)).2.2)
  have hs2 : w.heap.size < w2.heap.size ∧ w.heap.size + 1 < w2.heap.size := size_two hb2
  obtain ⟨s1, s2⟩ := hs2
  have hbel2 := below_trans (below_two w _ _) hb2
  clear hb2 hcs hct hpl hRd
  go_upto_region 4 with (at_builtin; apply stop)
  refine Stop.go ?_
  have hO3 : (w2.alloc (.cells #[] 99)).ownsRow w2.heap.size 99 2 (.slice (some ⟨w2.heap.size, 0, none⟩) 0 0) 0 [] := World.ownsRow_made w2 #[] 0 (Nat.le_refl _) (by unfold maxLen; omega) rfl
  refine wpList_append_own_none rfl (.tmp 29) (.tmp 31) 68 rfl w2.heap.size 99 i0 2 Tryd.underlying68 hi (.slice (some ⟨w2.heap.size, 0, none⟩) 0 0) 0 [] rfl hO3 rfl ?_
  have hb3 : Below w2.heap.size w2 (w2.alloc (.cells #[] 99)) := below_one _ _
  have hdt3 := (hb3.cell (p := ⟨w.heap.size + 1, 0, none⟩) s2).trans hdt
  have hdf3 := (hb3.frozen (p := ⟨w.heap.size + 1, 0, none⟩) s2).trans hdf
  clear hds
  have Hd := Lib.hid (And.intro hdt hdf)
  clear hdt hdf
  go_wp2_with (at_builtin; apply stop)
  refine Stop.go ?_
  refine wpList_append_own _ rfl (.tmp 32) (.tmp 36) 68 rfl w2.heap.size 99 i0 (.agg #[.int .i64 0, .int .i64 0]) 2 16 Tryd.underlying68 hi hz0 hz1 hz2 rfl (by decide) (.slice (some ⟨w2.heap.size, 0, none⟩) 0 0) 0 [] rfl (hO3.alloc _) ⟨w2.heap.size + 1, 0, none⟩ 1 1 [.int .i64 task, .int .i64 P] rfl (by simp) (fun j u hj => by have := two_new (w2.alloc (.cells #[] 99)) (.int .i64 task) (.int .i64 P) 99 j u hj; rwa [show (w2.alloc (.cells #[] 99)).heap.size = w2.heap.size + 1 by simp] at this) (by simp [Value.oneCell']) (by unfold maxLen; omega) (by omega) (by have := hb3.size; simp at this ⊢; omega) ?_
  intro v5 w5 hown5 hgr5 _
  have hb5 := below_append' hb3 hb3.size hO3 hgr5
  have hdt5 := (hb5.cell (p := ⟨w.heap.size + 1, 0, none⟩) s2).trans Hd.out.1
  have hdf5 := (hb5.frozen (p := ⟨w.heap.size + 1, 0, none⟩) s2).trans Hd.out.2
  clear hi hgr5 hdt3 hdf3
  have hO5 : OL w5 w.heap.size v5 [(task, P)] := by
    have := owns_base (b' := w.heap.size) hown5 (by omega)
    exact this
  obtain ⟨g5, c5, rfl, _, _, hg5, hl5⟩ := owns_some hown5 (by omega)
  have hne : w.heap.size + 1 ≠ g5 := by omega
  have hbel5 : Below w.heap.size w w5 := below_trans hbel2 hb5
  have HO5 := Lib.hid hO5
  clear hO5 hown5 hb5 hb3 hO3 hbel2
  go_wp2
  exact bodyPost_ret (v := .tuple #[.agg #[.slice (some ⟨g5, 0, none⟩) 1 c5], .bool true]) (by simp [results, Tryd.results37, go_sem, hdt5]) rfl
    ⟨_, rfl, HO5.out.kept (only_set (only_refl w5 (some (w.heap.size + 1))) _) (.inr (fun e => hne (by injection e with e; exact e.symm))), hbel5.setCell (p := ⟨w.heap.size + 1, 0, none⟩) (Nat.le_succ _) _⟩
set_option maxRecDepth 100000 in
set_option maxHeartbeats 1000000 in
theorem fadd_lo (a : Option Addr) (n c : Nat) (task P : Int) (w : World) (d0 : decide (task < 0) = true) :
    Calls Tryd.prog 37 #[.agg #[.slice a n c], .int .i64 task, .int .i64 P] w fun e w' => e = .returned (.tuple #[.agg #[.slice a n c], .bool false]) ∧ Below w.heap.size w w' := by
  go_enter Tryd.func37, Tryd.ntmps37
  go_wp2
  exact bodyPost_ret (v := .tuple #[.agg #[.slice a n c], .bool false]) (by simp [results, Tryd.results37, go_sem]) rfl ⟨rfl, below_two _ _ _⟩

set_option maxRecDepth 100000 in
set_option maxHeartbeats 1000000 in
theorem fadd_hi (a : Option Addr) (n c : Nat) (task P : Int) (w : World) (d0 : decide (task < 0) = false) (d1 : decide ((15 : Int) < task) = true) :
    Calls Tryd.prog 37 #[.agg #[.slice a n c], .int .i64 task, .int .i64 P] w fun e w' => e = .returned (.tuple #[.agg #[.slice a n c], .bool false]) ∧ Below w.heap.size w w' := by
  go_enter Tryd.func37, Tryd.ntmps37
  go_wp2
  exact bodyPost_ret (v := .tuple #[.agg #[.slice a n c], .bool false]) (by simp [results, Tryd.results37, go_sem]) rfl ⟨rfl, below_two _ _ _⟩

set_option maxRecDepth 100000 in
set_option maxHeartbeats 1000000 in
theorem fadd_plo (a : Option Addr) (n c : Nat) (task P : Int) (w : World) (d0 : decide (task < 0) = false) (d1 : decide ((15 : Int) < task) = false) (d2 : decide (P < 0) = true) :
    Calls Tryd.prog 37 #[.agg #[.slice a n c], .int .i64 task, .int .i64 P] w fun e w' => e = .returned (.tuple #[.agg #[.slice a n c], .bool false]) ∧ Below w.heap.size w w' := by
  go_enter Tryd.func37, Tryd.ntmps37
  go_wp2
  exact bodyPost_ret (v := .tuple #[.agg #[.slice a n c], .bool false]) (by simp [results, Tryd.results37, go_sem]) rfl ⟨rfl, below_two _ _ _⟩

set_option maxRecDepth 100000 in
set_option maxHeartbeats 1000000 in
theorem fadd_phi (a : Option Addr) (n c : Nat) (task P : Int) (w : World) (d0 : decide (task < 0) = false) (d1 : decide ((15 : Int) < task) = false) (d2 : decide (P < 0) = false) (d3 : decide ((31 : Int) < P) = true) :
    Calls Tryd.prog 37 #[.agg #[.slice a n c], .int .i64 task, .int .i64 P] w fun e w' => e = .returned (.tuple #[.agg #[.slice a n c], .bool false]) ∧ Below w.heap.size w w' := by
  go_enter Tryd.func37, Tryd.ntmps37
  go_wp2
  exact bodyPost_ret (v := .tuple #[.agg #[.slice a n c], .bool false]) (by simp [results, Tryd.results37, go_sem]) rfl ⟨rfl, below_two _ _ _⟩

set_option maxRecDepth 100000 in
set_option maxHeartbeats 1000000 in
theorem fadd_had (a : Option Addr) (n c : Nat) (task P : Int) (w : World) (d0 : decide (task < 0) = false) (d1 : decide ((15 : Int) < task) = false) (d2 : decide (P < 0) = false) (d3 : decide ((31 : Int) < P) = false) (x : Nat) (hpl : ∀ W, Below w.heap.size w W → Calls Tryd.prog 76 #[.agg #[.slice a n c], .int .i64 task] W fun e w' => e = .returned (.int .i64 (x : Int)) ∧ Below W.heap.size W w') :
    Calls Tryd.prog 37 #[.agg #[.slice a n c], .int .i64 task, .int .i64 P] w fun e w' => e = .returned (.tuple #[.agg #[.slice a n c], .bool false]) ∧ Below w.heap.size w w' := by
  have hcs : ∀ o : Obj, w.heap.size < ((w.alloc (.cells #[.slice a n c] 70)).alloc o).heap.size ∧ ((w.alloc (.cells #[.slice a n c] 70)).alloc o).cell? ⟨w.heap.size, 0, none⟩ = some (.slice a n c) := fun o =>
    ⟨by simp; omega, ((below_one (w.alloc (.cells #[.slice a n c] 70)) o).cell (p := ⟨w.heap.size, 0, none⟩) (by simp)).trans (World.cell?_alloc_at _ _ _ _ (by simp))⟩
  have hct : ∀ W : World, W.heap.size = w.heap.size + 1 → w.heap.size + 1 < (W.alloc (.cells #[.slice none 0 0] 70)).heap.size ∧ (W.alloc (.cells #[.slice none 0 0] 70)).cell? ⟨w.heap.size + 1, 0, none⟩ = some (.slice none 0 0) ∧ (W.alloc (.cells #[.slice none 0 0] 70)).frozen? ⟨w.heap.size + 1, 0, none⟩ = false := fun W hW => by
    rw [← hW]
    exact ⟨by simp, World.cell?_alloc_at _ _ _ _ (by simp), World.frozen?_alloc_at _ _ _ _ (by simp)⟩
  go_enter Tryd.func37, Tryd.ntmps37
  go_wp2_with (go_at_call 76; with_reducible refine (hpl _ (below_two _ _ _)).mono ?_; rintro e w2 ⟨rfl, hb2⟩; have hds := (hb2.cell (p := ⟨w.heap.size, 0, none⟩) (hcs _).1).trans (hcs _).2; have hdt := (hb2.cell (p := ⟨w.heap.size + 1, 0, none⟩) (hct _ (by simp)).1).trans (hct _ (by simp)).2.1; have hdf := (hb2.frozen (p := ⟨w.heap.size + 1, 0, none⟩) (hct _ (by simp)).1).trans (hct _ (by simp)).2.2)
  exact bodyPost_ret (v := .tuple #[.agg #[.slice a n c], .bool false]) (by simp [results, Tryd.results37, go_sem, hdt]) rfl ⟨rfl, Below.setCell (p := ⟨w.heap.size + 1, 0, none⟩) (below_trans (below_two _ _ _) hb2) (Nat.le_succ _) _⟩
end Go.Proofs.YtbbnackahgcegaaDoor
