/- The document's rank: Remove, Turn. -/
import Derived.Test.YtbbnackahgcegaaDoorRefRankE
namespace Go.Proofs.YtbbnackahgcegaaDoor
open Go.RowKit
set_option linter.all false

theorem take_at {L : List (Int × Int)} {n j : Nat} {u : Value} (h : (cellsL (L.take n))[j]? = some u) : (cellsL L)[j]? = some u := by
  have e : cellsL L = cellsL (L.take n) ++ cellsL (L.drop n) := by rw [← cellsL_append, List.take_append_drop]
  rw [e, List.getElem?_append_left (List.getElem?_eq_some_iff.1 h).1]
  exact h

theorem drop_at {w : World} {L : List (Int × Int)} {g n : Nat} {sa : Addr} (h : ∀ j u, (cellsL L)[j]? = some u → w.cell? ((⟨g, 0, none⟩ : Addr).add j) = some u) (hs : n < L.length → sa = ⟨g, n * 2, none⟩) :
    ∀ j u, (cellsL (L.drop n))[j]? = some u → w.cell? (sa.add j) = some u := by
  intro j u hj
  have hn : n < L.length := by
    have := (List.getElem?_eq_some_iff.1 hj).1
    rw [cellsL_length, List.length_drop] at this
    omega
  have e : cellsL L = cellsL (L.take n) ++ cellsL (L.drop n) := by rw [← cellsL_append, List.take_append_drop]
  have hl : (cellsL (L.take n)).length = n * 2 := by rw [cellsL_length, List.length_take]; omega
  have := h (n * 2 + j) u (by rw [e, List.getElem?_append_right (by omega), hl, Nat.add_sub_cancel_left]; exact hj)
  rw [Addr.add_mid, Nat.zero_add] at this
  rw [hs hn, Addr.add_mid]
  exact this
theorem owns_some' {w : World} {base n : Nat} {e : TypeId} {size : Nat} {v : Value} {xs : List Value} (h : w.ownsRow base e size v n xs) (hn : v ≠ .slice none 0 0) : ∃ g c, v = .slice (some ⟨g, 0, none⟩) n c ∧ n ≤ c ∧ c ≤ maxLen ∧ base ≤ g ∧ g < w.heap.size := by
  rcases h.2 with ⟨h0, _⟩ | ⟨g, cap, cur, rfl, hb, hg, hn, hc, _⟩
  · exact absurd h0 hn
  · exact ⟨g, cap, rfl, hn, hc, hb, (h.lt g rfl).2⟩

set_option maxRecDepth 100000 in
set_option maxHeartbeats 1000000 in
theorem fremove_no (a : Option Addr) (c : Nat) (L : List (Int × Int)) (task : Int) (w : World) (h : RdL w a L) (hno : task ∉ L.map (·.1)) :
    Calls Tryd.prog 39 #[.agg #[.slice a L.length c], .int .i64 task] w fun e w' => e = .returned (.tuple #[.agg #[.slice a L.length c], .bool false]) ∧ Below w.heap.size w w' := by
  have hR := (h.up (below_one w (.cells #[.slice a L.length c] 70))).up (below_one _ (.cells #[.slice none 0 0] 70))
  have hpl : ∀ W, RdL W a L → Calls Tryd.prog 76 #[.agg #[.slice a L.length c], .int .i64 task] W fun e w' => e = .returned (.int .i64 (-1)) ∧ Below W.heap.size W w' := fun W h => by
    have := place_any a c L.length L task W h (Nat.le_refl _) (place_no hno) (fun h => absurd h (Nat.lt_irrefl _))
    rwa [if_neg (Nat.lt_irrefl _)] at this
  have hcs : ∀ o : Obj, w.heap.size < ((w.alloc (.cells #[.slice a L.length c] 70)).alloc o).heap.size ∧ ((w.alloc (.cells #[.slice a L.length c] 70)).alloc o).cell? ⟨w.heap.size, 0, none⟩ = some (.slice a L.length c) := fun o =>
    ⟨by simp; omega, ((below_one (w.alloc (.cells #[.slice a L.length c] 70)) o).cell (p := ⟨w.heap.size, 0, none⟩) (by simp)).trans (World.cell?_alloc_at _ _ _ _ (by simp))⟩
  have hct : ∀ W : World, W.heap.size = w.heap.size + 1 → w.heap.size + 1 < (W.alloc (.cells #[.slice none 0 0] 70)).heap.size ∧ (W.alloc (.cells #[.slice none 0 0] 70)).cell? ⟨w.heap.size + 1, 0, none⟩ = some (.slice none 0 0) ∧ (W.alloc (.cells #[.slice none 0 0] 70)).frozen? ⟨w.heap.size + 1, 0, none⟩ = false := fun W hW => by
    rw [← hW]
    exact ⟨by simp, World.cell?_alloc_at _ _ _ _ (by simp), World.frozen?_alloc_at _ _ _ _ (by simp)⟩
  go_enter Tryd.func39, Tryd.ntmps39
  go_wp2_with (go_at_call 76; with_reducible refine (hpl _ hR).mono ?_; rintro e w2 ⟨rfl, hb2⟩; have hds := (hb2.cell (p := ⟨w.heap.size, 0, none⟩) (hcs _).1).trans (hcs _).2; have hdt := (hb2.cell (p := ⟨w.heap.size + 1, 0, none⟩) (hct _ (by simp)).1).trans (hct _ (by simp)).2.1; have hdf := (hb2.frozen (p := ⟨w.heap.size + 1, 0, none⟩) (hct _ (by simp)).1).trans (hct _ (by simp)).2.2)
  exact bodyPost_ret (v := .tuple #[.agg #[.slice a L.length c], .bool false]) (by simp [results, Tryd.results39, go_sem, hdt]) rfl ⟨rfl, Below.setCell (p := ⟨w.heap.size + 1, 0, none⟩) (below_trans (below_two _ _ _) hb2) (Nat.le_succ _) _⟩

set_option maxRecDepth 100000 in
set_option maxHeartbeats 1000000 in
theorem fremove_yes (g c i0 base : Nat) (L : List (Int × Int)) (task : Int) (w : World) (h : OL w base (.slice (some ⟨g, 0, none⟩) L.length c) L) (hl : L.length ≤ 16) (hlt : i0 < L.length) (hno : ∀ k, k < i0 → (L.getD k (0, 0)).1 ≠ task) (hat : (L.getD i0 (0, 0)).1 = task) :
    Calls Tryd.prog 39 #[.agg #[.slice (some ⟨g, 0, none⟩) L.length c], .int .i64 task] w fun e w' => ∃ v, e = .returned (.tuple #[.agg #[v], .bool true]) ∧ OL w' w.heap.size v (L.eraseIdx i0) ∧ Below w.heap.size w w' := by
  have hRd : RdL w (some ⟨g, 0, none⟩) L := by
    rcases h.shape (by omega) with ⟨h1, _⟩ | ⟨g', c', h1, h2, _⟩
    · cases h1
    · injection h1 with e1 _ _
      rw [e1]
      exact h2
  have hcap : L.length ≤ c ∧ c ≤ maxLen := by
    rcases h.2 with ⟨hv, _⟩ | ⟨g', cap, cur, hv, _, _, hn, hc, _⟩
    · cases hv
    · injection hv with _ _ e
      omega
  obtain ⟨cap1, cap2⟩ := hcap
  obtain ⟨ii, hi, hz0, hz1, hz2⟩ := info_parts infoO
  have hR := (hRd.up (below_one w (.cells #[.slice (some ⟨g, 0, none⟩) L.length c] 70))).up (below_one _ (.cells #[.slice none 0 0] 70))
  have hpl : ∀ W, RdL W (some ⟨g, 0, none⟩) L → Calls Tryd.prog 76 #[.agg #[.slice (some ⟨g, 0, none⟩) L.length c], .int .i64 task] W fun e w' => e = .returned (.int .i64 (i0 : Int)) ∧ Below W.heap.size W w' := fun W h => by
    have := place_any (some ⟨g, 0, none⟩) c i0 L task W h (by omega) hno (fun _ => hat)
    rwa [if_pos hlt] at this
  have hcs : ∀ o : Obj, w.heap.size < ((w.alloc (.cells #[.slice (some ⟨g, 0, none⟩) L.length c] 70)).alloc o).heap.size ∧ ((w.alloc (.cells #[.slice (some ⟨g, 0, none⟩) L.length c] 70)).alloc o).cell? ⟨w.heap.size, 0, none⟩ = some (.slice (some ⟨g, 0, none⟩) L.length c) := fun o =>
    ⟨by simp; omega, ((below_one (w.alloc (.cells #[.slice (some ⟨g, 0, none⟩) L.length c] 70)) o).cell (p := ⟨w.heap.size, 0, none⟩) (by simp)).trans (World.cell?_alloc_at _ _ _ _ (by simp))⟩
  have hct : ∀ W : World, W.heap.size = w.heap.size + 1 → w.heap.size + 1 < (W.alloc (.cells #[.slice none 0 0] 70)).heap.size ∧ (W.alloc (.cells #[.slice none 0 0] 70)).cell? ⟨w.heap.size + 1, 0, none⟩ = some (.slice none 0 0) ∧ (W.alloc (.cells #[.slice none 0 0] 70)).frozen? ⟨w.heap.size + 1, 0, none⟩ = false := fun W hW => by
    rw [← hW]
    exact ⟨by simp, World.cell?_alloc_at _ _ _ _ (by simp), World.frozen?_alloc_at _ _ _ _ (by simp)⟩
  go_enter Tryd.func39, Tryd.ntmps39
  go_wp2_with (first
    | (go_at_call 76; with_reducible refine (hpl _ hR).mono ?_; rintro e w2 ⟨rfl, hb2⟩; have hds := (hb2.cell (p := ⟨w.heap.size, 0, none⟩) (hcs _).1).trans (hcs _).2; have hdt := (hb2.cell (p := ⟨w.heap.size + 1, 0, none⟩) (hct _ (by simp)).1).trans (hct _ (by simp)).2.1; have hdf := (hb2.frozen (p := ⟨w.heap.size + 1, 0, none⟩) (hct _ (by simp)).1).trans (hct _ (by simp)).2.2; obtain ⟨s1, s2⟩ := size_two hb2; have k1 : (i0 : Int) < (L.length : Int) := by omega)
    | (at_builtin; apply stop))
  have k2 : (i0 : Int) ≤ (c : Int) := by omega
  have k3 : i0 ≤ c := by omega
  have k4 : (i0 : Int) + 1 ≤ (L.length : Int) := by omega
  have k5 : i0 + 1 ≤ L.length := by omega
  have k6 : i0 + 1 ≤ c := by omega
  have k7 : (0 : Int) ≤ (i0 : Int) + 1 := by omega
  have k8 : (L.length : Int) ≤ (c : Int) := by omega
  have k9 : IntKind.i64.wrap ((i0 : Int) + 1) = (i0 : Int) + 1 := by rw [IntKind.wrap_i64]; omega
  have k10 : (0 : Int) ≤ (i0 : Int) := by omega
  refine wp_region_noPanic ?_
  refine wp_region_held_drew (S := fun W => W.cell? ⟨w.heap.size, 0, none⟩ = some (.slice (some ⟨g, 0, none⟩) L.length c)) (by kernel_rfl) (hds) (fun hHeld => ?_)
  refine wpAnyH_take (i := 1) (oi := _) (v := ?_) rfl (by kernel_rfl) (by kernel_rfl) (by kernel_rfl) (fun _ _ _ h => h) (Or.inl ⟨by kernel_rfl, ?_⟩) (by assumption) ?_
  rotate_left
  · intro w hSw; (try dsimp only at hSw); go_simp; try with_reducible rfl
  try simp only [Act.put, List.setIfInBounds_toArray, List.set_cons_zero, List.set_cons_succ]
  refine wpAnyH_take (i := 2) (oi := _) (v := ?_) rfl (by kernel_rfl) (by kernel_rfl) (by kernel_rfl) (fun _ _ _ h => h) (Or.inl ⟨by kernel_rfl, ?_⟩) (by assumption) ?_
  rotate_left
  · intro w hSw; (try dsimp only at hSw); go_simp; try with_reducible rfl
  try simp only [Act.put, List.setIfInBounds_toArray, List.set_cons_zero, List.set_cons_succ]
  refine wpAnyH_take (i := 3) (oi := _) (v := ?_) rfl (by kernel_rfl) (by kernel_rfl) (by kernel_rfl) (fun _ _ _ h => h) (Or.inl ⟨by kernel_rfl, ?_⟩) (by assumption) ?_
  rotate_left
  · intro w hSw; (try dsimp only at hSw); go_simp; try with_reducible rfl
  try simp only [Act.put, List.setIfInBounds_toArray, List.set_cons_zero, List.set_cons_succ]
  refine wpAnyH_take (i := 4) (oi := _) (v := ?_) rfl (by kernel_rfl) (by kernel_rfl) (by kernel_rfl) (fun _ _ _ h => h) (Or.inl ⟨by kernel_rfl, ?_⟩) (by assumption) ?_
  rotate_left
  · intro w hSw; (try dsimp only at hSw); go_simp; try with_reducible rfl
  try simp only [Act.put, List.setIfInBounds_toArray, List.set_cons_zero, List.set_cons_succ]
  refine wpAnyH_take (i := 6) (oi := _) (v := ?_) rfl (by kernel_rfl) (by kernel_rfl) (by kernel_rfl) (fun _ _ _ h => h) (Or.inl ⟨by kernel_rfl, ?_⟩) (by assumption) ?_
  rotate_left
  · intro w hSw; (try dsimp only at hSw); go_simp; try with_reducible rfl
  try simp only [Act.put, List.setIfInBounds_toArray, List.set_cons_zero, List.set_cons_succ]
  refine wpAnyH_take (i := 7) (oi := _) (v := ?_) rfl (by kernel_rfl) (by kernel_rfl) (by kernel_rfl) (fun _ _ _ h => h) (Or.inl ⟨by kernel_rfl, ?_⟩) (by assumption) ?_
  rotate_left
  · intro w hSw; (try dsimp only at hSw); go_simp; try with_reducible rfl
  try simp only [Act.put, List.setIfInBounds_toArray, List.set_cons_zero, List.set_cons_succ]
  refine wpAnyH_take (i := 8) (oi := _) (v := ?_) rfl (by kernel_rfl) (by kernel_rfl) (by kernel_rfl) (fun _ _ _ h => h) (Or.inl ⟨by kernel_rfl, ?_⟩) (by assumption) ?_
  rotate_left
  · intro w hSw; (try dsimp only at hSw); go_simp; try with_reducible rfl
  try simp only [Act.put, List.setIfInBounds_toArray, List.set_cons_zero, List.set_cons_succ]
  refine wpAnyH_take (i := 9) (oi := _) (v := ?_) rfl (by kernel_rfl) (by kernel_rfl) (by kernel_rfl) (fun _ _ _ h => h) (Or.inl ⟨by kernel_rfl, ?_⟩) (by assumption) ?_
  rotate_left
  · intro w hSw; (try dsimp only at hSw); go_simp; try with_reducible rfl
  try simp only [Act.put, List.setIfInBounds_toArray, List.set_cons_zero, List.set_cons_succ]
  refine wpAnyH_take (i := 10) (oi := _) (v := ?_) rfl (by kernel_rfl) (by kernel_rfl) (by kernel_rfl) (fun _ _ _ h => h) (Or.inl ⟨by kernel_rfl, ?_⟩) (by assumption) ?_
  rotate_left
  · intro w hSw; (try dsimp only at hSw); go_simp; try with_reducible rfl
  try simp only [Act.put, List.setIfInBounds_toArray, List.set_cons_zero, List.set_cons_succ]
  refine wpAnyH_ready (rs := [0]) (by kernel_rfl) (by simp) ?_
  refine AllReadyH.cons (o := _) rfl (fun K hK => ?_) AllReadyH.nil
  go_simp
  refine hK.out _ _ (((below_one w2.drew (.cells #[] 99)).cell (p := ⟨w.heap.size, 0, none⟩) s1).trans hds) ?_
  clear hHeld hK K
  intro hHeld
  try simp only [Act.put, List.setIfInBounds_toArray, List.set_cons_zero, List.set_cons_succ]
  have hO2 := ((h.up (below_two w _ _)).up hb2)
  have hsr := (show OL w2.drew base _ L from hO2).alloc (.cells #[] 99) |>.cells (g := g) rfl
  refine wpAnyH_ready (rs := [5]) (by kernel_rfl) (by simp) ?_
  refine AllReadyH.cons (o := _) rfl (fun K hK => ?_) AllReadyH.nil
  rw [if_pos (by kernel_rfl)]
  refine wp_append_own _ (.tmp 13) (.tmp 17) 68 rfl w2.heap.size 99 ii (.agg #[.int .i64 0, .int .i64 0]) 2 16 Tryd.underlying68 hi hz0 hz1 hz2 rfl (by decide) (.slice (some ⟨w2.heap.size, 0, none⟩) 0 0) 0 [] rfl (World.ownsRow_made w2.drew #[] 0 (Nat.le_refl _) (by unfold maxLen; omega) rfl) ⟨g, 0, none⟩ i0 c (cellsL (L.take i0)) rfl (by rw [cellsL_length]; simp; omega) (fun j u hj => hsr j u (take_at hj)) (cellsL_one _) (by unfold maxLen; omega) (by omega) (by have := hb2.size; first | (simp; done) | omega | exact hb3.size) ?_
  rintro v3 w3 hown3 hgr3 hn3
  refine hK.out _ _ (((below_append (show (w2.drew.alloc (.cells #[] 99)).grownBy w3 (Value.slice (some ⟨w2.drew.heap.size, 0, none⟩) 0 0).ownBlock from hgr3)).cell (p := ⟨w.heap.size, 0, none⟩) s1).trans hds) ?_
  clear hHeld hK K
  intro hHeld
  try simp only [Act.put, List.setIfInBounds_toArray, List.set_cons_zero, List.set_cons_succ]
  have hb3 : Below w2.heap.size w2 w3 := below_trans ((Below.refl _ _).drew) (below_append (show (w2.drew.alloc (.cells #[] 99)).grownBy w3 (Value.slice (some ⟨w2.drew.heap.size, 0, none⟩) 0 0).ownBlock from hgr3))
  have hO3 : w3.ownsRow w2.heap.size 99 2 v3 i0 (cellsL (L.take i0)) := by simpa using hown3
  have hv3 : v3 ≠ .slice none 0 0 := fun e => by cases (hn3.1 e).1
  have hOL3 : OL w3 base (.slice (some ⟨g, 0, none⟩) L.length c) L := OL.up hO2 hb3
  have hsr3 := hOL3.cells (g := g) rfl
  obtain ⟨sa, hsa, hsn⟩ : ∃ sa : Addr, (if c = i0 + 1 then some (⟨g, 0, none⟩ : Addr) else some ⟨g, (i0 + 1) * 2, none⟩) = some sa ∧ (i0 + 1 < L.length → sa = ⟨g, (i0 + 1) * 2, none⟩) := by
    by_cases hc : c = i0 + 1
    · exact ⟨_, if_pos hc, fun hl => by omega⟩
    · exact ⟨_, if_neg hc, fun _ => rfl⟩
  simp only [List.getElem_toArray, List.getElem_cons_succ, List.getElem_cons_zero, Act.put, List.setIfInBounds_toArray, List.set_cons_zero, List.set_cons_succ, hsa]
  refine wpAnyH_ready (rs := [11]) (by kernel_rfl) (by simp) ?_
  refine AllReadyH.cons (o := _) rfl (fun K hK => ?_) AllReadyH.nil
  rw [if_pos (by kernel_rfl)]
  refine wp_append_own _ (.tmp 18) (.tmp 23) 68 rfl w2.heap.size 99 ii (.agg #[.int .i64 0, .int .i64 0]) 2 16 Tryd.underlying68 hi hz0 hz1 hz2 rfl (by decide) v3 i0 (cellsL (L.take i0)) rfl hO3 sa (L.length - (i0 + 1)) (c - (i0 + 1)) (cellsL (L.drop (i0 + 1))) rfl (by rw [cellsL_length]; simp) (drop_at hsr3 hsn) (cellsL_one _) (by unfold maxLen; omega) (by omega) (by have := hb2.size; first | (simp; done) | omega | exact hb3.size) ?_
  rintro v5 w5 hown5 hgr5 hn5
  refine hK.out _ _ (((below_append0 hb3 hb3.size hO3 hgr5).cell (p := ⟨w.heap.size, 0, none⟩) s1).trans hds) ?_
  clear hHeld hK K
  intro hHeld
  try simp only [Act.put, List.setIfInBounds_toArray, List.set_cons_zero, List.set_cons_succ]
  have hb5 := below_append0 hb3 hb3.size hO3 hgr5
  obtain ⟨g5, c5, rfl, _, _, hg5, hl5⟩ := owns_some' hown5 (fun e => hv3 (hn5.1 e).1)
  have hdt5 := (hb5.cell (p := ⟨w.heap.size + 1, 0, none⟩) s2).trans hdt
  have hdf5 := (hb5.frozen (p := ⟨w.heap.size + 1, 0, none⟩) s2).trans hdf
  simp only [List.getElem_toArray, List.getElem_cons_succ, List.getElem_cons_zero, Act.put, List.setIfInBounds_toArray, List.set_cons_zero, List.set_cons_succ]
  refine wpAnyH_take (i := 12) (oi := _) (v := ?_) rfl (by kernel_rfl) (by kernel_rfl) (by kernel_rfl) (fun _ _ _ h => h) (Or.inl ⟨by kernel_rfl, ?_⟩) (by assumption) ?_
  rotate_left
  · intro w hSw; (try dsimp only at hSw); go_simp; try with_reducible rfl
  try simp only [Act.put, List.setIfInBounds_toArray, List.set_cons_zero, List.set_cons_succ]
  refine wpAnyH_ready (rs := [13]) (by kernel_rfl) (by simp) ?_
  refine AllReadyH.cons (o := _) rfl (fun K hK => ?_) AllReadyH.nil
  go_simp
  refine hK.out _ _ (by rw [set_far (show w.heap.size + 1 ≠ w.heap.size by omega)]; exact hHeld) ?_
  clear hHeld hK K
  intro hHeld
  try simp only [Act.put, List.setIfInBounds_toArray, List.set_cons_zero, List.set_cons_succ]
  refine wpAnyH_take (i := 14) (oi := _) (v := ?_) rfl (by kernel_rfl) (by kernel_rfl) (by kernel_rfl) (fun _ _ _ h => h) (Or.inl ⟨by kernel_rfl, ?_⟩) (by assumption) ?_
  rotate_left
  · intro w hSw; (try dsimp only at hSw); go_simp; try with_reducible rfl
  try simp only [Act.put, List.setIfInBounds_toArray, List.set_cons_zero, List.set_cons_succ]
  try simp only [List.getElem_toArray, List.getElem_cons_succ, List.getElem_cons_zero]
  refine wpAnyH_done (by kernel_rfl) ?_ _
  refine NoPanic.normal ?_
  clear hHeld
  have hbel5 : Below w.heap.size w w5 := below_trans (below_trans (below_two w _ _) hb2) hb5
  have hne : w.heap.size + 1 ≠ g5 := by omega
  have hln : i0 + (L.length - (i0 + 1)) = (L.eraseIdx i0).length := by rw [List.length_eraseIdx, if_pos hlt]; omega
  have hO5 : OL w5 w.heap.size (.slice (some ⟨g5, 0, none⟩) (i0 + (L.length - (i0 + 1))) c5) (L.eraseIdx i0) := by
    have := owns_base (b' := w.heap.size) hown5 (by omega)
    rw [OL, ← hln, List.eraseIdx_eq_take_drop_succ, cellsL_append]
    exact this
  clear hn5 hgr5 hown5 hn3 hown3 hgr3 hsr hsr3 hO3 hOL3 hb3 hO2 hb5
  have HO5 := Lib.hid hO5
  clear hO5
  go_wp2
  exact bodyPost_ret (v := .tuple #[.agg #[.slice (some ⟨g5, 0, none⟩) (i0 + (L.length - (i0 + 1))) c5], .bool true]) (by simp [results, Tryd.results39, go_sem, hdt5]) rfl
      ⟨_, rfl, HO5.out.kept (only_set (only_refl w5 (some (w.heap.size + 1))) _) (.inr (fun e => hne (by injection e with e; exact e.symm))), hbel5.setCell (p := ⟨w.heap.size + 1, 0, none⟩) (Nat.le_succ _) _⟩
end Go.Proofs.YtbbnackahgcegaaDoor
