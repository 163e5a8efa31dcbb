/- The document's rank: Turn. -/
import Derived.Test.YtbbnackahgcegaaDoorRefRankF
namespace Go.Proofs.YtbbnackahgcegaaDoor
open Go.RowKit
set_option linter.all false

theorem OL.parts {w : World} {base : Nat} {v : Value} {L : List (Int × Int)} (h : OL w base v L) (hl : L.length ≤ 1000000) : ∃ a c, v = .slice a L.length c ∧ RdL w a L := by
  rcases h.shape hl with ⟨rfl, rfl⟩ | ⟨g, c, rfl, hr, _⟩
  · exact ⟨none, 0, rfl, ⟨by simp, fun h => by simp at h⟩⟩
  · exact ⟨some ⟨g, 0, none⟩, c, rfl, hr⟩
theorem OL.some {w : World} {base : Nat} {v : Value} {L : List (Int × Int)} (h : OL w base v L) (hl : L.length ≤ 1000000) (hp : 0 < L.length) : ∃ g c, v = .slice (some ⟨g, 0, none⟩) L.length c := by
  rcases h.shape hl with ⟨_, rfl⟩ | ⟨g, c, rfl, hr, _⟩
  · simp at hp
  · exact ⟨g, c, rfl⟩

theorem fadd_ok (v : Value) (L : List (Int × Int)) (base : Nat) (task P : Int) (w : World) (h : OL w base v L) (hl : L.length ≤ 1000) (hno : task ∉ L.map (·.1)) (t0 : 0 ≤ task) (t1 : task < 16) (p0 : 0 ≤ P) (p1 : P < 32) :
    Calls Tryd.prog 37 #[.agg #[v], .int .i64 task, .int .i64 P] w fun e w' => ∃ v, e = .returned (.tuple #[.agg #[v], .bool true]) ∧ OL w' w.heap.size v (L ++ [(task, P)]) ∧ Below w.heap.size w w' := by
  rcases h.shape (by omega) with ⟨rfl, rfl⟩ | ⟨g, c, rfl, hr, _⟩
  · exact fadd_nil task P w t0 t1 p0 p1
  · exact fadd_yes g c L base task P w h hl hno t0 t1 p0 p1

theorem fremove_ok (v : Value) (A B : List (Int × Int)) (base : Nat) (task P : Int) (w : World) (h : OL w base v (A ++ (task, P) :: B)) (hG : Good (A ++ (task, P) :: B)) (hl : (A ++ (task, P) :: B).length ≤ 16) :
    Calls Tryd.prog 39 #[.agg #[v], .int .i64 task] w fun e w' => ∃ v, e = .returned (.tuple #[.agg #[v], .bool true]) ∧ OL w' w.heap.size v (A ++ B) ∧ Below w.heap.size w w' := by
  obtain ⟨hno, hat, hlt⟩ := place_yes hG
  obtain ⟨g, c, rfl⟩ := h.some (by omega) (by omega)
  have := fremove_yes g c A.length base (A ++ (task, P) :: B) task w h hl hlt hno (by rw [hat])
  rwa [List.eraseIdx_append_of_length_le (Nat.le_refl _), Nat.sub_self, List.eraseIdx_cons_zero] at this

set_option maxRecDepth 100000 in
set_option maxHeartbeats 1000000 in
theorem fturn_no (a : Option Addr) (c : Nat) (L : List (Int × Int)) (task : Int) (w : World) (h : RdL w a L) (hno : task ∉ L.map (·.1)) :
    Calls Tryd.prog 41 #[.agg #[.slice a L.length c], .int .i64 task] w fun e w' => e = .returned (.tuple #[.agg #[.slice a L.length c], .bool false]) ∧ Below w.heap.size w w' := by
  have hR := (h.up (below_one w (.cells #[.slice a L.length c] 70))).up (below_one _ (.cells #[.slice none 0 0] 70))
  have hpr := fun W h => fprio_no a c L task W h hno
  have hcs : ∀ o : Obj, w.heap.size < ((w.alloc (.cells #[.slice a L.length c] 70)).alloc o).heap.size ∧ ((w.alloc (.cells #[.slice a L.length c] 70)).alloc o).cell? ⟨w.heap.size, 0, none⟩ = some (.slice a L.length c) := fun o =>
    ⟨by simp; omega, ((below_one (w.alloc (.cells #[.slice a L.length c] 70)) o).cell (p := ⟨w.heap.size, 0, none⟩) (by simp)).trans (World.cell?_alloc_at _ _ _ _ (by simp))⟩
  have hct : ∀ W : World, W.heap.size = w.heap.size + 1 → w.heap.size + 1 < (W.alloc (.cells #[.slice none 0 0] 70)).heap.size ∧ (W.alloc (.cells #[.slice none 0 0] 70)).cell? ⟨w.heap.size + 1, 0, none⟩ = some (.slice none 0 0) ∧ (W.alloc (.cells #[.slice none 0 0] 70)).frozen? ⟨w.heap.size + 1, 0, none⟩ = false := fun W hW => by
    rw [← hW]
    exact ⟨by simp, World.cell?_alloc_at _ _ _ _ (by simp), World.frozen?_alloc_at _ _ _ _ (by simp)⟩
  go_enter Tryd.func41, Tryd.ntmps41
  go_wp2_with (go_at_call 45; with_reducible refine (hpr _ hR).mono ?_; rintro e w2 ⟨rfl, hb2⟩; have hds := (hb2.cell (p := ⟨w.heap.size, 0, none⟩) (hcs _).1).trans (hcs _).2; have hdt := (hb2.cell (p := ⟨w.heap.size + 1, 0, none⟩) (hct _ (by simp)).1).trans (hct _ (by simp)).2.1; have hdf := (hb2.frozen (p := ⟨w.heap.size + 1, 0, none⟩) (hct _ (by simp)).1).trans (hct _ (by simp)).2.2)
  exact bodyPost_ret (v := .tuple #[.agg #[.slice a L.length c], .bool false]) (by simp [results, Tryd.results41, go_sem, hdt]) rfl ⟨rfl, Below.setCell (p := ⟨w.heap.size + 1, 0, none⟩) (below_trans (below_two _ _ _) hb2) (Nat.le_succ _) _⟩

set_option maxRecDepth 100000 in
set_option maxHeartbeats 1000000 in
theorem fturn_yes (g c base : Nat) (A B : List (Int × Int)) (task P : Int) (w : World) (h : OL w base (.slice (some ⟨g, 0, none⟩) (A ++ (task, P) :: B).length c) (A ++ (task, P) :: B)) (hG : Good (A ++ (task, P) :: B)) (hl : (A ++ (task, P) :: B).length ≤ 16) :
    Calls Tryd.prog 41 #[.agg #[.slice (some ⟨g, 0, none⟩) (A ++ (task, P) :: B).length c], .int .i64 task] w fun e w' => ∃ v, e = .returned (.tuple #[.agg #[v], .bool true]) ∧ OL w' w.heap.size v ((A ++ B) ++ [(task, P)]) ∧ Below w.heap.size w w' := by
  obtain ⟨pno, pat, plt⟩ := place_yes hG
  have hGd := hG.del
  have hbd := hG.bd (task, P) (by simp)
  have htn : task ∉ (A ++ B).map (·.1) := by
    have hone := hG.one
    rw [List.map_append, List.map_cons, List.nodup_append, List.nodup_cons] at hone
    obtain ⟨_, ⟨hB, _⟩, hA⟩ := hone
    rw [List.map_append, List.mem_append]
    rintro (hm | hm)
    · exact hA task hm task (List.mem_cons_self ..) rfl
    · exact hB hm
  have hlab : (A ++ B).length ≤ 1000 := by simp at hl ⊢; omega
  obtain ⟨t0, t1, p0, p1⟩ := hbd
  simp only at t0 t1 p0 p1
  have hrm := fun W hW => fremove_ok (.slice (some ⟨g, 0, none⟩) (A ++ (task, P) :: B).length c) A B base task P W hW hG hl
  have hpr := fun W h => fprio_yes (some ⟨g, 0, none⟩) c A.length (A ++ (task, P) :: B) task P W h plt pno pat
  have hRd : RdL w (some ⟨g, 0, none⟩) (A ++ (task, P) :: B) := by
    rcases h.shape (by omega) with ⟨h1, _⟩ | ⟨g', c', h1, h2, _⟩
    · cases h1
    · injection h1 with e1 _ _
      rw [e1]
      exact h2
  have hadd := fun v b W hW => fadd_ok v (A ++ B) b task P W hW hlab htn t0 t1 p0 p1
  clear pno pat plt hG hGd htn t0 t1 p0 p1
  generalize A ++ (task, P) :: B = L at *
  generalize A ++ B = D at *
  have hR := (hRd.up (below_one w (.cells #[.slice (some ⟨g, 0, none⟩) L.length c] 70))).up (below_one _ (.cells #[.slice none 0 0] 70))
  have hcs : ∀ o : Obj, w.heap.size < ((w.alloc (.cells #[.slice (some ⟨g, 0, none⟩) L.length c] 70)).alloc o).heap.size ∧ ((w.alloc (.cells #[.slice (some ⟨g, 0, none⟩) L.length c] 70)).alloc o).cell? ⟨w.heap.size, 0, none⟩ = some (.slice (some ⟨g, 0, none⟩) L.length c) := fun o =>
    ⟨by simp; omega, ((below_one (w.alloc (.cells #[.slice (some ⟨g, 0, none⟩) L.length c] 70)) o).cell (p := ⟨w.heap.size, 0, none⟩) (by simp)).trans (World.cell?_alloc_at _ _ _ _ (by simp))⟩
  have hct : ∀ W : World, W.heap.size = w.heap.size + 1 → w.heap.size + 1 < (W.alloc (.cells #[.slice none 0 0] 70)).heap.size ∧ (W.alloc (.cells #[.slice none 0 0] 70)).cell? ⟨w.heap.size + 1, 0, none⟩ = some (.slice none 0 0) ∧ (W.alloc (.cells #[.slice none 0 0] 70)).frozen? ⟨w.heap.size + 1, 0, none⟩ = false := fun W hW => by
    rw [← hW]
    exact ⟨by simp, World.cell?_alloc_at _ _ _ _ (by simp), World.frozen?_alloc_at _ _ _ _ (by simp)⟩
  go_enter Tryd.func41, Tryd.ntmps41
  go_upto_region 4 with (go_at_call 45; with_reducible refine (hpr _ hR).mono ?_; rintro e w2 ⟨rfl, hb2⟩; have hds := (hb2.cell (p := ⟨w.heap.size, 0, none⟩) (hcs _).1).trans (hcs _).2; have hdt := (hb2.cell (p := ⟨w.heap.size + 1, 0, none⟩) (hct _ (by simp)).1).trans (hct _ (by simp)).2.1; have hdf := (hb2.frozen (p := ⟨w.heap.size + 1, 0, none⟩) (hct _ (by simp)).1).trans (hct _ (by simp)).2.2)
  have hO2 := (h.up (below_two w _ _)).up hb2
  have hs2 : w.heap.size < w2.heap.size ∧ w.heap.size + 1 < w2.heap.size := size_two hb2
  obtain ⟨s1, s2⟩ := hs2
  have hbel2 := below_trans (below_two w _ _) hb2
  clear hb2 hcs hct hpr hR hRd h
  go_wp2_with (first
    | (go_at_call 39; with_reducible refine (hrm _ hO2).mono ?_; rintro e w3 ⟨v3, rfl, hO3, hb3⟩; have hdt3 := (hb3.cell (p := ⟨w.heap.size + 1, 0, none⟩) s2).trans hdt; have hdf3 := (hb3.frozen (p := ⟨w.heap.size + 1, 0, none⟩) s2).trans hdf; obtain ⟨a3, c3, rfl, _⟩ := hO3.parts (by omega); clear hdt hdf hds)
    | (go_at_call 37; apply stop))
  refine Stop.go ?_
  with_reducible refine (hadd _ _ _ (hO3.alloc _)).mono ?_
  rintro e w4 ⟨v4, rfl, hO4, hb4⟩
  have hb34 := below_trans (below_one w3 _) hb4
  have s3 : w.heap.size + 1 < w3.heap.size := Nat.lt_of_lt_of_le s2 hb3.size
  have hdt4 := (hb34.cell (p := ⟨w.heap.size + 1, 0, none⟩) s3).trans hdt3
  have hdf4 := (hb34.frozen (p := ⟨w.heap.size + 1, 0, none⟩) s3).trans hdf3
  obtain ⟨g4, c4, rfl⟩ := hO4.some (by simp; omega) (by simp)
  clear hdt3 hdf3 hO2 hO3
  have HO4 := Lib.hid hO4
  clear hO4
  go_wp2
  have hbel4 : Below w.heap.size w w4 := below_trans (below_trans hbel2 hb3) hb34
  have hO5 : OL w4 w.heap.size (.slice (some ⟨g4, 0, none⟩) (D ++ [(task, P)]).length c4) (D ++ [(task, P)]) := owns_base HO4.out (by simp; omega)
  have hne : w.heap.size + 1 ≠ g4 := by
    have := (HO4.out.lt g4 rfl).1
    simp at this
    omega
  exact bodyPost_ret (v := .tuple #[.agg #[.slice (some ⟨g4, 0, none⟩) (D ++ [(task, P)]).length c4], .bool true]) (by simp [results, Tryd.results41, go_sem, hdt4]) rfl
    ⟨_, rfl, hO5.kept (only_set (only_refl w4 (some (w.heap.size + 1))) _) (.inr (fun e => hne (by injection e with e; exact e.symm))), hbel4.setCell (p := ⟨w.heap.size + 1, 0, none⟩) (Nat.le_succ _) _⟩
end Go.Proofs.YtbbnackahgcegaaDoor
