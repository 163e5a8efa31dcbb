/- The contracts of nest's List and Copy: new memory that holds the levels. -/
import Derived.Test.YtebhojbllhjkeaaNest
import Derived.Deep.MidRow
namespace Go.Proofs.Ytebhojbllhjkeaa
open Go.RowKit
set_option linter.unusedVariables false

theorem infoInt : (Try.prog.info? 3).map (fun i => (i.zero, i.size, i.bytes)) = some (some (.int .i64 0), 1, 8) := by kernel_rfl

set_option maxRecDepth 100000 in
set_option maxHeartbeats 1000000 in
theorem list_any (B o : Nat) (s : List Int) (m : Int) (w : World) (h : NestAt w B o s m) (hs : s.length ≤ 32) (hB : B < w.heap.size) :
    Calls Try.prog 30 #[.pointer (some ⟨B, o, none⟩)] w fun e w' => e = .returned (.slice (some ⟨w.heap.size, 0, none⟩) s.length s.length) ∧
      w'.heap[w.heap.size]? = some (.cells (s.map (Value.int .i64)).toArray 3 (0, 0)) ∧ Below w.heap.size w w' := by
  have hd := h.deep
  have hs' : (s.length : Int) ≤ 32 := by omega
  have hmk := fun W => run_make_row' (P := Try.prog) 29 3 (.int .i64 0) 8 Try.underlying29 infoInt rfl .i64 .i64 s.length (by omega) (by omega) W
  go_enter Try.func30, Try.ntmps30
  go_wp2
  have hcells : ∀ j v, (s.map (Value.int .i64))[j]? = some v → w.cell? ((⟨B, o, none⟩ : Addr).add j) = some v := by
    intro j v hj
    rw [List.getElem?_map, Option.map_eq_some_iff] at hj
    obtain ⟨x, hx, rfl⟩ := hj
    have hlt := (List.getElem?_eq_some_iff.1 hx).1
    have e : ((⟨B, o, none⟩ : Addr).add j) = ⟨B, o + j, none⟩ := Addr.add_mid _ _ _
    rw [e, h.lev j hlt]
    simp [hx]
  have hone : ∀ v ∈ s.map (Value.int .i64), v.oneCell' = true := by
    intro v hv
    obtain ⟨x, _, rfl⟩ := List.mem_map.1 hv
    rfl
  have hhead := heap_made w s.length 3
  have hsp : splice (List.replicate s.length (Value.int .i64 0)) 0 (s.map (Value.int .i64)) = s.map (Value.int .i64) := by simp [splice]
  have hpos : 0 < (s.map (Value.int .i64)).length → some (⟨w.heap.size, 0, none⟩ : Addr) = some ⟨w.heap.size, 0, none⟩ ∧ ∃ ad, some (⟨B, o, none⟩ : Addr) = some ad ∧
      ∀ j v, (s.map (Value.int .i64))[j]? = some v → (w.alloc (.cells (madeCells #[.int .i64 0] s.length) 3)).drew.cell? (ad.add j) = some v :=
    fun _ => ⟨rfl, _, rfl, fun j v hj => ((below_one w _).cell (p := (⟨B, o, none⟩ : Addr).add j) (by rw [Addr.add_mid]; exact hB)).trans (hcells j v hj)⟩
  have hb0 : Below w.heap.size w (w.alloc (.cells (madeCells #[.int .i64 0] s.length) 3)).drew := (below_one w _).drew
  have hsq : (s.length : Int) ≤ (s.length : Int) := Int.le_refl _
  go_region_law (refine step_copy_splice rfl (.tmp 11) (.tmp 23) 29 29 rfl 3 Try.underlying29 (by kernel_rfl) (some ⟨w.heap.size, 0, none⟩) (some ⟨B, o, none⟩) s.length s.length s.length s.length rfl rfl w.heap.size 0 (List.replicate s.length (.int .i64 0)) 3 hhead (s.map (Value.int .i64)) (by simp) hpos (by simp) hone w.heap.size w hb0 (Nat.le_refl _) ?_; intro w4 hg4 hb4)
  all_goals
    clear hhead hpos hb0 hmk hcells
    go_wp2
    go_ret
    exact ⟨rfl, by rw [← hsp]; exact hg4.out, hb4⟩

/-- the cells of a nest, as one row -/
structure NestRow (cs : List Value) (s : List Int) (m : Int) : Prop where
  len : cs.length = 34
  lev : ∀ i, i < s.length → cs[i]? = some (.int .i64 (s.getD i 0))
  any : ∀ i, i < 32 → ∃ n, cs[i]? = some (.int .i64 n)
  deep : cs[32]? = some (.int .i64 (s.length : Int))
  most : cs[33]? = some (.int .i64 m)

theorem NestAt.row {w : World} {B o : Nat} {s : List Int} {m : Int} (h : NestAt w B o s m) (hs : s.length ≤ 32) : ∃ cs, NestRow cs s m ∧ w.rangeAt B o cs := by
  have hall : ∀ i, i < 34 → ∃ n, w.cell? ⟨B, o + i, none⟩ = some (.int .i64 n) := by
    intro i hi
    by_cases h1 : i < 32
    · exact h.any i h1
    · by_cases h2 : i = 32
      · subst h2; exact ⟨_, h.deep⟩
      · obtain rfl : i = 33 := by omega
        exact ⟨_, h.most⟩
  have hat : ∀ i v, i < 34 → w.cell? ⟨B, o + i, none⟩ = some v → ((List.range 34).map fun i => (w.cell? ⟨B, o + i, none⟩).getD undef)[i]? = some v := by
    intro i v hi hv
    rw [List.getElem?_map, List.getElem?_range hi]
    simp [hv]
  refine ⟨(List.range 34).map fun i => (w.cell? ⟨B, o + i, none⟩).getD undef, ⟨by simp, fun i hi => hat i _ (by omega) (h.lev i hi), fun i hi => ?_, hat 32 _ (by omega) h.deep, hat 33 _ (by omega) h.most⟩, ?_⟩
  · obtain ⟨n, hn⟩ := h.any i hi
    exact ⟨n, hat i _ (by omega) hn⟩
  · intro j v hj
    have hlt : j < 34 := by have := (List.getElem?_eq_some_iff.1 hj).1; simpa using this
    rw [List.getElem?_map, List.getElem?_range hlt] at hj
    obtain ⟨n, hn⟩ := hall j hlt
    simp [hn] at hj
    rw [hn, hj]

theorem NestRow.one {cs : List Value} {s : List Int} {m : Int} (h : NestRow cs s m) : ∀ v ∈ cs, v.oneCell' = true := by
  intro v hv
  obtain ⟨i, hi, rfl⟩ := List.getElem_of_mem hv
  have hl := h.len
  have hx : ∃ n, cs[i]? = some (.int .i64 n) := by
    by_cases h1 : i < 32
    · exact h.any i h1
    · by_cases h2 : i = 32
      · subst h2; exact ⟨_, h.deep⟩
      · obtain rfl : i = 33 := by omega
        exact ⟨_, h.most⟩
  obtain ⟨n, hn⟩ := hx
  rw [List.getElem?_eq_getElem hi] at hn
  injection hn with hn
  rw [hn]
  rfl

theorem NestRow.at {w : World} {B o : Nat} {cs : List Value} {s : List Int} {m : Int} (h : NestRow cs s m) (hr : w.rangeAt B o cs) (hs : s.length ≤ 32) (hf : ∀ i, i < 34 → w.frozen? ⟨B, o + i, none⟩ = false) : NestAt w B o s m :=
  ⟨fun i hi => hr i _ (h.lev i hi), fun i hi => (h.any i hi).elim fun n hn => ⟨n, hr i _ hn⟩, hr 32 _ h.deep, hr 33 _ h.most, hf⟩

set_option maxRecDepth 100000 in
set_option maxHeartbeats 1000000 in
theorem copy_any (B o : Nat) (s : List Int) (m : Int) (w : World) (h : NestAt w B o s m) (hs : s.length ≤ 32) (hB : B < w.heap.size) :
    Calls Try.prog 31 #[.pointer (some ⟨B, o, none⟩)] w fun e w' => e = .returned (.pointer (some ⟨w.heap.size, 0, none⟩)) ∧ NestAt w' w.heap.size 0 s m ∧ Below w.heap.size w w' := by
  obtain ⟨cs, hrow, hrg⟩ := h.row hs
  have hlen := hrow.len
  have hone := hrow.one
  go_enter Try.func31, Try.ntmps31
  go_wp2_with (first
    | (refine wpList_load_mid rfl 33 _ rfl B o rfl cs _ hrg Try.underlying33 rfl (by rw [hlen]; kernel_rfl) ?_)
    | (refine wpList_store_mid rfl 33 _ _ rfl w.heap.size 0 cs.toArray rfl rfl (there_new _ _ _ _ (by simp [hlen])) (by rw [List.size_toArray, hlen]; kernel_rfl) (all_oneCell_toArray hone) ?_))
  go_ret
  exact ⟨rfl, hrow.at (World.rangeAt_setCells_same _ _ _ _ (there_new _ _ _ _ (by simp [hlen]))) hs (fun i hi => (World.frozen?_setCells ..).trans (there_new _ _ _ 34 (by simp) i hi).2), below_setCells cs 0 _ (below_one _ _) (Nat.le_refl _)⟩

end Go.Proofs.Ytebhojbllhjkeaa
