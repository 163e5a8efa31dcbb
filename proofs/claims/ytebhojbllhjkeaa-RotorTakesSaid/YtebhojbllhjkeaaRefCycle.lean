/- The document's Cycle: by all that came. -/
import Derived.Test.YtebhojbllhjkeaaRotorSkip
import Derived.Deep.OwnRows
import Derived.Deep.MidRow
namespace Go.Proofs.Ytebhojbllhjkeaa
open Go.RowKit
set_option linter.all false
attribute [local go_sem] run_store_cx

/-- an array of whole numbers in block G -/
structure WA (w : World) (G M : Nat) (v : Nat → Int) : Prop where
  c : ∀ i, i < M → w.cell? ⟨G, i, none⟩ = some (.int .i64 (v i))
  f : ∀ i, i < M → w.frozen? ⟨G, i, none⟩ = false
  lt : G < w.heap.size
theorem WA.up {w w' : World} {G M : Nat} {v : Nat → Int} (h : WA w G M v) (hb : Below w.heap.size w w') : WA w' G M v :=
  ⟨fun i hi => (hb.cell (p := ⟨G, i, none⟩) h.lt).trans (h.c i hi), fun i hi => (hb.frozen (p := ⟨G, i, none⟩) h.lt).trans (h.f i hi), Nat.lt_of_lt_of_le h.lt hb.size⟩
theorem WA.far7 {w : World} {B G M : Nat} {v : Nat → Int} {z a c : Pt} {p : Int} (h : WA w G M v) (hB : G ≠ B) : WA (set7 w B z a c p) G M v :=
  ⟨fun i hi => (set7_far _ _ _ _ _ _ hB).trans (h.c i hi), fun i hi => (set7_frozen _ _ _ _ _ _).trans (h.f i hi), by rw [set7_size]; exact h.lt⟩
theorem WA.set {w : World} {G M : Nat} {v : Nat → Int} (h : WA w G M v) {i : Nat} (hi : i < M) (x : Int) : WA (w.setCell ⟨G, i, none⟩ (.int .i64 x)) G M (fun j => if j = i then x else v j) := by
  refine ⟨fun j hj => ?_, fun j hj => by rw [set_frozen]; exact h.f j hj, by simpa [World.setCell] using h.lt⟩
  by_cases e : j = i
  · subst e
    rw [set_same (h.c j hj), if_pos rfl]
  · rw [set_other e, if_neg e]
    exact h.c j hj
theorem WA.new (w : World) (M : Nat) (t : TypeId) : WA (w.alloc (.cells (madeCells #[.int .i64 0] M) t)) w.heap.size M (fun _ => 0) := by
  have hh : (w.alloc (.cells (madeCells #[.int .i64 0] M) t)).heap[w.heap.size]? = some (.cells (List.replicate M (.int .i64 0)).toArray t (0, 0)) := heap_made w M t
  refine ⟨fun i hi => ?_, fun i hi => ?_, by simp⟩
  · rw [cell_of_row _ _ _ _ _ _ hh]
    simp [hi]
  · exact World.frozen?_alloc_at _ _ _ _ rfl

/-- the document's Cycle's own memory -/
structure FC (w W : World) (G M : Nat) (z a c : Pt) (p : Int) (v : Nat → Int) : Prop where
  b : RB W w.heap.size z a c p
  wa : WA W G M v
  hG : w.heap.size < G
  bel : Below w.heap.size w W
theorem FC.up {w W W' : World} {G M : Nat} {z a c : Pt} {p : Int} {v : Nat → Int} (h : FC w W G M z a c p v) (hb : Below W.heap.size W W') : FC w W' G M z a c p v := ⟨h.b.up hb, h.wa.up hb, h.hG, below_trans h.bel hb⟩
theorem FC.setz {w W : World} {G M : Nat} {z a c z' : Pt} {p : Int} {v : Nat → Int} (h : FC w W G M z a c p v) : FC w (set7 W w.heap.size z' a c p) G M z' a c p v :=
  ⟨h.b.set7, h.wa.far7 (by have := h.hG; omega), h.hG, below_set7 h.bel (Nat.le_refl _)⟩
theorem FC.set {w W : World} {G M : Nat} {z a c : Pt} {p : Int} {v : Nat → Int} (h : FC w W G M z a c p v) {i : Nat} (hi : i < M) (x : Int) : FC w (W.setCell ⟨G, i, none⟩ (.int .i64 x)) G M z a c p (fun j => if j = i then x else v j) :=
  ⟨h.b.far (by have := h.hG; show G ≠ w.heap.size; omega) _, h.wa.set hi x, h.hG, h.bel.setCell (by have := h.hG; show w.heap.size ≤ G; omega) _⟩

/-- what the array tells of the first k points -/
def WInv (p : Int) (X : Nat → Pt) (k : Nat) (v : Nat → Int) : Prop :=
  (∀ i, i < k → v (codeP p (X i)) = (i : Int) + 1) ∧ ∀ c, v c = 0 ∨ ∃ i, i < k ∧ codeP p (X i) = c ∧ v c = (i : Int) + 1
theorem WInv.zero (p : Int) (X : Nat → Pt) : WInv p X 0 (fun _ => 0) := ⟨fun i hi => by omega, fun c => .inl rfl⟩
theorem WInv.old {p : Int} {X : Nat → Pt} {t l : Nat} {v : Nat → Int} (h : WInv p X (t + l) v) (ho : Orbit X t l) : v (codeP p (X (t + l))) = (t : Int) + 1 := by
  have hl := ho.1
  have e : X t = X (t + l) := (ho.2 t (t + l) (by omega)).2 ⟨Nat.le_refl _, by rw [show t + l - t = l by omega]; exact ⟨1, by omega⟩⟩
  rw [← e]
  exact h.1 t (by omega)
theorem WInv.fresh {p : Int} {X : Nat → Pt} {t l k : Nat} {v : Nat → Int} (h : WInv p X k v) (ho : Orbit X t l) (hi : ∀ n, inP p (X n)) (hk : k < t + l) : v (codeP p (X k)) = 0 := by
  rcases h.2 (codeP p (X k)) with h0 | ⟨i, hik, hc, _⟩
  · exact h0
  · have e := codeP_inj (hi i) (hi k) hc
    obtain ⟨h1, h2⟩ := (ho.2 i k hik).1 e
    have := Nat.le_of_dvd (by omega) h2
    omega
theorem WInv.next {p : Int} {X : Nat → Pt} {t l k : Nat} {v : Nat → Int} (h : WInv p X k v) (ho : Orbit X t l) (hi : ∀ n, inP p (X n)) (hk : k < t + l) : WInv p X (k + 1) (fun j => if j = codeP p (X k) then (k : Int) + 1 else v j) := by
  have hne : ∀ i, i < k → codeP p (X i) ≠ codeP p (X k) := fun i hik hc => by
    have e := codeP_inj (hi i) (hi k) hc
    obtain ⟨h1, h2⟩ := (ho.2 i k hik).1 e
    have := Nat.le_of_dvd (by omega) h2
    omega
  refine ⟨fun i hi2 => ?_, fun c => ?_⟩
  · by_cases e : i = k
    · subst e
      simp
    · simp only [if_neg (hne i (by omega))]
      exact h.1 i (by omega)
  · by_cases e : c = codeP p (X k)
    · exact .inr ⟨k, by omega, e.symm, by simp [e]⟩
    · simp only [if_neg e]
      rcases h.2 c with h0 | ⟨i, h1, h2, h3⟩
      · exact .inl h0
      · exact .inr ⟨i, by omega, h2, h3⟩

set_option maxRecDepth 10000 in
set_option maxHeartbeats 4000000 in
theorem fcycle_yes (z a c : Pt) (p : Int) (t l : Nat) (w : World) (h : rrB z a c p = true) (ho : Orbit (fun n => it (ap a c p) n z) t l) (htl : (t : Int) + l ≤ p * p) :
    Calls Try.prog 56 #[rotV z a c p] w fun e w' => e = .returned (.tuple #[.int .i64 t, .int .i64 l, .bool true]) ∧ Below w.heap.size w w' := by
  obtain ⟨hp, hz, ha, hcc⟩ := of_rrB h
  have hri := fun W => fright_any z a c p W
  rw [h] at hri
  have hin := fun k => inP.it hp.1 a c hz k
  have hnx := fun k W => fnext_yes (it (ap a c p) k z) a c p W (rrB_it h k)
  simp only [← it_succ] at hnx
  have hz0 : it (ap a c p) 0 z = z := rfl
  have hpp : 4 ≤ p * p ∧ p * p ≤ 1000000 := ⟨Int.mul_le_mul (a := 2) (b := 2) hp.1 hp.1 (by omega) (by omega), Int.mul_le_mul (c := 1000) (d := 1000) hp.2 hp.2 (by omega) (by omega)⟩
  obtain ⟨M, hM⟩ := Int.eq_ofNat_of_zero_le (show 0 ≤ p * p by omega)
  have hmk := fun W => run_make_row' (P := Try.prog) 29 3 (.int .i64 0) 8 Try.underlying29 (by kernel_rfl : (Try.prog.info? 3).map (fun i => (i.zero, i.size, i.bytes)) = some (some (.int .i64 0), 1, 8)) rfl .i64 .i64 M (by omega) (by omega) W
  have Hcode := Lib.hid (fun k => codeP_lt (hin k))
  have St0 := Lib.hid (RB.new w z a c p 73)
  have Bl0 := Lib.hid (below_one w (.cells #[.int .i64 z.1, .int .i64 z.2, .int .i64 a.1, .int .i64 a.2, .int .i64 c.1, .int .i64 c.2, .int .i64 p] 73))
  clear h
  generalize hX : (fun n => it (ap a c p) n z) = X at *
  have Hx : ∀ n, it (ap a c p) n z = X n := fun n => by rw [← hX]
  simp only [Hx] at hnx hz0 hin Hcode
  clear hX Hx
  have Hin := Lib.hid hin
  have Ho := Lib.hid ho
  clear hin ho
  rw [← hM] at hmk
  have HM := Lib.hid hM
  clear hM
  go_enter Try.func56, Try.ntmps56
  go_wp2_with (go_at_call 63; with_reducible refine (hri _).mono ?_; rintro e w1 ⟨rfl, hb1⟩; have st1 := St0.out.up hb1; have bb1 := below_trans Bl0.out hb1; obtain ⟨x0, x1, x2, x3, x4, x5, x6⟩ := st1.all)
  refine wp_gen (fun W => FC w W w1.heap.size M z a c p (fun _ => 0)) ⟨st1.up (below_one _ _), WA.new _ _ _, st1.lt, below_trans bb1 (below_one _ _)⟩ ?_
  clear x0 x1 x2 x3 x4 x5 x6 st1 bb1 hb1 hmk hri St0 Bl0
  intro W hT0
  generalize w1.heap.size = G at *
  clear w1
  have htl2 : t + l ≤ 1000000 := by omega
  go_loopw [6] (fun i wr => ∃ (k : Nat) (v : Nat → Int), k ≤ t + l ∧ i = .int .i64 ((k : Int) + 1) ∧ FC w wr G M (X k) a c p v ∧ WInv p X k v) (fun i _ => t + l + 1 - (intOf i).toNat)
  case atStart => exact ⟨0, _, Nat.zero_le _, rfl, by rw [hz0]; exact hT0, WInv.zero _ _⟩
  case round =>
    clear hT0
    obtain ⟨k, v, hk, rfl, hT, hv⟩ := hrel
    obtain ⟨x0, x1, x2, x3, x4, x5, x6, f0, f1, f2, f3, f4, f5, f6⟩ := hT.b
    obtain ⟨c1, c2, c3⟩ := Hcode.out k
    obtain ⟨y0, y1, y2, y3⟩ := Hin.out k
    have hM := HM.out
    have hcM : codeP p (X k) < M := by omega
    have hcell := hT.wa.c _ hcM
    have hfro := hT.wa.f _ hcM
    have hidx : (X k).1 * p + (X k).2 < (M : Int) := by omega
    have hm0 : 0 ≤ (X k).1 * p ∧ (X k).1 * p ≤ 1000000 := ⟨Int.mul_nonneg y0 (by omega), by omega⟩
    have hcn : codeP p (X k) = ((X k).1 * p + (X k).2).toNat := rfl
    rw [hcn] at hcell hfro
    clear hM c1
    by_cases hend : k = t + l
    · have hval : v (((X k).1 * p + (X k).2).toNat) = (t : Int) + 1 := by rw [← hcn, hend]; rw [hend] at hv; exact hv.old Ho.out
      rw [hval] at hcell
      have Hend := Lib.hid hend
      have kl : (k : Int) ≤ 1000000 := by omega
      have tl : (t : Int) ≤ 1000000 := by omega
      have e1 : IntKind.i64.wrap ((t : Int) + 1 - 1) = t := by rw [IntKind.wrap_i64]; omega
      have e2 : IntKind.i64.wrap ((k : Int) + 1 - ((t : Int) + 1)) = l := by rw [IntKind.wrap_i64]; omega
      have hbel := Lib.hid hT.bel
      clear hval hend hk hv hT hcn hnx htl htl2 hcM hfro
      go_upto_region 8 with fail
      go_quiet (fail)
      go_wp2
      exact bodyPost_ret (v := .tuple #[.int .i64 t, .int .i64 l, .bool true]) (by simp [results, Try.results56, go_sem]) rfl ⟨rfl, below_drewN hbel.out _⟩
    · have hval : v (((X k).1 * p + (X k).2).toNat) = 0 := by rw [← hcn]; exact hv.fresh Ho.out Hin.out (by omega)
      rw [hval] at hcell
      have kl : (k : Int) ≤ 1000000 := by omega
      have hT2 := (hT.set hcM ((k : Int) + 1))
      rw [hcn] at hT2
      have hv2 := Lib.hid (hv.next Ho.out Hin.out (by omega))
      rw [hcn] at hv2
      have Hlt := Lib.hid (show k < t + l by omega)
      clear hval hend hk hcn hv hT
      go_upto_region 10 with fail
      refine wp_gen (fun W => FC w W G M (X k) a c p (fun j => if j = ((X k).1 * p + (X k).2).toNat then (k : Int) + 1 else v j)) hT2 ?_
      clear x0 x1 x2 x3 x4 x5 x6 f0 f1 f2 f3 f4 f5 f6 hT2 hcell hfro c2 c3 hidx hm0 y0 y1 y2 y3
      intro W hT2
      obtain ⟨x0, x1, x2, x3, x4, x5, x6, f0, f1, f2, f3, f4, f5, f6⟩ := hT2.b
      go_wp2_with (go_at_call 59; with_reducible refine (hnx k _).mono ?_; rintro e w2 ⟨rfl, hb2⟩; have hT3 := hT2.up hb2; clear x0 x1 x2 x3 x4 x5 x6 f0 f1 f2 f3 f4 f5 f6; obtain ⟨x0, x1, x2, x3, x4, x5, x6, f0, f1, f2, f3, f4, f5, f6⟩ := hT3.b)
      have hT4 := hT3.setz (z' := X (k + 1))
      clear x0 x1 x2 x3 x4 x5 x6 f0 f1 f2 f3 f4 f5 f6 hT3 hT2 hb2
      go_roundw
      case rel => exact ⟨k + 1, _, by have := Hlt.out; omega, by go_num, hT4, hv2.out⟩
      case measure => have := Hlt.out; simp [intOf]; omega

set_option maxRecDepth 10000 in
set_option maxHeartbeats 1000000 in
theorem fcycle_no (z a c : Pt) (p : Int) (w : World) (h : rrB z a c p = false) :
    Calls Try.prog 56 #[rotV z a c p] w fun e w' => e = .returned (.tuple #[.int .i64 0, .int .i64 0, .bool false]) ∧ Below w.heap.size w w' := by
  have hri := fun W => fright_any z a c p W
  rw [h] at hri
  go_enter Try.func56, Try.ntmps56
  go_wp2_with (go_at_call 63; refine (hri _).mono ?_; rintro e w1 ⟨rfl, hb1⟩)
  exact bodyPost_ret (v := .tuple #[.int .i64 0, .int .i64 0, .bool false]) (by simp [results, Try.results56, go_sem]) rfl ⟨rfl, below_trans (below_one _ _) hb1⟩
end Go.Proofs.Ytebhojbllhjkeaa
