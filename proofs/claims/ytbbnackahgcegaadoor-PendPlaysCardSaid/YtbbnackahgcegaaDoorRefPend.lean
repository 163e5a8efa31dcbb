/- The document's Pend: what each of its functions tells. -/
import Derived.Test.YtbbnackahgcegaaDoorBools
import Derived.Test.YtbbnackahgcegaaDoorPendLaw
namespace Go.Proofs.YtbbnackahgcegaaDoor
open Go.RowKit
set_option linter.all false

/-- the document's Pend, as cells: a truth for each level, and what it counted -/
def pcells (b r m : Int) : List Value := bcells b ++ [.int .i64 r, .int .i64 m]
abbrev pV (b r m : Int) : Value := .agg (pcells b r m).toArray
theorem pcells_length (b r m : Int) : (pcells b r m).length = 34 := by simp [pcells, bcells_length]
theorem pcells_get (b r m : Int) {i : Nat} (h : i < 32) : (pcells b r m)[i]? = some (.bool (b.toNat.testBit i)) := by
  unfold pcells
  rw [List.getElem?_append_left (by rw [bcells_length]; exact h)]
  exact bcells_get b h
theorem pcells_r (b r m : Int) : (pcells b r m)[32]? = some (.int .i64 r) := by
  unfold pcells
  rw [List.getElem?_append_right (by rw [bcells_length]; omega), bcells_length]
  rfl
theorem pcells_m (b r m : Int) : (pcells b r m)[33]? = some (.int .i64 m) := by
  unfold pcells
  rw [List.getElem?_append_right (by rw [bcells_length]; omega), bcells_length]
  rfl
theorem pcells_one (b r m : Int) : ∀ v ∈ pcells b r m, v.oneCell' = true := by
  intro v hv
  rcases List.mem_append.1 hv with h | h
  · exact bcells_one b v h
  · simp at h
    rcases h with rfl | rfl <;> rfl
theorem p34 : (Tryd.prog.info? 34).map (·.size) = some 34 := by kernel_rfl
theorem p34l (b r m : Int) : (Tryd.prog.info? 34).map (·.size) = some (pcells b r m).length := by rw [pcells_length]; exact p34
theorem p34s (b r m : Int) : (Tryd.prog.info? 34).map (·.size) = some (pcells b r m).toArray.size := by rw [List.size_toArray]; exact p34l b r m
theorem there34 {w : World} {B : Nat} (b r m : Int) (h : w.there B 0 34) : w.there B 0 (pcells b r m).toArray.size := by rw [List.size_toArray, pcells_length]; exact h

/-- block B holds the document's Pend -/
structure RP (w : World) (B : Nat) (b r m : Int) : Prop where
  ba : BA w B (fun i => b.toNat.testBit i)
  cr : w.cell? ⟨B, 32, none⟩ = some (.int .i64 r)
  cm : w.cell? ⟨B, 33, none⟩ = some (.int .i64 m)
  fr : w.frozen? ⟨B, 32, none⟩ = false
  fm : w.frozen? ⟨B, 33, none⟩ = false
theorem RP.lt {w : World} {B : Nat} {b r m : Int} (h : RP w B b r m) : B < w.heap.size := h.ba.lt
theorem RP.up {w w' : World} {B : Nat} {b r m : Int} (h : RP w B b r m) (hb : Below w.heap.size w w') : RP w' B b r m :=
  ⟨h.ba.up hb, (hb.cell (p := ⟨B, _, none⟩) h.lt).trans h.cr, (hb.cell (p := ⟨B, _, none⟩) h.lt).trans h.cm, (hb.frozen (p := ⟨B, _, none⟩) h.lt).trans h.fr, (hb.frozen (p := ⟨B, _, none⟩) h.lt).trans h.fm⟩
theorem RP.range {w : World} {B : Nat} {b r m : Int} (h : RP w B b r m) : w.rangeAt B 0 (pcells b r m) := by
  intro j v hj
  have hlt := (List.getElem?_eq_some_iff.1 hj).1
  rw [pcells_length] at hlt
  rw [Nat.zero_add]
  by_cases h1 : j < 32
  · rw [pcells_get b r m h1] at hj
    injection hj with hj
    rw [h.ba.c j h1, hj]
  · by_cases h2 : j = 32
    · subst h2
      rw [pcells_r] at hj
      injection hj with hj
      rw [h.cr, hj]
    · obtain rfl : j = 33 := by omega
      rw [pcells_m] at hj
      injection hj with hj
      rw [h.cm, hj]
theorem RP.there {w : World} {B : Nat} {b r m : Int} (h : RP w B b r m) : w.there B 0 34 := fun j hj => by
  rw [Nat.zero_add]
  by_cases h1 : j < 32
  · exact ⟨by rw [h.ba.c j h1]; rfl, h.ba.f j h1⟩
  · by_cases h2 : j = 32
    · subst h2; exact ⟨by rw [h.cr]; rfl, h.fr⟩
    · obtain rfl : j = 33 := by omega
      exact ⟨by rw [h.cm]; rfl, h.fm⟩
theorem RP.stored {w : World} {B : Nat} {b r m : Int} (h : w.there B 0 34) : RP (w.setCells B 0 (pcells b r m)) B b r m := by
  have hr := World.rangeAt_setCells_same w B 0 (pcells b r m) (by rw [pcells_length]; exact h)
  have hf : ∀ i, i < 34 → (w.setCells B 0 (pcells b r m)).frozen? ⟨B, i, none⟩ = false := fun i hi => by
    rw [World.frozen?_setCells]
    have := (h i hi).2
    rwa [Nat.zero_add] at this
  refine ⟨⟨fun i hi => ?_, fun i hi => hf i (by omega)⟩, ?_, ?_, hf _ (by omega), hf _ (by omega)⟩
  · have := hr i _ (pcells_get b r m hi)
    rwa [Nat.zero_add] at this
  · have := hr 32 _ (pcells_r b r m)
    rwa [Nat.zero_add] at this
  · have := hr 33 _ (pcells_m b r m)
    rwa [Nat.zero_add] at this
theorem RP.boxed (w : World) (b r m : Int) (t : TypeId) : RP (w.alloc (.cells (pcells b r m).toArray t)) w.heap.size b r m := by
  have hc : ∀ i v, (pcells b r m)[i]? = some v → (w.alloc (.cells (pcells b r m).toArray t)).cell? ⟨w.heap.size, i, none⟩ = some v := fun i v hi =>
    (World.cell?_alloc_at _ _ _ _ rfl).trans (by rw [List.getElem?_toArray]; exact hi)
  exact ⟨⟨fun i hi => hc i _ (pcells_get b r m hi), fun i hi => World.frozen?_alloc_at _ _ _ _ rfl⟩, hc 32 _ (pcells_r b r m), hc 33 _ (pcells_m b r m), World.frozen?_alloc_at _ _ _ _ rfl, World.frozen?_alloc_at _ _ _ _ rfl⟩
theorem RP.new (w : World) (t : TypeId) : RP (w.alloc (.cells #[.bool false, .bool false, .bool false, .bool false, .bool false, .bool false, .bool false, .bool false, .bool false, .bool false, .bool false, .bool false, .bool false, .bool false, .bool false, .bool false, .bool false, .bool false, .bool false, .bool false, .bool false, .bool false, .bool false, .bool false, .bool false, .bool false, .bool false, .bool false, .bool false, .bool false, .bool false, .bool false, .int .i64 0, .int .i64 0] t)) w.heap.size 0 0 0 := by
  have h := RP.boxed w 0 0 0 t
  have e : (pcells 0 0 0).toArray = #[.bool false, .bool false, .bool false, .bool false, .bool false, .bool false, .bool false, .bool false, .bool false, .bool false, .bool false, .bool false, .bool false, .bool false, .bool false, .bool false, .bool false, .bool false, .bool false, .bool false, .bool false, .bool false, .bool false, .bool false, .bool false, .bool false, .bool false, .bool false, .bool false, .bool false, .bool false, .bool false, .int .i64 0, .int .i64 0] := by kernel_rfl
  rwa [e] at h
theorem RP.setb {w : World} {B k : Nat} {b r m : Int} (h : RP w B b r m) (hk : k < 32) (x : Bool) (b0 : 0 ≤ b) (b1 : b ≤ 4294967295) : RP (w.setCell ⟨B, k, none⟩ (.bool x)) B (putX b k x) r m :=
  ⟨(h.ba.set hk x).congr (fun i hi => (tb_putX x b0 b1 hk i).symm), (set_other (by omega)).trans h.cr, (set_other (by omega)).trans h.cm, by rw [set_frozen]; exact h.fr, by rw [set_frozen]; exact h.fm⟩
theorem RP.setr {w : World} {B : Nat} {b r m x : Int} (h : RP w B b r m) : RP (w.setCell ⟨B, 32, none⟩ (.int .i64 x)) B b x m :=
  ⟨⟨fun i hi => (set_other (by omega)).trans (h.ba.c i hi), fun i hi => by rw [set_frozen]; exact h.ba.f i hi⟩, set_same h.cr, (set_other (by omega)).trans h.cm, by rw [set_frozen]; exact h.fr, by rw [set_frozen]; exact h.fm⟩
theorem RP.setm {w : World} {B : Nat} {b r m x : Int} (h : RP w B b r m) : RP (w.setCell ⟨B, 33, none⟩ (.int .i64 x)) B b r x :=
  ⟨⟨fun i hi => (set_other (by omega)).trans (h.ba.c i hi), fun i hi => by rw [set_frozen]; exact h.ba.f i hi⟩, (set_other (by omega)).trans h.cr, set_same h.cm, by rw [set_frozen]; exact h.fr, by rw [set_frozen]; exact h.fm⟩
theorem there_up {w w' : World} {B n : Nat} (h : w.there B 0 n) (hB : B < w.heap.size) (hb : Below w.heap.size w w') : w'.there B 0 n := fun j hj => by
  have := h j hj
  rw [hb.cell (p := ⟨B, 0 + j, none⟩) hB, hb.frozen (p := ⟨B, 0 + j, none⟩) hB]
  exact this
theorem there_set {w : World} {B n : Nat} (h : w.there B 0 n) {q : Addr} (hq : q.block ≠ B) (v : Value) : (w.setCell q v).there B 0 n := fun j hj => by
  have := h j hj
  rw [set_far hq, set_frozen]
  exact this

/-- the memory of Raise and Take: the Pend, and where the answer goes -/
structure PB (w W : World) (b r m : Int) : Prop where
  p : RP W w.heap.size b r m
  t : W.there (w.heap.size + 1) 0 34
  bel : Below w.heap.size w W
theorem PB.new (w : World) (b r m : Int) (t t' : TypeId) : PB w ((w.alloc (.cells (pcells b r m).toArray t)).alloc (.cells #[.bool false, .bool false, .bool false, .bool false, .bool false, .bool false, .bool false, .bool false, .bool false, .bool false, .bool false, .bool false, .bool false, .bool false, .bool false, .bool false, .bool false, .bool false, .bool false, .bool false, .bool false, .bool false, .bool false, .bool false, .bool false, .bool false, .bool false, .bool false, .bool false, .bool false, .bool false, .bool false, .int .i64 0, .int .i64 0] t')) b r m := by
  refine ⟨(RP.boxed w b r m t).up (below_one _ _), ?_, below_two _ _ _⟩
  have := (RP.new (w.alloc (.cells (pcells b r m).toArray t)) t').there
  rwa [show (w.alloc (.cells (pcells b r m).toArray t)).heap.size = w.heap.size + 1 by simp] at this
theorem PB.setb {w W : World} {k : Nat} {b r m : Int} (h : PB w W b r m) (hk : k < 32) (x : Bool) (b0 : 0 ≤ b) (b1 : b ≤ 4294967295) : PB w (W.setCell ⟨w.heap.size, k, none⟩ (.bool x)) (putX b k x) r m :=
  ⟨h.p.setb hk x b0 b1, there_set h.t (by show w.heap.size ≠ w.heap.size + 1; omega) _, h.bel.setCell (Nat.le_refl _) _⟩
theorem PB.setr {w W : World} {b r m x : Int} (h : PB w W b r m) : PB w (W.setCell ⟨w.heap.size, 32, none⟩ (.int .i64 x)) b x m :=
  ⟨h.p.setr, there_set h.t (by show w.heap.size ≠ w.heap.size + 1; omega) _, h.bel.setCell (Nat.le_refl _) _⟩
theorem PB.setm {w W : World} {b r m x : Int} (h : PB w W b r m) : PB w (W.setCell ⟨w.heap.size, 33, none⟩ (.int .i64 x)) b r x :=
  ⟨h.p.setm, there_set h.t (by show w.heap.size ≠ w.heap.size + 1; omega) _, h.bel.setCell (Nat.le_refl _) _⟩

set_option maxRecDepth 100000 in
set_option maxHeartbeats 1000000 in
theorem fraise_lo (k b r m : Int) (w : World) (hk : k < 0) : Calls Tryd.prog 17 #[pV b r m, .int .i64 k] w fun e w' => e = .returned (.tuple #[pV b r m, .bool false]) ∧ Below w.heap.size w w' := by
  have d : decide (k < 0) = true := decide_eq_true hk
  have St0 := Lib.hid (PB.new w b r m 34 34)
  go_enter Tryd.func17, Tryd.ntmps17
  go_upto_region 1 with fail
  refine wp_gen (fun W => PB w W b r m) St0.out ?_
  clear St0
  intro W hP
  have hr := Lib.hid hP.p.range
  have ht := Lib.hid hP.t
  have hld := Lib.hid (run_loadVar_mid (P := Tryd.prog) (W.setCells (w.heap.size + 1) 0 (pcells b r m)) (w.heap.size + 1) 0 34 (pcells b r m) _ (RP.stored ht.out).range Tryd.underlying34 rfl (p34l b r m))
  go_wp2_with (first
    | (refine wpList_load_mid rfl 34 _ rfl w.heap.size 0 rfl (pcells b r m) _ hr.out Tryd.underlying34 rfl (p34l b r m) ?_)
    | (refine wpList_store_mid rfl 34 _ _ rfl (w.heap.size + 1) 0 (pcells b r m).toArray rfl rfl (there34 b r m ht.out) (p34s b r m) (all_oneCell_toArray (pcells_one b r m)) ?_))
  exact bodyPost_ret (v := .tuple #[pV b r m, .bool false]) (results_row2 Tryd.results17 rfl hld.out rfl) rfl ⟨rfl, below_setCells (pcells b r m) 0 _ hP.bel (by omega)⟩

set_option maxRecDepth 100000 in
set_option maxHeartbeats 1000000 in
theorem fraise_hi (k b r m : Int) (w : World) (hk : 31 < k) : Calls Tryd.prog 17 #[pV b r m, .int .i64 k] w fun e w' => e = .returned (.tuple #[pV b r m, .bool false]) ∧ Below w.heap.size w w' := by
  have d : decide (k < 0) = false := decide_eq_false (by omega)
  have d2 : decide ((31 : Int) < k) = true := decide_eq_true hk
  have St0 := Lib.hid (PB.new w b r m 34 34)
  go_enter Tryd.func17, Tryd.ntmps17
  go_upto_region 1 with fail
  refine wp_gen (fun W => PB w W b r m) St0.out ?_
  clear St0
  intro W hP
  have hr := Lib.hid hP.p.range
  have ht := Lib.hid hP.t
  have hld := Lib.hid (run_loadVar_mid (P := Tryd.prog) (W.setCells (w.heap.size + 1) 0 (pcells b r m)) (w.heap.size + 1) 0 34 (pcells b r m) _ (RP.stored ht.out).range Tryd.underlying34 rfl (p34l b r m))
  go_wp2_with (first
    | (refine wpList_load_mid rfl 34 _ rfl w.heap.size 0 rfl (pcells b r m) _ hr.out Tryd.underlying34 rfl (p34l b r m) ?_)
    | (refine wpList_store_mid rfl 34 _ _ rfl (w.heap.size + 1) 0 (pcells b r m).toArray rfl rfl (there34 b r m ht.out) (p34s b r m) (all_oneCell_toArray (pcells_one b r m)) ?_))
  exact bodyPost_ret (v := .tuple #[pV b r m, .bool false]) (results_row2 Tryd.results17 rfl hld.out rfl) rfl ⟨rfl, below_setCells (pcells b r m) 0 _ hP.bel (by omega)⟩

set_option maxRecDepth 100000 in
set_option maxHeartbeats 1000000 in
theorem fraise_had (k : Nat) (b r m : Int) (w : World) (hk : k < 32) (hh : b.toNat.testBit k = true) (hm : -1000000 ≤ m ∧ m ≤ 1000000) : Calls Tryd.prog 17 #[pV b r m, .int .i64 k] w fun e w' => e = .returned (.tuple #[pV b r (m + 1), .bool false]) ∧ Below w.heap.size w w' := by
  have d : decide ((k : Int) < 0) = false := decide_eq_false (by omega)
  have d2 : decide ((31 : Int) < k) = false := decide_eq_false (by omega)
  have k1 : (k : Int) < 32 := by omega
  have St0 := Lib.hid (PB.new w b r m 34 34)
  go_enter Tryd.func17, Tryd.ntmps17
  go_upto_region 1 with fail
  refine wp_gen (fun W => PB w W b r m) St0.out ?_
  clear St0
  intro W hP
  have hc := hP.p.ba.c k hk
  simp only [hh] at hc
  have hcm := hP.p.cm
  have hfm := hP.p.fm
  have hP2 := hP.setm (x := m + 1)
  go_upto_region 5 with fail
  refine wp_gen (fun W => PB w W b r (m + 1)) hP2 ?_
  clear hc hcm hfm hP hP2
  clear W
  intro W hP
  have hr := Lib.hid hP.p.range
  have ht := Lib.hid hP.t
  have hld := Lib.hid (run_loadVar_mid (P := Tryd.prog) (W.setCells (w.heap.size + 1) 0 (pcells b r (m + 1))) (w.heap.size + 1) 0 34 (pcells b r (m + 1)) _ (RP.stored ht.out).range Tryd.underlying34 rfl (p34l b r (m + 1)))
  go_wp2_with (first
    | (refine wpList_load_mid rfl 34 _ rfl w.heap.size 0 rfl (pcells b r (m + 1)) _ hr.out Tryd.underlying34 rfl (p34l b r (m + 1)) ?_)
    | (refine wpList_store_mid rfl 34 _ _ rfl (w.heap.size + 1) 0 (pcells b r (m + 1)).toArray rfl rfl (there34 b r (m + 1) ht.out) (p34s b r (m + 1)) (all_oneCell_toArray (pcells_one b r (m + 1))) ?_))
  exact bodyPost_ret (v := .tuple #[pV b r (m + 1), .bool false]) (results_row2 Tryd.results17 rfl hld.out rfl) rfl ⟨rfl, below_setCells (pcells b r (m + 1)) 0 _ hP.bel (by omega)⟩

set_option maxRecDepth 100000 in
set_option maxHeartbeats 1000000 in
theorem fraise_new (k : Nat) (b r m : Int) (w : World) (hk : k < 32) (hh : b.toNat.testBit k = false) (hr : -1000000 ≤ r ∧ r ≤ 1000000) (b0 : 0 ≤ b) (b1 : b ≤ 4294967295) : Calls Tryd.prog 17 #[pV b r m, .int .i64 k] w fun e w' => e = .returned (.tuple #[pV (putT b k) (r + 1) m, .bool true]) ∧ Below w.heap.size w w' := by
  have d : decide ((k : Int) < 0) = false := decide_eq_false (by omega)
  have d2 : decide ((31 : Int) < k) = false := decide_eq_false (by omega)
  have k1 : (k : Int) < 32 := by omega
  have St0 := Lib.hid (PB.new w b r m 34 34)
  go_enter Tryd.func17, Tryd.ntmps17
  go_upto_region 1 with fail
  refine wp_gen (fun W => PB w W b r m) St0.out ?_
  clear St0
  intro W hP
  have hc := hP.p.ba.c k hk
  simp only [hh] at hc
  have hf := hP.p.ba.f k hk
  have hP2 := hP.setb hk true b0 b1
  go_upto_region 7 with fail
  refine wp_gen (fun W => PB w W (putT b k) r m) hP2 ?_
  clear hc hf hP hP2
  clear W
  intro W hP
  have hcr := hP.p.cr
  have hfr := hP.p.fr
  have hP2 := hP.setr (x := r + 1)
  go_upto_region 8 with fail
  refine wp_gen (fun W => PB w W (putT b k) (r + 1) m) hP2 ?_
  clear hcr hfr hP hP2 hr
  clear W
  intro W hP
  have hr := Lib.hid hP.p.range
  have ht := Lib.hid hP.t
  have hld := Lib.hid (run_loadVar_mid (P := Tryd.prog) (W.setCells (w.heap.size + 1) 0 (pcells (putT b k) (r + 1) m)) (w.heap.size + 1) 0 34 (pcells (putT b k) (r + 1) m) _ (RP.stored ht.out).range Tryd.underlying34 rfl (p34l (putT b k) (r + 1) m))
  go_wp2_with (first
    | (refine wpList_load_mid rfl 34 _ rfl w.heap.size 0 rfl (pcells (putT b k) (r + 1) m) _ hr.out Tryd.underlying34 rfl (p34l (putT b k) (r + 1) m) ?_)
    | (refine wpList_store_mid rfl 34 _ _ rfl (w.heap.size + 1) 0 (pcells (putT b k) (r + 1) m).toArray rfl rfl (there34 (putT b k) (r + 1) m ht.out) (p34s (putT b k) (r + 1) m) (all_oneCell_toArray (pcells_one (putT b k) (r + 1) m)) ?_))
  exact bodyPost_ret (v := .tuple #[pV (putT b k) (r + 1) m, .bool true]) (results_row2 Tryd.results17 rfl hld.out rfl) rfl ⟨rfl, below_setCells (pcells (putT b k) (r + 1) m) 0 _ hP.bel (by omega)⟩

theorem fraise_any (k b r m : Int) (w : World) (hr : -1000000 ≤ r ∧ r ≤ 1000000) (hm : -1000000 ≤ m ∧ m ≤ 1000000) (b0 : 0 ≤ b) (b1 : b ≤ 4294967295) :
    Calls Tryd.prog 17 #[pV b r m, .int .i64 k] w fun e w' => e = .returned (.tuple #[pV (raiseW b k) (raiseR b r k) (raiseM b m k), .bool (raiseB b k)]) ∧ Below w.heap.size w w' := by
  by_cases h0 : k < 0
  · have hl : levB k = false := by simp [levB]; omega
    simp only [raiseW, raiseR, raiseM, raiseB, hl]
    exact fraise_lo k b r m w h0
  · by_cases h1 : 31 < k
    · have hl : levB k = false := by simp [levB]; omega
      simp only [raiseW, raiseR, raiseM, raiseB, hl]
      exact fraise_hi k b r m w h1
    · obtain ⟨n, rfl⟩ := Int.eq_ofNat_of_zero_le (show 0 ≤ k by omega)
      have hl : levB n = true := by simp [levB]; omega
      have hb : hasB b n = b.toNat.testBit n := hasB_in _ _ (by omega) (by omega)
      cases ht : b.toNat.testBit n
      · rw [ht] at hb
        simp only [raiseW, raiseR, raiseM, raiseB, hl, hb]
        exact fraise_new n b r m w (by omega) ht hr b0 b1
      · rw [ht] at hb
        simp only [raiseW, raiseR, raiseM, raiseB, hl, hb]
        exact fraise_had n b r m w (by omega) ht hm

set_option maxRecDepth 100000 in
set_option maxHeartbeats 1000000 in
theorem ftakep_lo (k b r m : Int) (w : World) (hk : k < 0) : Calls Tryd.prog 18 #[pV b r m, .int .i64 k] w fun e w' => e = .returned (.tuple #[pV b r m, .bool false]) ∧ Below w.heap.size w w' := by
  have d : decide (k < 0) = true := decide_eq_true hk
  have St0 := Lib.hid (PB.new w b r m 34 34)
  go_enter Tryd.func18, Tryd.ntmps18
  go_upto_region 1 with fail
  refine wp_gen (fun W => PB w W b r m) St0.out ?_
  clear St0
  intro W hP
  have hr := Lib.hid hP.p.range
  have ht := Lib.hid hP.t
  have hld := Lib.hid (run_loadVar_mid (P := Tryd.prog) (W.setCells (w.heap.size + 1) 0 (pcells b r m)) (w.heap.size + 1) 0 34 (pcells b r m) _ (RP.stored ht.out).range Tryd.underlying34 rfl (p34l b r m))
  go_wp2_with (first
    | (refine wpList_load_mid rfl 34 _ rfl w.heap.size 0 rfl (pcells b r m) _ hr.out Tryd.underlying34 rfl (p34l b r m) ?_)
    | (refine wpList_store_mid rfl 34 _ _ rfl (w.heap.size + 1) 0 (pcells b r m).toArray rfl rfl (there34 b r m ht.out) (p34s b r m) (all_oneCell_toArray (pcells_one b r m)) ?_))
  exact bodyPost_ret (v := .tuple #[pV b r m, .bool false]) (results_row2 Tryd.results18 rfl hld.out rfl) rfl ⟨rfl, below_setCells (pcells b r m) 0 _ hP.bel (by omega)⟩

set_option maxRecDepth 100000 in
set_option maxHeartbeats 1000000 in
theorem ftakep_hi (k b r m : Int) (w : World) (hk : 31 < k) : Calls Tryd.prog 18 #[pV b r m, .int .i64 k] w fun e w' => e = .returned (.tuple #[pV b r m, .bool false]) ∧ Below w.heap.size w w' := by
  have d : decide (k < 0) = false := decide_eq_false (by omega)
  have d2 : decide ((31 : Int) < k) = true := decide_eq_true hk
  have St0 := Lib.hid (PB.new w b r m 34 34)
  go_enter Tryd.func18, Tryd.ntmps18
  go_upto_region 1 with fail
  refine wp_gen (fun W => PB w W b r m) St0.out ?_
  clear St0
  intro W hP
  have hr := Lib.hid hP.p.range
  have ht := Lib.hid hP.t
  have hld := Lib.hid (run_loadVar_mid (P := Tryd.prog) (W.setCells (w.heap.size + 1) 0 (pcells b r m)) (w.heap.size + 1) 0 34 (pcells b r m) _ (RP.stored ht.out).range Tryd.underlying34 rfl (p34l b r m))
  go_wp2_with (first
    | (refine wpList_load_mid rfl 34 _ rfl w.heap.size 0 rfl (pcells b r m) _ hr.out Tryd.underlying34 rfl (p34l b r m) ?_)
    | (refine wpList_store_mid rfl 34 _ _ rfl (w.heap.size + 1) 0 (pcells b r m).toArray rfl rfl (there34 b r m ht.out) (p34s b r m) (all_oneCell_toArray (pcells_one b r m)) ?_))
  exact bodyPost_ret (v := .tuple #[pV b r m, .bool false]) (results_row2 Tryd.results18 rfl hld.out rfl) rfl ⟨rfl, below_setCells (pcells b r m) 0 _ hP.bel (by omega)⟩

set_option maxRecDepth 100000 in
set_option maxHeartbeats 1000000 in
theorem ftakep_not (k : Nat) (b r m : Int) (w : World) (hk : k < 32) (hh : b.toNat.testBit k = false) : Calls Tryd.prog 18 #[pV b r m, .int .i64 k] w fun e w' => e = .returned (.tuple #[pV b r m, .bool false]) ∧ Below w.heap.size w w' := by
  have d : decide ((k : Int) < 0) = false := decide_eq_false (by omega)
  have d2 : decide ((31 : Int) < k) = false := decide_eq_false (by omega)
  have k1 : (k : Int) < 32 := by omega
  have St0 := Lib.hid (PB.new w b r m 34 34)
  go_enter Tryd.func18, Tryd.ntmps18
  go_upto_region 1 with fail
  refine wp_gen (fun W => PB w W b r m) St0.out ?_
  clear St0
  intro W hP
  have hc := hP.p.ba.c k hk
  simp only [hh] at hc
  have hr := Lib.hid hP.p.range
  have ht := Lib.hid hP.t
  have hld := Lib.hid (run_loadVar_mid (P := Tryd.prog) (W.setCells (w.heap.size + 1) 0 (pcells b r m)) (w.heap.size + 1) 0 34 (pcells b r m) _ (RP.stored ht.out).range Tryd.underlying34 rfl (p34l b r m))
  go_wp2_with (first
    | (refine wpList_load_mid rfl 34 _ rfl w.heap.size 0 rfl (pcells b r m) _ hr.out Tryd.underlying34 rfl (p34l b r m) ?_)
    | (refine wpList_store_mid rfl 34 _ _ rfl (w.heap.size + 1) 0 (pcells b r m).toArray rfl rfl (there34 b r m ht.out) (p34s b r m) (all_oneCell_toArray (pcells_one b r m)) ?_))
  exact bodyPost_ret (v := .tuple #[pV b r m, .bool false]) (results_row2 Tryd.results18 rfl hld.out rfl) rfl ⟨rfl, below_setCells (pcells b r m) 0 _ hP.bel (by omega)⟩

set_option maxRecDepth 100000 in
set_option maxHeartbeats 1000000 in
theorem ftakep_had (k : Nat) (b r m : Int) (w : World) (hk : k < 32) (hh : b.toNat.testBit k = true) (b0 : 0 ≤ b) (b1 : b ≤ 4294967295) : Calls Tryd.prog 18 #[pV b r m, .int .i64 k] w fun e w' => e = .returned (.tuple #[pV (putF b k) r m, .bool true]) ∧ Below w.heap.size w w' := by
  have d : decide ((k : Int) < 0) = false := decide_eq_false (by omega)
  have d2 : decide ((31 : Int) < k) = false := decide_eq_false (by omega)
  have k1 : (k : Int) < 32 := by omega
  have St0 := Lib.hid (PB.new w b r m 34 34)
  go_enter Tryd.func18, Tryd.ntmps18
  go_upto_region 1 with fail
  refine wp_gen (fun W => PB w W b r m) St0.out ?_
  clear St0
  intro W hP
  have hc := hP.p.ba.c k hk
  simp only [hh] at hc
  have hf := hP.p.ba.f k hk
  have hP2 := hP.setb hk false b0 b1
  go_upto_region 4 with fail
  refine wp_gen (fun W => PB w W (putF b k) r m) hP2 ?_
  clear hc hf hP hP2
  clear W
  intro W hP
  have hr := Lib.hid hP.p.range
  have ht := Lib.hid hP.t
  have hld := Lib.hid (run_loadVar_mid (P := Tryd.prog) (W.setCells (w.heap.size + 1) 0 (pcells (putF b k) r m)) (w.heap.size + 1) 0 34 (pcells (putF b k) r m) _ (RP.stored ht.out).range Tryd.underlying34 rfl (p34l (putF b k) r m))
  go_wp2_with (first
    | (refine wpList_load_mid rfl 34 _ rfl w.heap.size 0 rfl (pcells (putF b k) r m) _ hr.out Tryd.underlying34 rfl (p34l (putF b k) r m) ?_)
    | (refine wpList_store_mid rfl 34 _ _ rfl (w.heap.size + 1) 0 (pcells (putF b k) r m).toArray rfl rfl (there34 (putF b k) r m ht.out) (p34s (putF b k) r m) (all_oneCell_toArray (pcells_one (putF b k) r m)) ?_))
  exact bodyPost_ret (v := .tuple #[pV (putF b k) r m, .bool true]) (results_row2 Tryd.results18 rfl hld.out rfl) rfl ⟨rfl, below_setCells (pcells (putF b k) r m) 0 _ hP.bel (by omega)⟩

theorem ftakep_any (k b r m : Int) (w : World) (b0 : 0 ≤ b) (b1 : b ≤ 4294967295) :
    Calls Tryd.prog 18 #[pV b r m, .int .i64 k] w fun e w' => e = .returned (.tuple #[pV (if hasB b k = true then putF b k else b) r m, .bool (hasB b k)]) ∧ Below w.heap.size w w' := by
  by_cases h0 : k < 0
  · rw [hasB_no b k (by omega)]
    exact ftakep_lo k b r m w h0
  · by_cases h1 : 31 < k
    · rw [hasB_no b k (by omega)]
      exact ftakep_hi k b r m w h1
    · obtain ⟨n, rfl⟩ := Int.eq_ofNat_of_zero_le (show 0 ≤ k by omega)
      have hb : hasB b n = b.toNat.testBit n := hasB_in _ _ (by omega) (by omega)
      rw [hb]
      cases ht : b.toNat.testBit n
      · exact ftakep_not n b r m w (by omega) ht
      · exact ftakep_had n b r m w (by omega) ht b0 b1

/-- the memory of those that only read: the Pend in a box -/
structure PR (w W : World) (b r m : Int) : Prop where
  p : RP W w.heap.size b r m
  bel : Below w.heap.size w W
theorem PR.up {w W W' : World} {b r m : Int} (h : PR w W b r m) (hb : Below W.heap.size W W') : PR w W' b r m := ⟨h.p.up hb, below_trans h.bel hb⟩

set_option maxRecDepth 100000 in
set_option maxHeartbeats 1000000 in
theorem fpbits_any (b r m : Int) (w : World) (b0 : 0 ≤ b) (b1 : b ≤ 4294967295) : Calls Tryd.prog 20 #[pV b r m] w fun e w' => e = .returned (.int .u32 b) ∧ Below w.heap.size w w' := by
  have St0 : PR w _ b r m := ⟨RP.boxed w b r m 34, below_one _ _⟩
  go_enter Tryd.func20, Tryd.ntmps20
  go_upto_region 1 with fail
  refine wp_gen (fun W => PR w W b r m) St0 ?_
  clear St0
  intro W hP
  go_wp2
  go_loopw [3, 4] (fun x i wr => ∃ (k : Nat) (y : Int), k ≤ 32 ∧ x = .int .u32 y ∧ i = .int .i64 k ∧ 0 ≤ y ∧ y ≤ 4294967295 ∧ (∀ j, y.toNat.testBit j = (b.toNat.testBit j && decide (j < k))) ∧ PR w wr b r m) (fun _ i _ => 32 - (intOf i).toNat)
  case atStart => exact ⟨0, 0, by omega, rfl, rfl, by omega, by omega, fun j => by simp, hP⟩
  case round =>
    clear hP
    obtain ⟨k, y, hk, rfl, rfl, y0, y1, hy, hP⟩ := hrel
    have Hy := Lib.hid hy
    clear hy
    by_cases hlt : k < 32
    · have hcell := hP.p.ba.c k hlt
      have k1 : (k : Int) < 32 := by omega
      generalize hx : b.toNat.testBit k = x at hcell
      have hpu := fun W => fput_any y k x W y0 y1 hlt
      have hbd := putX_bd y k x y0 y1
      have Hn := Lib.hid (fun j => tb_putX (k := k) x y0 y1 hlt j)
      have Hx := Lib.hid hx
      clear hx
      generalize putX y k x = y' at *
      go_wp2_with (go_at_call 69; with_reducible refine (hpu _).mono ?_; rintro e w2 ⟨rfl, hb2⟩)
      have hP2 := hP.up hb2
      clear hP hb2 hpu hcell
      go_roundw
      case rel =>
        refine ⟨k + 1, y', by omega, rfl, by go_num, hbd.1, hbd.2, fun j => ?_, hP2⟩
        rw [Hn.out j]
        by_cases e : j = k
        · subst e; simp [Hx.out]
        · rw [if_neg e, Hy.out j]
          have : decide (j < k + 1) = decide (j < k) := by rw [decide_eq_decide]; omega
          rw [this]
      case measure => simp [intOf]; omega
    · obtain rfl : k = 32 := by omega
      have hyb : y = b := by
        have : y.toNat = b.toNat := by
          apply Nat.eq_of_testBit_eq
          intro j
          rw [Hy.out j]
          by_cases hj : j < 32
          · simp [hj]
          · rw [tb_high (w := b.toNat) (by omega) (by omega)]; simp
        omega
      subst hyb
      go_wp2
      go_ret
      exact ⟨rfl, hP.bel⟩

set_option maxRecDepth 100000 in
set_option maxHeartbeats 1000000 in
theorem fptop_any (b r m : Int) (w : World) (b0 : 0 ≤ b) (b1 : b ≤ 4294967295) : Calls Tryd.prog 21 #[pV b r m] w fun e w' => e = .returned (.int .i64 (hiI b)) ∧ Below w.heap.size w w' := by
  have St0 : PR w _ b r m := ⟨RP.boxed w b r m 34, below_one _ _⟩
  go_enter Tryd.func21, Tryd.ntmps21
  go_upto_region 1 with fail
  refine wp_gen (fun W => PR w W b r m) St0 ?_
  clear St0
  intro W hP
  go_wp2
  go_loop [3] (fun i => ∃ (k : Nat) (n : Int), k ≤ 32 ∧ n = (k : Int) - 1 ∧ i = .int .i64 n ∧ (∀ j, k ≤ j → b.toNat.testBit j = false)) (fun i => (intOf i + 1).toNat)
  case atStart => exact ⟨32, 31, by omega, rfl, rfl, fun j hj => tb_high (by omega) hj⟩
  case round =>
    obtain ⟨k, n, hk, hn, rfl, hj⟩ := hrel
    by_cases h0 : k = 0
    · subst h0
      obtain rfl : n = -1 := by omega
      have Hh := Lib.hid (bitLen_is (w := b.toNat) (c := 0) (by omega) hj (.inl rfl))
      clear hn hj
      go_wp2
      go_ret
      exact ⟨ret_int (by unfold hiI; rw [Hh.out]; rfl), hP.bel⟩
    · obtain ⟨q, rfl⟩ : ∃ q, k = q + 1 := ⟨k - 1, by omega⟩
      obtain rfl : n = (q : Int) := by omega
      have hcell := hP.p.ba.c q (by omega)
      have q1 : (q : Int) < 32 := by omega
      cases hb : b.toNat.testBit q
      · rw [hb] at hcell
        have Hj := Lib.hid (show ∀ j, q ≤ j → b.toNat.testBit j = false from fun j hjq => by
          by_cases e : j = q
          · subst e; exact hb
          · exact hj j (by omega))
        clear hn hj hb
        go_wp2
        go_round
        case rel => exact ⟨q, (q : Int) - 1, by omega, rfl, by go_num, Hj.out⟩
        case measure => simp [intOf]
      · rw [hb] at hcell
        have Hh := Lib.hid (bitLen_is (w := b.toNat) (c := q + 1) (by omega) hj (.inr hb))
        clear hn hj hb
        go_wp2
        go_ret
        exact ⟨ret_int (by unfold hiI; rw [Hh.out]; omega), hP.bel⟩

set_option maxRecDepth 100000 in
set_option maxHeartbeats 1000000 in
theorem fpabove_any (b r m l : Int) (w : World) (b0 : 0 ≤ b) (b1 : b ≤ 4294967295) : Calls Tryd.prog 23 #[pV b r m, .int .i64 l] w fun e w' => e = .returned (.int .i64 (aboveI b l)) ∧ Below w.heap.size w w' := by
  have St0 : PR w _ b r m := ⟨RP.boxed w b r m 34, below_one _ _⟩
  have ht := fun W => fptop_any b r m W b0 b1
  have Ha := Lib.hid (show aboveI b l = if l < hiI b then hiI b else -1 from rfl)
  generalize hiI b = x at *
  go_enter Tryd.func23, Tryd.ntmps23
  go_upto_region 1 with fail
  refine wp_gen (fun W => PR w W b r m) St0 ?_
  clear St0
  intro W hP
  have hr := Lib.hid hP.p.range
  by_cases hl : l < x
  · go_wp2_with (first
      | (refine wpList_load_mid rfl 34 _ rfl w.heap.size 0 rfl (pcells b r m) _ hr.out Tryd.underlying34 rfl (p34l b r m) ?_)
      | (refine wpList_load_mid rfl 34 _ rfl w.heap.size 0 rfl (pcells b r m) _ hr2.out Tryd.underlying34 rfl (p34l b r m) ?_)
      | (go_at_call 21; with_reducible refine (ht _).mono ?_; rintro e w2 ⟨rfl, hb2⟩; first | (have hP3 := hP2.up hb2) | (have hP2 := hP.up hb2; have hr2 := Lib.hid hP2.p.range)))
    go_ret
    exact ⟨ret_int (by rw [Ha.out, if_pos (by omega)]), hP3.bel⟩
  · go_wp2_with (first
      | (refine wpList_load_mid rfl 34 _ rfl w.heap.size 0 rfl (pcells b r m) _ hr.out Tryd.underlying34 rfl (p34l b r m) ?_)
      | (go_at_call 21; with_reducible refine (ht _).mono ?_; rintro e w2 ⟨rfl, hb2⟩; have hP2 := hP.up hb2))
    go_ret
    exact ⟨ret_int (by rw [Ha.out, if_neg (by omega)]), hP2.bel⟩
end Go.Proofs.YtbbnackahgcegaaDoor
