/- PendPlays: what any levels that are raised and taken answer, and what is pending then, is the document's (printed by wip/pendplays.py). -/
import Derived.Test.YtbbnackahgcegaaDoorRefPend
import Derived.Test.YtbbnackahgcegaaDoorPendLaw
import Derived.Test.YtbbnackahgcegaaDoorCount
import Derived.Test.YtbbnackahgcegaaDoorSame
import Derived.ProofKit
import Derived.OpenShut
import Derived.Deep.DeepCutAuto
import Derived.Deep.RegionHeld3
import Derived.ChangeOld
namespace Go.Proofs.YtbbnackahgcegaaDoor.pendPlays
open Go.ChangeShapes Go.WideShapes Go.ChangeAt Go.RowKit
set_option linter.all false

/-- the law's memory: the program's Pend, and the document's -/
structure LP (w W : World) (b r m : Int) : Prop where
  p : PendAt W w.heap.size 0 b r m
  x : RP W (w.heap.size + 1) b r m
  bel : Below w.heap.size w W
structure LQ (w W : World) (b r m b' r' m' : Int) : Prop where
  p : PendAt W w.heap.size 0 b r m
  x : RP W (w.heap.size + 1) b' r' m'
  bel : Below w.heap.size w W
theorem LP.up {w W W' : World} {b r m : Int} (h : LP w W b r m) (hb : Below W.heap.size W W') : LP w W' b r m := ⟨h.p.up hb, h.x.up hb, below_trans h.bel hb⟩
theorem LP.drew {w W : World} {b r m : Int} (h : LP w W b r m) : LP w W.drew b r m := h.up (Below.refl _ _).drew
theorem LP.drewN {w W : World} {b r m : Int} (h : LP w W b r m) (n : Nat) : LP w (W.drewN n) b r m := h.up (below_drewN (Below.refl _ _) n)
theorem LQ.up {w W W' : World} {b r m b' r' m' : Int} (h : LQ w W b r m b' r' m') (hb : Below W.heap.size W W') : LQ w W' b r m b' r' m' := ⟨h.p.up hb, h.x.up hb, below_trans h.bel hb⟩
theorem RP.only {w w' : World} {B g : Nat} {b r m : Int} (h : RP w B b r m) (hg : w.grownBy w' (some g)) (hne : B ≠ g) : RP w' B b r m := by
  have hc : ∀ i, w'.cell? ⟨B, i, none⟩ = w.cell? ⟨B, i, none⟩ := fun i => only_cell hg (p := ⟨B, i, none⟩) h.lt hne
  have hf : ∀ i, w'.frozen? ⟨B, i, none⟩ = w.frozen? ⟨B, i, none⟩ := fun i => only_frozen hg (p := ⟨B, i, none⟩) h.lt hne
  exact ⟨⟨fun i hi => (hc i).trans (h.ba.c i hi), fun i hi => (hf i).trans (h.ba.f i hi)⟩, (hc _).trans h.cr, (hc _).trans h.cm, (hf _).trans h.fr, (hf _).trans h.fm⟩
theorem LP.stepP {w W W' : World} {b r m b' r' m' : Int} (h : LP w W b r m) (hp : PendAt W' w.heap.size 0 b' r' m') (hg : W.grownBy W' (some w.heap.size)) : LQ w W' b' r' m' b r m :=
  ⟨hp, RP.only h.x hg (by omega), h.bel.grown hg h.bel.size (fun k hk => by injection hk with hk; omega)⟩
theorem LQ.stepX {w W : World} {b r m b' r' m' b2 r2 m2 : Int} (h : LQ w W b r m b' r' m') : LQ w (W.setCells (w.heap.size + 1) 0 (pcells b2 r2 m2)) b r m b2 r2 m2 := by
  have hc : ∀ i, (W.setCells (w.heap.size + 1) 0 (pcells b2 r2 m2)).cell? ⟨w.heap.size, i, none⟩ = W.cell? ⟨w.heap.size, i, none⟩ := fun i =>
    World.cell?_setCells_out _ _ _ _ _ (fun hb _ => by have : w.heap.size = w.heap.size + 1 := hb; omega)
  have hf : ∀ i, (W.setCells (w.heap.size + 1) 0 (pcells b2 r2 m2)).frozen? ⟨w.heap.size, i, none⟩ = W.frozen? ⟨w.heap.size, i, none⟩ := fun i => World.frozen?_setCells ..
  exact ⟨⟨(hc _).trans h.p.cb, (hc _).trans h.p.cr, (hc _).trans h.p.cm, (hf _).trans h.p.fb, (hf _).trans h.p.fr, (hf _).trans h.p.fm, h.p.lo, h.p.hi⟩, RP.stored h.x.there, below_setCells _ 0 _ h.bel (by omega)⟩
theorem LQ.same {w W : World} {b r m : Int} (h : LQ w W b r m b r m) : LP w W b r m := ⟨h.p, h.x, h.bel⟩
theorem LP.new (w : World) (t t' : TypeId) : LP w ((w.alloc (.cells #[.int .u32 0, .int .i64 0, .int .i64 0] t)).alloc (.cells #[.bool false, .bool false, .bool false, .bool false, .bool false, .bool false, .bool false, .bool false, .bool false, .bool false, .bool false, .bool false, .bool false, .bool false, .bool false, .bool false, .bool false, .bool false, .bool false, .bool false, .bool false, .bool false, .bool false, .bool false, .bool false, .bool false, .bool false, .bool false, .bool false, .bool false, .bool false, .bool false, .int .i64 0, .int .i64 0] t')) 0 0 0 := by
  refine ⟨(PendAt.new w t).up (below_one _ _), ?_, below_two _ _ _⟩
  have := RP.new (w.alloc (.cells #[.int .u32 0, .int .i64 0, .int .i64 0] t)) t'
  rwa [show (w.alloc (.cells #[.int .u32 0, .int .i64 0, .int .i64 0] t)).heap.size = w.heap.size + 1 by simp] at this
theorem litStored {w W : World} (h : LP w W 0 0 0) : LP w (W.setCells (w.heap.size + 1) 0 (pcells 0 0 0)) 0 0 0 := by
  exact (LQ.stepX (b2 := 0) (r2 := 0) (m2 := 0) ⟨h.p, h.x, h.bel⟩).same
abbrev SP (w W : World) (b r m : Int) : Prop := W.rangeAt (w.heap.size + 1) 0 (pcells b r m) ∧ W.cell? ⟨w.heap.size + 1, 32, none⟩ = some (.int .i64 r) ∧ W.cell? ⟨w.heap.size + 1, 33, none⟩ = some (.int .i64 m)
theorem LP.sp {w W : World} {b r m : Int} (h : LP w W b r m) : SP w W b r m := ⟨h.x.range, h.x.cr, h.x.cm⟩

set_option maxRecDepth 100000 in
set_option maxHeartbeats 16000000 in
theorem walk (l : Int) (p : Option Addr) (cap : Nat) (zs : List Int) (w : World) (hm : zs.length ≤ 100) (hp : Reads w p zs) (hT : Tab w) :
    Calls Tryd.prog 4 #[.slice p zs.length cap, .int .i64 l] w fun e w' => e = .returned (.bool true) ∧ Below w.heap.size w w' := by
  have hgt : decide ((100 : Int) < (zs.length : Int)) = false := decide_eq_false (by omega)
  have Hp := Lib.hid hp.2
  clear hp
  have St0 := Lib.hid (LP.new w 27 34)
  go_enter Tryd.func4, Tryd.ntmps4
  have hth0 := Lib.hid St0.out.x.there
  go_upto_region 4 with (with_reducible show wpList _ _ _ (⟨none, Op.store 34 _ _, _, _, _, none⟩ :: _) _ _; refine wpList_store_mid rfl 34 _ _ rfl (w.heap.size + 1) 0 (pcells 0 0 0).toArray rfl rfl (there34 0 0 0 hth0.out) (p34s 0 0 0) (all_oneCell_toArray (pcells_one 0 0 0)) ?_)
  refine wp_gen (fun W => LP w W 0 0 0) (litStored St0.out) ?_
  clear hth0
  simp only [Act.put]
  clear St0
  intro W hst0
  go_wp2
  go_loopw [7] (fun i wr => ∃ (k : Nat) (b r m : Int), k ≤ zs.length ∧ i = .int .i64 k ∧ LP w wr b r m ∧ (0 ≤ r ∧ r ≤ k) ∧ (0 ≤ m ∧ m ≤ k)) (fun i _ => zs.length - (intOf i).toNat)
  case atStart => exact ⟨0, 0, 0, 0, Nat.zero_le _, rfl, hst0, by omega, by omega⟩
  case round =>
    clear hst0
    obtain ⟨k, b, r, m, hk, rfl, hst, hr, hmm⟩ := hrel
    by_cases hlt : k < zs.length
    · obtain ⟨g, off, rfl, hcells⟩ := Hp.out (by omega)
      have hb : g < w.heap.size := block_lt_of_cell (hcells k hlt)
      have hcell := (hst.bel.cell (p := ⟨g, off + k, none⟩) hb).trans (hcells k hlt)
      clear hcells
      generalize hz : zs.getD k 0 = z at hcell
      clear hz
      have hb0 := hst.p.lo
      have hb1 := hst.p.hi
      by_cases hz0 : 0 ≤ z
      · have hra := fun W h => praise_any w.heap.size 0 z b r m W h (by omega) (by omega)
        have hfa := fun W => fraise_any z b r m W (by omega) (by omega) hb0 hb1
        have hrb : 0 ≤ raiseR b r z ∧ raiseR b r z ≤ r + 1 := by unfold raiseR; split <;> omega
        have hmb : 0 ≤ raiseM b m z ∧ raiseM b m z ≤ m + 1 := by unfold raiseM; split <;> omega
        generalize raiseW b z = b2 at *
        generalize raiseR b r z = r2 at *
        generalize raiseM b m z = mm2 at *
        generalize raiseB b z = v at *
        go_upto_region 11 with (go_at_call 13; with_reducible refine (hra _ hst.p).mono ?_; rintro e w1 ⟨rfl, hp1, hg1⟩; have hq1 := hst.stepP hp1 hg1; have hrg := Lib.hid hq1.x.range)
        clear hst hp1 hg1 hra hcell
        go_upto_region 14 with (first
          | (with_reducible show wpList _ _ _ (⟨_, Op.load 34 _, _, _, _, none⟩ :: _) _ _; refine wpList_load_mid rfl 34 _ rfl (w.heap.size + 1) 0 rfl (pcells b r m) _ hrg.out Tryd.underlying34 rfl (p34l b r m) ?_)
          | (go_at_call 17; with_reducible refine (hfa _).mono ?_; rintro e w2 ⟨rfl, hb2⟩; have hq2 := hq1.up hb2; have hth := Lib.hid hq2.x.there)
          | (with_reducible show wpList _ _ _ (⟨none, Op.store 34 _ _, _, _, _, none⟩ :: _) _ _; refine wpList_store_mid rfl 34 _ _ rfl (w.heap.size + 1) 0 (pcells b2 r2 mm2).toArray rfl rfl (there34 b2 r2 mm2 hth.out) (p34s b2 r2 mm2) (all_oneCell_toArray (pcells_one b2 r2 mm2)) ?_))
        refine wp_gen (fun W => LP w W b2 r2 mm2) hq2.stepX.same ?_
        clear hq1 hq2 hrg hth hb2 hfa
        intro W hst
        try simp only [Act.put]
        have hcn := fun W h => pcount_any w.heap.size 0 b2 r2 mm2 W h
        go_upto_region 15 with (go_at_call 19; with_reducible refine (hcn _ hst.p).mono ?_; rintro e w3 ⟨rfl, n3, rfl⟩)
        refine wp_gen (fun W => LP w W b2 r2 mm2) (hst.drewN n3) ?_
        clear hst hcn
        intro W3 hst
        have hbt := fun W h => pbits_any w.heap.size 0 b2 r2 mm2 W h
        have htp := fun W h hT => ptop_any w.heap.size 0 b2 r2 mm2 W h hT
        have hab := fun W h hT => above_any w.heap.size 0 b2 r2 mm2 l W h hT
        have c0 := hst.p.lo
        have c1 := hst.p.hi
        have fbt := fun W => fpbits_any b2 r2 mm2 W c0 c1
        have ftp := fun W => fptop_any b2 r2 mm2 W c0 c1
        have fab := fun W => fpabove_any b2 r2 mm2 l W c0 c1
        generalize hiI b2 = hi at *
        generalize aboveI b2 l = ab at *
        refine wp_region_noPanic ?_
        refine wp_region_held_drew (S := fun W => SP w W b2 r2 mm2) (by kernel_rfl) (hst.drew.sp) (fun hHeld => ?_)
        refine wpAnyH_take (i := 0) (oi := _) (v := ?_) rfl (by kernel_rfl) (by kernel_rfl) (by kernel_rfl) (fun _ _ _ h => h) (Or.inl ⟨by kernel_rfl, ?_⟩) (by assumption) ?_
        rotate_left
        · intro w hSw; (try dsimp only at hSw); go_simp; try with_reducible rfl
        try simp only [Act.put, List.setIfInBounds_toArray, List.set_cons_zero, List.set_cons_succ]
        refine wpAnyH_take (i := 1) (oi := _) (v := ?_) rfl (by kernel_rfl) (by kernel_rfl) (by kernel_rfl) (fun _ _ _ h => h) (Or.inl ⟨by kernel_rfl, ?_⟩) (by assumption) ?_
        rotate_left
        · intro w hSw; (try dsimp only at hSw); go_simp; try with_reducible rfl
        try simp only [Act.put, List.setIfInBounds_toArray, List.set_cons_zero, List.set_cons_succ]
        refine wpAnyH_take (i := 2) (oi := _) (v := ?_) rfl (by kernel_rfl) (by kernel_rfl) (by kernel_rfl) (fun _ _ _ h => h) (Or.inl ⟨by kernel_rfl, ?_⟩) (by assumption) ?_
        rotate_left
        · intro w hSw; (try dsimp only at hSw); go_simp; try with_reducible rfl
        try simp only [Act.put, List.setIfInBounds_toArray, List.set_cons_zero, List.set_cons_succ]
        refine wpAnyH_take (i := 3) (oi := _) (v := ?_) rfl (by kernel_rfl) (by kernel_rfl) (by kernel_rfl) (fun _ _ _ h => h) (Or.inl ⟨by kernel_rfl, ?_⟩) (by assumption) ?_
        rotate_left
        · intro w hSw; (try dsimp only at hSw); go_simp; try with_reducible rfl
        try simp only [Act.put, List.setIfInBounds_toArray, List.set_cons_zero, List.set_cons_succ]
        refine wpAnyH_take (i := 4) (oi := _) (v := ?_) rfl (by kernel_rfl) (by kernel_rfl) (by kernel_rfl) (fun _ _ _ h => h) (Or.inl ⟨by kernel_rfl, ?_⟩) (by assumption) ?_
        rotate_left
        · intro w hSw; (try dsimp only at hSw); go_simp; try with_reducible rfl
        try simp only [Act.put, List.setIfInBounds_toArray, List.set_cons_zero, List.set_cons_succ]
        refine wpAnyH_take (i := 6) (oi := _) (v := .agg (pcells b2 r2 mm2).toArray) rfl (by kernel_rfl) (by kernel_rfl) (by kernel_rfl) (fun _ _ _ h => h) (yieldsIf_load_mid (by kernel_rfl) 34 _ rfl (w.heap.size + 1) 0 rfl (pcells b2 r2 mm2) _ (fun w' hS => hS.1) Tryd.underlying34 rfl (p34l b2 r2 mm2)) (by assumption) ?_
        try simp only [Act.put, List.setIfInBounds_toArray, List.set_cons_zero, List.set_cons_succ]
        refine wpAnyH_ready (rs := [5]) (by kernel_rfl) (by simp) ?_
        refine AllReadyH.cons (o := _) rfl (fun K hK => ?_) AllReadyH.nil
        go_simp
        go_at_call 15
        with_reducible refine (hbt _ hst.drew.p).mono ?_
        rintro e v1 ⟨rfl, rfl⟩
        refine hK.out _ _ (hst.drew.sp) ?_
        clear hHeld hK K
        intro hHeld
        try simp only [Act.put, List.setIfInBounds_toArray, List.set_cons_zero, List.set_cons_succ]
        refine wpAnyH_ready (rs := [7]) (by kernel_rfl) (by simp) ?_
        refine AllReadyH.cons (o := _) rfl (fun K hK => ?_) AllReadyH.nil
        go_simp
        go_at_call 20
        with_reducible refine (fbt _).mono ?_
        rintro e v2 ⟨rfl, hb1⟩
        have m1 := hst.drew.up hb1
        refine hK.out _ _ (m1.sp) ?_
        clear hHeld hK K
        intro hHeld
        try simp only [Act.put, List.setIfInBounds_toArray, List.set_cons_zero, List.set_cons_succ]
        refine wpAnyH_take (i := 8) (oi := _) (v := ?_) rfl (by kernel_rfl) (by kernel_rfl) (by kernel_rfl) (fun _ _ _ h => h) (Or.inl ⟨by kernel_rfl, ?_⟩) (by assumption) ?_
        rotate_left
        · intro w hSw; (try dsimp only at hSw); go_simp; try with_reducible rfl
        try simp only [Act.put, List.setIfInBounds_toArray, List.set_cons_zero, List.set_cons_succ]
        refine wpAnyH_take (i := 9) (oi := _) (v := ?_) rfl (by kernel_rfl) (by kernel_rfl) (by kernel_rfl) (fun _ _ _ h => h) (Or.inl ⟨by kernel_rfl, ?_⟩) (by assumption) ?_
        rotate_left
        · intro w hSw; (try dsimp only at hSw); go_simp; try with_reducible rfl
        try simp only [Act.put, List.setIfInBounds_toArray, List.set_cons_zero, List.set_cons_succ]
        refine wpAnyH_take (i := 10) (oi := _) (v := ?_) rfl (by kernel_rfl) (by kernel_rfl) (by kernel_rfl) (fun _ _ _ h => h) (Or.inl ⟨by kernel_rfl, ?_⟩) (by assumption) ?_
        rotate_left
        · intro w hSw; (try dsimp only at hSw); go_simp; try with_reducible rfl
        try simp only [Act.put, List.setIfInBounds_toArray, List.set_cons_zero, List.set_cons_succ]
        refine wpAnyH_take (i := 11) (oi := _) (v := ?_) rfl (by kernel_rfl) (by kernel_rfl) (by kernel_rfl) (fun _ _ _ h => h) (Or.inl ⟨by kernel_rfl, ?_⟩) (by assumption) ?_
        rotate_left
        · intro w hSw; (try dsimp only at hSw); go_simp; try with_reducible rfl
        try simp only [Act.put, List.setIfInBounds_toArray, List.set_cons_zero, List.set_cons_succ]
        refine wpAnyH_take (i := 13) (oi := _) (v := .agg (pcells b2 r2 mm2).toArray) rfl (by kernel_rfl) (by kernel_rfl) (by kernel_rfl) (fun _ _ _ h => h) (yieldsIf_load_mid (by kernel_rfl) 34 _ rfl (w.heap.size + 1) 0 rfl (pcells b2 r2 mm2) _ (fun w' hS => hS.1) Tryd.underlying34 rfl (p34l b2 r2 mm2)) (by assumption) ?_
        try simp only [Act.put, List.setIfInBounds_toArray, List.set_cons_zero, List.set_cons_succ]
        refine wpAnyH_ready (rs := [12]) (by kernel_rfl) (by simp) ?_
        refine AllReadyH.cons (o := _) rfl (fun K hK => ?_) AllReadyH.nil
        go_simp
        go_at_call 14
        with_reducible refine (htp _ m1.p (hT.below m1.bel)).mono ?_
        rintro e v3 ⟨rfl, rfl⟩
        refine hK.out _ _ (m1.sp) ?_
        clear hHeld hK K
        intro hHeld
        try simp only [Act.put, List.setIfInBounds_toArray, List.set_cons_zero, List.set_cons_succ]
        refine wpAnyH_ready (rs := [14]) (by kernel_rfl) (by simp) ?_
        refine AllReadyH.cons (o := _) rfl (fun K hK => ?_) AllReadyH.nil
        go_simp
        go_at_call 21
        with_reducible refine (ftp _).mono ?_
        rintro e v4 ⟨rfl, hb2⟩
        have m2 := m1.up hb2
        refine hK.out _ _ (m2.sp) ?_
        clear hHeld hK K
        intro hHeld
        try simp only [Act.put, List.setIfInBounds_toArray, List.set_cons_zero, List.set_cons_succ]
        refine wpAnyH_take (i := 15) (oi := _) (v := ?_) rfl (by kernel_rfl) (by kernel_rfl) (by kernel_rfl) (fun _ _ _ h => h) (Or.inl ⟨by kernel_rfl, ?_⟩) (by assumption) ?_
        rotate_left
        · intro w hSw; (try dsimp only at hSw); go_simp; try with_reducible rfl
        try simp only [Act.put, List.setIfInBounds_toArray, List.set_cons_zero, List.set_cons_succ]
        refine wpAnyH_take (i := 16) (oi := _) (v := ?_) rfl (by kernel_rfl) (by kernel_rfl) (by kernel_rfl) (fun _ _ _ h => h) (Or.inl ⟨by kernel_rfl, ?_⟩) (by assumption) ?_
        rotate_left
        · intro w hSw; (try dsimp only at hSw); go_simp; try with_reducible rfl
        try simp only [Act.put, List.setIfInBounds_toArray, List.set_cons_zero, List.set_cons_succ]
        refine wpAnyH_take (i := 17) (oi := _) (v := ?_) rfl (by kernel_rfl) (by kernel_rfl) (by kernel_rfl) (fun _ _ _ h => h) (Or.inl ⟨by kernel_rfl, ?_⟩) (by assumption) ?_
        rotate_left
        · intro w hSw; (try dsimp only at hSw); go_simp; try with_reducible rfl
        try simp only [Act.put, List.setIfInBounds_toArray, List.set_cons_zero, List.set_cons_succ]
        refine wpAnyH_take (i := 18) (oi := _) (v := ?_) rfl (by kernel_rfl) (by kernel_rfl) (by kernel_rfl) (fun _ _ _ h => h) (Or.inl ⟨by kernel_rfl, ?_⟩) (by assumption) ?_
        rotate_left
        · intro w hSw; (try dsimp only at hSw); go_simp; try with_reducible rfl
        try simp only [Act.put, List.setIfInBounds_toArray, List.set_cons_zero, List.set_cons_succ]
        refine wpAnyH_take (i := 19) (oi := _) (v := ?_) rfl (by kernel_rfl) (by kernel_rfl) (by kernel_rfl) (fun _ _ _ h => h) (Or.inl ⟨by kernel_rfl, ?_⟩) (by assumption) ?_
        rotate_left
        · intro w hSw; (try dsimp only at hSw); go_simp; try with_reducible rfl
        try simp only [Act.put, List.setIfInBounds_toArray, List.set_cons_zero, List.set_cons_succ]
        refine wpAnyH_take (i := 21) (oi := _) (v := .agg (pcells b2 r2 mm2).toArray) rfl (by kernel_rfl) (by kernel_rfl) (by kernel_rfl) (fun _ _ _ h => h) (yieldsIf_load_mid (by kernel_rfl) 34 _ rfl (w.heap.size + 1) 0 rfl (pcells b2 r2 mm2) _ (fun w' hS => hS.1) Tryd.underlying34 rfl (p34l b2 r2 mm2)) (by assumption) ?_
        try simp only [Act.put, List.setIfInBounds_toArray, List.set_cons_zero, List.set_cons_succ]
        refine wpAnyH_take (i := 22) (oi := _) (v := ?_) rfl (by kernel_rfl) (by kernel_rfl) (by kernel_rfl) (fun _ _ _ h => h) (Or.inl ⟨by kernel_rfl, ?_⟩) (by assumption) ?_
        rotate_left
        · intro w hSw; (try dsimp only at hSw); go_simp; try with_reducible rfl
        try simp only [Act.put, List.setIfInBounds_toArray, List.set_cons_zero, List.set_cons_succ]
        refine wpAnyH_ready (rs := [20]) (by kernel_rfl) (by simp) ?_
        refine AllReadyH.cons (o := _) rfl (fun K hK => ?_) AllReadyH.nil
        go_simp
        go_at_call 22
        with_reducible refine (hab _ m2.p (hT.below m2.bel)).mono ?_
        rintro e v5 ⟨rfl, rfl⟩
        refine hK.out _ _ (m2.sp) ?_
        clear hHeld hK K
        intro hHeld
        try simp only [Act.put, List.setIfInBounds_toArray, List.set_cons_zero, List.set_cons_succ]
        refine wpAnyH_ready (rs := [23]) (by kernel_rfl) (by simp) ?_
        refine AllReadyH.cons (o := _) rfl (fun K hK => ?_) AllReadyH.nil
        go_simp
        go_at_call 23
        with_reducible refine (fab _).mono ?_
        rintro e v6 ⟨rfl, hb3⟩
        have m3 := m2.up hb3
        refine hK.out _ _ (m3.sp) ?_
        clear hHeld hK K
        intro hHeld
        try simp only [Act.put, List.setIfInBounds_toArray, List.set_cons_zero, List.set_cons_succ]
        refine wpAnyH_take (i := 24) (oi := _) (v := ?_) rfl (by kernel_rfl) (by kernel_rfl) (by kernel_rfl) (fun _ _ _ h => h) (Or.inl ⟨by kernel_rfl, ?_⟩) (by assumption) ?_
        rotate_left
        · intro w hSw; (try dsimp only at hSw); go_simp; try with_reducible rfl
        try simp only [Act.put, List.setIfInBounds_toArray, List.set_cons_zero, List.set_cons_succ]
        refine wpAnyH_take (i := 25) (oi := _) (v := ?_) rfl (by kernel_rfl) (by kernel_rfl) (by kernel_rfl) (fun _ _ _ h => h) (Or.inl ⟨by kernel_rfl, ?_⟩) (by assumption) ?_
        rotate_left
        · intro w hSw; (try dsimp only at hSw); go_simp; try with_reducible rfl
        try simp only [Act.put, List.setIfInBounds_toArray, List.set_cons_zero, List.set_cons_succ]
        refine wpAnyH_take (i := 26) (oi := _) (v := ?_) rfl (by kernel_rfl) (by kernel_rfl) (by kernel_rfl) (fun _ _ _ h => h) (Or.inl ⟨by kernel_rfl, ?_⟩) (by assumption) ?_
        rotate_left
        · intro w hSw; (try dsimp only at hSw); go_simp; try with_reducible rfl
        try simp only [Act.put, List.setIfInBounds_toArray, List.set_cons_zero, List.set_cons_succ]
        refine wpAnyH_take (i := 27) (oi := _) (v := ?_) rfl (by kernel_rfl) (by kernel_rfl) (by kernel_rfl) (fun _ _ _ h => h) (Or.inl ⟨by kernel_rfl, ?_⟩) (by assumption) ?_
        rotate_left
        · intro w hSw; (try dsimp only at hSw); go_simp; try with_reducible rfl
        try simp only [Act.put, List.setIfInBounds_toArray, List.set_cons_zero, List.set_cons_succ]
        refine wpAnyH_take (i := 28) (oi := _) (v := ?_) rfl (by kernel_rfl) (by kernel_rfl) (by kernel_rfl) (fun _ _ _ h => h) (Or.inl ⟨by kernel_rfl, ?_⟩) (by assumption) ?_
        rotate_left
        · intro w hSw; (try dsimp only at hSw); go_simp; try with_reducible rfl
        try simp only [Act.put, List.setIfInBounds_toArray, List.set_cons_zero, List.set_cons_succ]
        refine wpAnyH_take (i := 29) (oi := _) (v := ?_) rfl (by kernel_rfl) (by kernel_rfl) (by kernel_rfl) (fun _ _ _ h => h) (Or.inl ⟨by kernel_rfl, ?_⟩) (by assumption) ?_
        rotate_left
        · intro w hSw; (try dsimp only at hSw); go_simp; try with_reducible rfl
        try simp only [Act.put, List.setIfInBounds_toArray, List.set_cons_zero, List.set_cons_succ]
        refine wpAnyH_take (i := 30) (oi := _) (v := ?_) rfl (by kernel_rfl) (by kernel_rfl) (by kernel_rfl) (fun _ _ _ h => h) (Or.inl ⟨by kernel_rfl, ?_⟩) (by assumption) ?_
        rotate_left
        · intro w hSw; (try dsimp only at hSw); go_simp; try with_reducible rfl
        try simp only [Act.put, List.setIfInBounds_toArray, List.set_cons_zero, List.set_cons_succ]
        refine wpAnyH_take (i := 31) (oi := _) (v := ?_) rfl (by kernel_rfl) (by kernel_rfl) (by kernel_rfl) (fun _ _ _ h => h) (Or.inl ⟨by kernel_rfl, ?_⟩) (by assumption) ?_
        rotate_left
        · intro w hSw; (try dsimp only at hSw); go_simp; try with_reducible rfl
        try simp only [Act.put, List.setIfInBounds_toArray, List.set_cons_zero, List.set_cons_succ]
        refine wpAnyH_take (i := 32) (oi := _) (v := ?_) rfl (by kernel_rfl) (by kernel_rfl) (by kernel_rfl) (fun _ _ _ h => h) (Or.inl ⟨by kernel_rfl, ?_⟩) (by assumption) ?_
        rotate_left
        · intro w hSw; (try dsimp only at hSw); go_simp; try with_reducible rfl
        try simp only [Act.put, List.setIfInBounds_toArray, List.set_cons_zero, List.set_cons_succ]
        refine wpAnyH_take (i := 33) (oi := _) (v := ?_) rfl (by kernel_rfl) (by kernel_rfl) (by kernel_rfl) (fun _ _ _ h => h) (Or.inl ⟨by kernel_rfl, ?_⟩) (by assumption) ?_
        rotate_left
        · intro w hSw; (try dsimp only at hSw); go_simp; try with_reducible rfl
        try simp only [Act.put, List.setIfInBounds_toArray, List.set_cons_zero, List.set_cons_succ]
        refine wpAnyH_take (i := 34) (oi := _) (v := ?_) rfl (by kernel_rfl) (by kernel_rfl) (by kernel_rfl) (fun _ _ _ h => h) (Or.inl ⟨by kernel_rfl, ?_⟩) (by assumption) ?_
        rotate_left
        · intro w hSw; (try dsimp only at hSw); go_simp; try with_reducible rfl
        try simp only [Act.put, List.setIfInBounds_toArray, List.set_cons_zero, List.set_cons_succ]
        refine wpAnyH_take (i := 35) (oi := _) (v := ?_) rfl (by kernel_rfl) (by kernel_rfl) (by kernel_rfl) (fun _ _ _ h => h) (Or.inl ⟨by kernel_rfl, ?_⟩) (by assumption) ?_
        rotate_left
        · intro w hSw; (try dsimp only at hSw); go_simp; try with_reducible rfl
        try simp only [Act.put, List.setIfInBounds_toArray, List.set_cons_zero, List.set_cons_succ]
        refine wpAnyH_take (i := 36) (oi := _) (v := ?_) rfl (by kernel_rfl) (by kernel_rfl) (by kernel_rfl) (fun _ _ _ h => h) (Or.inl ⟨by kernel_rfl, ?_⟩) (by assumption) ?_
        rotate_left
        · intro w hSw; (try dsimp only at hSw); go_simp; try with_reducible rfl
        try simp only [Act.put, List.setIfInBounds_toArray, List.set_cons_zero, List.set_cons_succ]
        refine wpAnyH_take (i := 37) (oi := _) (v := ?_) rfl (by kernel_rfl) (by kernel_rfl) (by kernel_rfl) (fun _ _ _ h => h) (Or.inl ⟨by kernel_rfl, ?_⟩) (by assumption) ?_
        rotate_left
        · intro w hSw; (try dsimp only at hSw); go_simp; try with_reducible rfl
        try simp only [Act.put, List.setIfInBounds_toArray, List.set_cons_zero, List.set_cons_succ]
        try simp only [List.getElem_toArray, List.getElem_cons_succ, List.getElem_cons_zero]
        refine wpAnyH_done (by kernel_rfl) ?_ _
        refine NoPanic.normal ?_
        clear hHeld
        have Hm3 := Lib.hid m3
        have Hrb := Lib.hid (And.intro hrb hmb)
        clear hbt htp hab fbt ftp fab m1 m2 m3 hst hb1 hb2 hb3 c0 c1 hrb hmb
        simp only [List.setIfInBounds_toArray, List.set_cons_zero, List.set_cons_succ]
        go_wp2
        go_roundw
        case rel => exact ⟨k + 1, b2, r2, mm2, by omega, by go_num, Hm3.out, by have := Hrb.out; omega, by have := Hrb.out; omega⟩
        case measure => simp [intOf]; omega
      · have hta := fun W h => take_any w.heap.size 0 (wrap64 (-1 - z)) b r m W h
        have hfa := fun W => ftakep_any (wrap64 (-1 - z)) b r m W hb0 hb1
        have hrb : 0 ≤ r ∧ r ≤ r + 1 := by omega
        have hmb : 0 ≤ m ∧ m ≤ m + 1 := by omega
        generalize (if hasB b (wrap64 (-1 - z)) = true then putF b (wrap64 (-1 - z)) else b) = b2 at *
        generalize hasB b (wrap64 (-1 - z)) = v at *
        go_upto_region 13 with (go_at_call 16; with_reducible refine (hta _ hst.p).mono ?_; rintro e w1 ⟨rfl, hp1, hg1⟩; have hq1 := hst.stepP hp1 hg1; have hrg := Lib.hid hq1.x.range)
        clear hst hp1 hg1 hta hcell
        go_upto_region 14 with (first
          | (with_reducible show wpList _ _ _ (⟨_, Op.load 34 _, _, _, _, none⟩ :: _) _ _; refine wpList_load_mid rfl 34 _ rfl (w.heap.size + 1) 0 rfl (pcells b r m) _ hrg.out Tryd.underlying34 rfl (p34l b r m) ?_)
          | (go_at_call 18; with_reducible refine (hfa _).mono ?_; rintro e w2 ⟨rfl, hb2⟩; have hq2 := hq1.up hb2; have hth := Lib.hid hq2.x.there)
          | (with_reducible show wpList _ _ _ (⟨none, Op.store 34 _ _, _, _, _, none⟩ :: _) _ _; refine wpList_store_mid rfl 34 _ _ rfl (w.heap.size + 1) 0 (pcells b2 r m).toArray rfl rfl (there34 b2 r m hth.out) (p34s b2 r m) (all_oneCell_toArray (pcells_one b2 r m)) ?_))
        refine wp_gen (fun W => LP w W b2 r m) hq2.stepX.same ?_
        clear hq1 hq2 hrg hth hb2 hfa
        intro W hst
        try simp only [Act.put]
        have hcn := fun W h => pcount_any w.heap.size 0 b2 r m W h
        go_upto_region 15 with (go_at_call 19; with_reducible refine (hcn _ hst.p).mono ?_; rintro e w3 ⟨rfl, n3, rfl⟩)
        refine wp_gen (fun W => LP w W b2 r m) (hst.drewN n3) ?_
        clear hst hcn
        intro W3 hst
        have hbt := fun W h => pbits_any w.heap.size 0 b2 r m W h
        have htp := fun W h hT => ptop_any w.heap.size 0 b2 r m W h hT
        have hab := fun W h hT => above_any w.heap.size 0 b2 r m l W h hT
        have c0 := hst.p.lo
        have c1 := hst.p.hi
        have fbt := fun W => fpbits_any b2 r m W c0 c1
        have ftp := fun W => fptop_any b2 r m W c0 c1
        have fab := fun W => fpabove_any b2 r m l W c0 c1
        generalize hiI b2 = hi at *
        generalize aboveI b2 l = ab at *
        refine wp_region_noPanic ?_
        refine wp_region_held_drew (S := fun W => SP w W b2 r m) (by kernel_rfl) (hst.drew.sp) (fun hHeld => ?_)
        refine wpAnyH_take (i := 0) (oi := _) (v := ?_) rfl (by kernel_rfl) (by kernel_rfl) (by kernel_rfl) (fun _ _ _ h => h) (Or.inl ⟨by kernel_rfl, ?_⟩) (by assumption) ?_
        rotate_left
        · intro w hSw; (try dsimp only at hSw); go_simp; try with_reducible rfl
        try simp only [Act.put, List.setIfInBounds_toArray, List.set_cons_zero, List.set_cons_succ]
        refine wpAnyH_take (i := 1) (oi := _) (v := ?_) rfl (by kernel_rfl) (by kernel_rfl) (by kernel_rfl) (fun _ _ _ h => h) (Or.inl ⟨by kernel_rfl, ?_⟩) (by assumption) ?_
        rotate_left
        · intro w hSw; (try dsimp only at hSw); go_simp; try with_reducible rfl
        try simp only [Act.put, List.setIfInBounds_toArray, List.set_cons_zero, List.set_cons_succ]
        refine wpAnyH_take (i := 2) (oi := _) (v := ?_) rfl (by kernel_rfl) (by kernel_rfl) (by kernel_rfl) (fun _ _ _ h => h) (Or.inl ⟨by kernel_rfl, ?_⟩) (by assumption) ?_
        rotate_left
        · intro w hSw; (try dsimp only at hSw); go_simp; try with_reducible rfl
        try simp only [Act.put, List.setIfInBounds_toArray, List.set_cons_zero, List.set_cons_succ]
        refine wpAnyH_take (i := 3) (oi := _) (v := ?_) rfl (by kernel_rfl) (by kernel_rfl) (by kernel_rfl) (fun _ _ _ h => h) (Or.inl ⟨by kernel_rfl, ?_⟩) (by assumption) ?_
        rotate_left
        · intro w hSw; (try dsimp only at hSw); go_simp; try with_reducible rfl
        try simp only [Act.put, List.setIfInBounds_toArray, List.set_cons_zero, List.set_cons_succ]
        refine wpAnyH_take (i := 4) (oi := _) (v := ?_) rfl (by kernel_rfl) (by kernel_rfl) (by kernel_rfl) (fun _ _ _ h => h) (Or.inl ⟨by kernel_rfl, ?_⟩) (by assumption) ?_
        rotate_left
        · intro w hSw; (try dsimp only at hSw); go_simp; try with_reducible rfl
        try simp only [Act.put, List.setIfInBounds_toArray, List.set_cons_zero, List.set_cons_succ]
        refine wpAnyH_take (i := 6) (oi := _) (v := .agg (pcells b2 r m).toArray) rfl (by kernel_rfl) (by kernel_rfl) (by kernel_rfl) (fun _ _ _ h => h) (yieldsIf_load_mid (by kernel_rfl) 34 _ rfl (w.heap.size + 1) 0 rfl (pcells b2 r m) _ (fun w' hS => hS.1) Tryd.underlying34 rfl (p34l b2 r m)) (by assumption) ?_
        try simp only [Act.put, List.setIfInBounds_toArray, List.set_cons_zero, List.set_cons_succ]
        refine wpAnyH_ready (rs := [5]) (by kernel_rfl) (by simp) ?_
        refine AllReadyH.cons (o := _) rfl (fun K hK => ?_) AllReadyH.nil
        go_simp
        go_at_call 15
        with_reducible refine (hbt _ hst.drew.p).mono ?_
        rintro e v1 ⟨rfl, rfl⟩
        refine hK.out _ _ (hst.drew.sp) ?_
        clear hHeld hK K
        intro hHeld
        try simp only [Act.put, List.setIfInBounds_toArray, List.set_cons_zero, List.set_cons_succ]
        refine wpAnyH_ready (rs := [7]) (by kernel_rfl) (by simp) ?_
        refine AllReadyH.cons (o := _) rfl (fun K hK => ?_) AllReadyH.nil
        go_simp
        go_at_call 20
        with_reducible refine (fbt _).mono ?_
        rintro e v2 ⟨rfl, hb1⟩
        have m1 := hst.drew.up hb1
        refine hK.out _ _ (m1.sp) ?_
        clear hHeld hK K
        intro hHeld
        try simp only [Act.put, List.setIfInBounds_toArray, List.set_cons_zero, List.set_cons_succ]
        refine wpAnyH_take (i := 8) (oi := _) (v := ?_) rfl (by kernel_rfl) (by kernel_rfl) (by kernel_rfl) (fun _ _ _ h => h) (Or.inl ⟨by kernel_rfl, ?_⟩) (by assumption) ?_
        rotate_left
        · intro w hSw; (try dsimp only at hSw); go_simp; try with_reducible rfl
        try simp only [Act.put, List.setIfInBounds_toArray, List.set_cons_zero, List.set_cons_succ]
        refine wpAnyH_take (i := 9) (oi := _) (v := ?_) rfl (by kernel_rfl) (by kernel_rfl) (by kernel_rfl) (fun _ _ _ h => h) (Or.inl ⟨by kernel_rfl, ?_⟩) (by assumption) ?_
        rotate_left
        · intro w hSw; (try dsimp only at hSw); go_simp; try with_reducible rfl
        try simp only [Act.put, List.setIfInBounds_toArray, List.set_cons_zero, List.set_cons_succ]
        refine wpAnyH_take (i := 10) (oi := _) (v := ?_) rfl (by kernel_rfl) (by kernel_rfl) (by kernel_rfl) (fun _ _ _ h => h) (Or.inl ⟨by kernel_rfl, ?_⟩) (by assumption) ?_
        rotate_left
        · intro w hSw; (try dsimp only at hSw); go_simp; try with_reducible rfl
        try simp only [Act.put, List.setIfInBounds_toArray, List.set_cons_zero, List.set_cons_succ]
        refine wpAnyH_take (i := 11) (oi := _) (v := ?_) rfl (by kernel_rfl) (by kernel_rfl) (by kernel_rfl) (fun _ _ _ h => h) (Or.inl ⟨by kernel_rfl, ?_⟩) (by assumption) ?_
        rotate_left
        · intro w hSw; (try dsimp only at hSw); go_simp; try with_reducible rfl
        try simp only [Act.put, List.setIfInBounds_toArray, List.set_cons_zero, List.set_cons_succ]
        refine wpAnyH_take (i := 13) (oi := _) (v := .agg (pcells b2 r m).toArray) rfl (by kernel_rfl) (by kernel_rfl) (by kernel_rfl) (fun _ _ _ h => h) (yieldsIf_load_mid (by kernel_rfl) 34 _ rfl (w.heap.size + 1) 0 rfl (pcells b2 r m) _ (fun w' hS => hS.1) Tryd.underlying34 rfl (p34l b2 r m)) (by assumption) ?_
        try simp only [Act.put, List.setIfInBounds_toArray, List.set_cons_zero, List.set_cons_succ]
        refine wpAnyH_ready (rs := [12]) (by kernel_rfl) (by simp) ?_
        refine AllReadyH.cons (o := _) rfl (fun K hK => ?_) AllReadyH.nil
        go_simp
        go_at_call 14
        with_reducible refine (htp _ m1.p (hT.below m1.bel)).mono ?_
        rintro e v3 ⟨rfl, rfl⟩
        refine hK.out _ _ (m1.sp) ?_
        clear hHeld hK K
        intro hHeld
        try simp only [Act.put, List.setIfInBounds_toArray, List.set_cons_zero, List.set_cons_succ]
        refine wpAnyH_ready (rs := [14]) (by kernel_rfl) (by simp) ?_
        refine AllReadyH.cons (o := _) rfl (fun K hK => ?_) AllReadyH.nil
        go_simp
        go_at_call 21
        with_reducible refine (ftp _).mono ?_
        rintro e v4 ⟨rfl, hb2⟩
        have m2 := m1.up hb2
        refine hK.out _ _ (m2.sp) ?_
        clear hHeld hK K
        intro hHeld
        try simp only [Act.put, List.setIfInBounds_toArray, List.set_cons_zero, List.set_cons_succ]
        refine wpAnyH_take (i := 15) (oi := _) (v := ?_) rfl (by kernel_rfl) (by kernel_rfl) (by kernel_rfl) (fun _ _ _ h => h) (Or.inl ⟨by kernel_rfl, ?_⟩) (by assumption) ?_
        rotate_left
        · intro w hSw; (try dsimp only at hSw); go_simp; try with_reducible rfl
        try simp only [Act.put, List.setIfInBounds_toArray, List.set_cons_zero, List.set_cons_succ]
        refine wpAnyH_take (i := 16) (oi := _) (v := ?_) rfl (by kernel_rfl) (by kernel_rfl) (by kernel_rfl) (fun _ _ _ h => h) (Or.inl ⟨by kernel_rfl, ?_⟩) (by assumption) ?_
        rotate_left
        · intro w hSw; (try dsimp only at hSw); go_simp; try with_reducible rfl
        try simp only [Act.put, List.setIfInBounds_toArray, List.set_cons_zero, List.set_cons_succ]
        refine wpAnyH_take (i := 17) (oi := _) (v := ?_) rfl (by kernel_rfl) (by kernel_rfl) (by kernel_rfl) (fun _ _ _ h => h) (Or.inl ⟨by kernel_rfl, ?_⟩) (by assumption) ?_
        rotate_left
        · intro w hSw; (try dsimp only at hSw); go_simp; try with_reducible rfl
        try simp only [Act.put, List.setIfInBounds_toArray, List.set_cons_zero, List.set_cons_succ]
        refine wpAnyH_take (i := 18) (oi := _) (v := ?_) rfl (by kernel_rfl) (by kernel_rfl) (by kernel_rfl) (fun _ _ _ h => h) (Or.inl ⟨by kernel_rfl, ?_⟩) (by assumption) ?_
        rotate_left
        · intro w hSw; (try dsimp only at hSw); go_simp; try with_reducible rfl
        try simp only [Act.put, List.setIfInBounds_toArray, List.set_cons_zero, List.set_cons_succ]
        refine wpAnyH_take (i := 19) (oi := _) (v := ?_) rfl (by kernel_rfl) (by kernel_rfl) (by kernel_rfl) (fun _ _ _ h => h) (Or.inl ⟨by kernel_rfl, ?_⟩) (by assumption) ?_
        rotate_left
        · intro w hSw; (try dsimp only at hSw); go_simp; try with_reducible rfl
        try simp only [Act.put, List.setIfInBounds_toArray, List.set_cons_zero, List.set_cons_succ]
        refine wpAnyH_take (i := 21) (oi := _) (v := .agg (pcells b2 r m).toArray) rfl (by kernel_rfl) (by kernel_rfl) (by kernel_rfl) (fun _ _ _ h => h) (yieldsIf_load_mid (by kernel_rfl) 34 _ rfl (w.heap.size + 1) 0 rfl (pcells b2 r m) _ (fun w' hS => hS.1) Tryd.underlying34 rfl (p34l b2 r m)) (by assumption) ?_
        try simp only [Act.put, List.setIfInBounds_toArray, List.set_cons_zero, List.set_cons_succ]
        refine wpAnyH_take (i := 22) (oi := _) (v := ?_) rfl (by kernel_rfl) (by kernel_rfl) (by kernel_rfl) (fun _ _ _ h => h) (Or.inl ⟨by kernel_rfl, ?_⟩) (by assumption) ?_
        rotate_left
        · intro w hSw; (try dsimp only at hSw); go_simp; try with_reducible rfl
        try simp only [Act.put, List.setIfInBounds_toArray, List.set_cons_zero, List.set_cons_succ]
        refine wpAnyH_ready (rs := [20]) (by kernel_rfl) (by simp) ?_
        refine AllReadyH.cons (o := _) rfl (fun K hK => ?_) AllReadyH.nil
        go_simp
        go_at_call 22
        with_reducible refine (hab _ m2.p (hT.below m2.bel)).mono ?_
        rintro e v5 ⟨rfl, rfl⟩
        refine hK.out _ _ (m2.sp) ?_
        clear hHeld hK K
        intro hHeld
        try simp only [Act.put, List.setIfInBounds_toArray, List.set_cons_zero, List.set_cons_succ]
        refine wpAnyH_ready (rs := [23]) (by kernel_rfl) (by simp) ?_
        refine AllReadyH.cons (o := _) rfl (fun K hK => ?_) AllReadyH.nil
        go_simp
        go_at_call 23
        with_reducible refine (fab _).mono ?_
        rintro e v6 ⟨rfl, hb3⟩
        have m3 := m2.up hb3
        refine hK.out _ _ (m3.sp) ?_
        clear hHeld hK K
        intro hHeld
        try simp only [Act.put, List.setIfInBounds_toArray, List.set_cons_zero, List.set_cons_succ]
        refine wpAnyH_take (i := 24) (oi := _) (v := ?_) rfl (by kernel_rfl) (by kernel_rfl) (by kernel_rfl) (fun _ _ _ h => h) (Or.inl ⟨by kernel_rfl, ?_⟩) (by assumption) ?_
        rotate_left
        · intro w hSw; (try dsimp only at hSw); go_simp; try with_reducible rfl
        try simp only [Act.put, List.setIfInBounds_toArray, List.set_cons_zero, List.set_cons_succ]
        refine wpAnyH_take (i := 25) (oi := _) (v := ?_) rfl (by kernel_rfl) (by kernel_rfl) (by kernel_rfl) (fun _ _ _ h => h) (Or.inl ⟨by kernel_rfl, ?_⟩) (by assumption) ?_
        rotate_left
        · intro w hSw; (try dsimp only at hSw); go_simp; try with_reducible rfl
        try simp only [Act.put, List.setIfInBounds_toArray, List.set_cons_zero, List.set_cons_succ]
        refine wpAnyH_take (i := 26) (oi := _) (v := ?_) rfl (by kernel_rfl) (by kernel_rfl) (by kernel_rfl) (fun _ _ _ h => h) (Or.inl ⟨by kernel_rfl, ?_⟩) (by assumption) ?_
        rotate_left
        · intro w hSw; (try dsimp only at hSw); go_simp; try with_reducible rfl
        try simp only [Act.put, List.setIfInBounds_toArray, List.set_cons_zero, List.set_cons_succ]
        refine wpAnyH_take (i := 27) (oi := _) (v := ?_) rfl (by kernel_rfl) (by kernel_rfl) (by kernel_rfl) (fun _ _ _ h => h) (Or.inl ⟨by kernel_rfl, ?_⟩) (by assumption) ?_
        rotate_left
        · intro w hSw; (try dsimp only at hSw); go_simp; try with_reducible rfl
        try simp only [Act.put, List.setIfInBounds_toArray, List.set_cons_zero, List.set_cons_succ]
        refine wpAnyH_take (i := 28) (oi := _) (v := ?_) rfl (by kernel_rfl) (by kernel_rfl) (by kernel_rfl) (fun _ _ _ h => h) (Or.inl ⟨by kernel_rfl, ?_⟩) (by assumption) ?_
        rotate_left
        · intro w hSw; (try dsimp only at hSw); go_simp; try with_reducible rfl
        try simp only [Act.put, List.setIfInBounds_toArray, List.set_cons_zero, List.set_cons_succ]
        refine wpAnyH_take (i := 29) (oi := _) (v := ?_) rfl (by kernel_rfl) (by kernel_rfl) (by kernel_rfl) (fun _ _ _ h => h) (Or.inl ⟨by kernel_rfl, ?_⟩) (by assumption) ?_
        rotate_left
        · intro w hSw; (try dsimp only at hSw); go_simp; try with_reducible rfl
        try simp only [Act.put, List.setIfInBounds_toArray, List.set_cons_zero, List.set_cons_succ]
        refine wpAnyH_take (i := 30) (oi := _) (v := ?_) rfl (by kernel_rfl) (by kernel_rfl) (by kernel_rfl) (fun _ _ _ h => h) (Or.inl ⟨by kernel_rfl, ?_⟩) (by assumption) ?_
        rotate_left
        · intro w hSw; (try dsimp only at hSw); go_simp; try with_reducible rfl
        try simp only [Act.put, List.setIfInBounds_toArray, List.set_cons_zero, List.set_cons_succ]
        refine wpAnyH_take (i := 31) (oi := _) (v := ?_) rfl (by kernel_rfl) (by kernel_rfl) (by kernel_rfl) (fun _ _ _ h => h) (Or.inl ⟨by kernel_rfl, ?_⟩) (by assumption) ?_
        rotate_left
        · intro w hSw; (try dsimp only at hSw); go_simp; try with_reducible rfl
        try simp only [Act.put, List.setIfInBounds_toArray, List.set_cons_zero, List.set_cons_succ]
        refine wpAnyH_take (i := 32) (oi := _) (v := ?_) rfl (by kernel_rfl) (by kernel_rfl) (by kernel_rfl) (fun _ _ _ h => h) (Or.inl ⟨by kernel_rfl, ?_⟩) (by assumption) ?_
        rotate_left
        · intro w hSw; (try dsimp only at hSw); go_simp; try with_reducible rfl
        try simp only [Act.put, List.setIfInBounds_toArray, List.set_cons_zero, List.set_cons_succ]
        refine wpAnyH_take (i := 33) (oi := _) (v := ?_) rfl (by kernel_rfl) (by kernel_rfl) (by kernel_rfl) (fun _ _ _ h => h) (Or.inl ⟨by kernel_rfl, ?_⟩) (by assumption) ?_
        rotate_left
        · intro w hSw; (try dsimp only at hSw); go_simp; try with_reducible rfl
        try simp only [Act.put, List.setIfInBounds_toArray, List.set_cons_zero, List.set_cons_succ]
        refine wpAnyH_take (i := 34) (oi := _) (v := ?_) rfl (by kernel_rfl) (by kernel_rfl) (by kernel_rfl) (fun _ _ _ h => h) (Or.inl ⟨by kernel_rfl, ?_⟩) (by assumption) ?_
        rotate_left
        · intro w hSw; (try dsimp only at hSw); go_simp; try with_reducible rfl
        try simp only [Act.put, List.setIfInBounds_toArray, List.set_cons_zero, List.set_cons_succ]
        refine wpAnyH_take (i := 35) (oi := _) (v := ?_) rfl (by kernel_rfl) (by kernel_rfl) (by kernel_rfl) (fun _ _ _ h => h) (Or.inl ⟨by kernel_rfl, ?_⟩) (by assumption) ?_
        rotate_left
        · intro w hSw; (try dsimp only at hSw); go_simp; try with_reducible rfl
        try simp only [Act.put, List.setIfInBounds_toArray, List.set_cons_zero, List.set_cons_succ]
        refine wpAnyH_take (i := 36) (oi := _) (v := ?_) rfl (by kernel_rfl) (by kernel_rfl) (by kernel_rfl) (fun _ _ _ h => h) (Or.inl ⟨by kernel_rfl, ?_⟩) (by assumption) ?_
        rotate_left
        · intro w hSw; (try dsimp only at hSw); go_simp; try with_reducible rfl
        try simp only [Act.put, List.setIfInBounds_toArray, List.set_cons_zero, List.set_cons_succ]
        refine wpAnyH_take (i := 37) (oi := _) (v := ?_) rfl (by kernel_rfl) (by kernel_rfl) (by kernel_rfl) (fun _ _ _ h => h) (Or.inl ⟨by kernel_rfl, ?_⟩) (by assumption) ?_
        rotate_left
        · intro w hSw; (try dsimp only at hSw); go_simp; try with_reducible rfl
        try simp only [Act.put, List.setIfInBounds_toArray, List.set_cons_zero, List.set_cons_succ]
        try simp only [List.getElem_toArray, List.getElem_cons_succ, List.getElem_cons_zero]
        refine wpAnyH_done (by kernel_rfl) ?_ _
        refine NoPanic.normal ?_
        clear hHeld
        have Hm3 := Lib.hid m3
        have Hrb := Lib.hid (And.intro hrb hmb)
        clear hbt htp hab fbt ftp fab m1 m2 m3 hst hb1 hb2 hb3 c0 c1 hrb hmb
        simp only [List.setIfInBounds_toArray, List.set_cons_zero, List.set_cons_succ]
        go_wp2
        go_roundw
        case rel => exact ⟨k + 1, b2, r, m, by omega, by go_num, Hm3.out, by have := Hrb.out; omega, by have := Hrb.out; omega⟩
        case measure => simp [intOf]; omega
    · obtain rfl : k = zs.length := by omega
      go_wp2_with (go_at_call 12; refine (alive07 _ (hT.below hst.bel)).mono ?_; rintro e w1 ⟨rfl, hb1⟩)
      go_ret
      exact ⟨rfl, below_trans hst.bel hb1⟩

set_option maxHeartbeats 1000000 in
theorem walkBig (l : Int) (p : Option Addr) (cap n : Nat) (w : World) (hm : 100 < n) (hT : Tab w) :
    Calls Tryd.prog 4 #[.slice p n cap, .int .i64 l] w fun e w' => e = .returned (.bool true) ∧ Below w.heap.size w w' := by
  have hgt : decide ((100 : Int) < (n : Int)) = true := decide_eq_true (by omega)
  go_enter Tryd.func4, Tryd.ntmps4
  go_wp2_with (go_at_call 12; refine (alive07 _ hT).mono ?_; rintro e w' ⟨rfl, hb⟩)
  go_ret
  exact ⟨rfl, hb⟩

theorem walkAll (p : Option Addr) (cap : Nat) (zs : List Int) (l : Int) (w : World) (hp : Reads w p zs) (_w1 : (Lit.int .i64 l).wf = true) (hT : Tab w) :
    Calls Tryd.prog 4 #[.slice p zs.length cap, .int .i64 l] w fun e w' => e = .returned (.bool true) ∧ Below w.heap.size w w' := by
  by_cases h : zs.length ≤ 100
  · exact walk l p cap zs w h hp hT
  · exact walkBig l p cap zs.length w (by omega) hT
end Go.Proofs.YtbbnackahgcegaaDoor.pendPlays
