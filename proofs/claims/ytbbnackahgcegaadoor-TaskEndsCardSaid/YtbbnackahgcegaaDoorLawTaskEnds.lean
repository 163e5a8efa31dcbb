/- TaskEnds: who has ended stays so; an answer is taken once; a copy is its own; none has nothing. -/
import Derived.Test.YtbbnackahgcegaaDoorTaskNil
import Derived.ProofKit
import Derived.OpenShut
import Derived.Deep.DeepCutAuto
import Derived.ChangeOld
namespace Go.Proofs.YtbbnackahgcegaaDoor.taskEnds
open Go.ChangeShapes Go.WideShapes Go.ChangeAt Go.RowKit
set_option linter.all false

/-- a step's cells -/
structure StepAt (w : World) (b off : Nat) (s : Int) (x : Bool) (y z u : Int) : Prop where
  c1 : w.cell? ⟨b, off + 1, none⟩ = some (.int .i64 s)
  c2 : w.cell? ⟨b, off + 2, none⟩ = some (.bool x)
  c3 : w.cell? ⟨b, off + 3, none⟩ = some (.int .u32 y)
  c4 : w.cell? ⟨b, off + 4, none⟩ = some (.int .u32 z)
  c5 : w.cell? ⟨b, off + 5, none⟩ = some (.int .u32 u)
theorem StepAt.below {w w' : World} {b off B : Nat} {s : Int} {x : Bool} {y z u : Int} (h : StepAt w b off s x y z u) (hb : Below B w w') (hB : b < B) : StepAt w' b off s x y z u :=
  ⟨(hb.cell (p := ⟨b, _, none⟩) hB).trans h.c1, (hb.cell (p := ⟨b, _, none⟩) hB).trans h.c2, (hb.cell (p := ⟨b, _, none⟩) hB).trans h.c3, (hb.cell (p := ⟨b, _, none⟩) hB).trans h.c4, (hb.cell (p := ⟨b, _, none⟩) hB).trans h.c5⟩
/-- a slice at 'p' reads as 'n' steps -/
def ReadsS (w : World) (p : Option Addr) (n : Nat) : Prop := 0 < n → ∃ b off, p = some ⟨b, off, none⟩ ∧ b < w.heap.size ∧ ∀ i, i < n → ∃ s x y z u, StepAt w b (off + i * 6) s x y z u ∧ 0 ≤ u ∧ u ≤ 4294967295

/-- the law's three tasks -/
structure EM (w W : World) (st b : Int) (C Z : Nat) : Prop where
  t : TaskAt W (w.heap.size + 1) st b none
  c : TaskAt W C 1 0 none
  z : TaskAt W Z 0 0 none
  hc : w.heap.size + 1 < C
  hz : w.heap.size + 1 < Z
  bel : Below w.heap.size w W
theorem EM.up {w W W' : World} {st b : Int} {C Z : Nat} (h : EM w W st b C Z) (hb : Below W.heap.size W W') : EM w W' st b C Z := ⟨h.t.up hb, h.c.up hb, h.z.up hb, h.hc, h.hz, below_trans h.bel hb⟩
theorem EM.step {w W W' : World} {st b st' b' : Int} {C Z : Nat} (h : EM w W st b C Z) (ht : TaskAt W' (w.heap.size + 1) st' b' none) (hg : W.grownBy W' (some (w.heap.size + 1))) : EM w W' st' b' C Z :=
  ⟨ht, h.c.kept hg (by have := h.hc; omega), h.z.kept hg (by have := h.hz; omega), h.hc, h.hz, h.bel.grown hg h.bel.size (fun k hk => by injection hk with hk; omega)⟩

/-- in a round: the step at hand, and its answer's copy -/
structure EI (w W : World) (st b : Int) (C Z D g off : Nat) (s : Int) (x : Bool) (y z u : Int) : Prop where
  e : EM w W st b C Z
  a : AnsAt W D x y z
  s : StepAt W g off s x y z u
theorem EI.up {w W W' : World} {st b : Int} {C Z D g off : Nat} {s : Int} {x : Bool} {y z u : Int} (h : EI w W st b C Z D g off s x y z u) (hb : Below W.heap.size W W') : EI w W' st b C Z D g off s x y z u := by
  have l1 : D < W.heap.size := block_lt_of_cell h.a.cx
  have l2 : g < W.heap.size := block_lt_of_cell h.s.c1
  exact ⟨h.e.up hb, ⟨(hb.cell (p := ⟨D, _, none⟩) l1).trans h.a.cx, (hb.cell (p := ⟨D, _, none⟩) l1).trans h.a.cy, (hb.cell (p := ⟨D, _, none⟩) l1).trans h.a.cz⟩, h.s.below hb l2⟩

theorem ans_up {W W' : World} {g : Nat} {x : Bool} {y z : Int} (h : AnsAt W g x y z) (hb : Below W.heap.size W W') : AnsAt W' g x y z := by
  have l : g < W.heap.size := block_lt_of_cell h.cx
  exact ⟨(hb.cell (p := ⟨g, _, none⟩) l).trans h.cx, (hb.cell (p := ⟨g, _, none⟩) l).trans h.cy, (hb.cell (p := ⟨g, _, none⟩) l).trans h.cz⟩
theorem ans_kept {W W' : World} {g B : Nat} {x : Bool} {y z : Int} (h : AnsAt W g x y z) (hg : W.grownBy W' (some B)) (hne : g ≠ B) : AnsAt W' g x y z := by
  have l : g < W.heap.size := block_lt_of_cell h.cx
  exact ⟨(only_cell hg (p := ⟨g, _, none⟩) l hne).trans h.cx, (only_cell hg (p := ⟨g, _, none⟩) l hne).trans h.cy, (only_cell hg (p := ⟨g, _, none⟩) l hne).trans h.cz⟩
theorem ans_new (W : World) (x : Bool) (y z : Int) (t : TypeId) : AnsAt (W.alloc (.cells #[.bool x, .int .u32 y, .int .u32 z] t)) W.heap.size x y z :=
  ⟨World.cell?_alloc_at _ _ _ _ rfl, World.cell?_alloc_at _ _ _ _ rfl, World.cell?_alloc_at _ _ _ _ rfl⟩

theorem zero_new (W : World) (t : TypeId) : TaskAt (W.alloc (.cells #[.int .i64 0, .int .u32 0, .pointer none] t)) W.heap.size 0 0 none :=
  ⟨World.cell?_alloc_at _ _ _ _ rfl, World.cell?_alloc_at _ _ _ _ rfl, World.cell?_alloc_at _ _ _ _ rfl, World.frozen?_alloc_at _ _ _ _ rfl, World.frozen?_alloc_at _ _ _ _ rfl, World.frozen?_alloc_at _ _ _ _ rfl, by omega, by omega⟩

set_option maxRecDepth 100000 in
set_option maxHeartbeats 4000000 in
theorem walk (p : Option Addr) (cp n : Nat) (x : Bool) (y z : Int) (w : World) (hm : n ≤ 100) (hp : ReadsS w p n) (hT : Tab w) :
    Calls Tryd.prog 6 #[.slice p n cp, ansV x y z] w fun e w' => e = .returned (.bool true) ∧ Below w.heap.size w w' := by
  have hgt : decide ((100 : Int) < (n : Int)) = false := decide_eq_false (by omega)
  have Hp := Lib.hid hp
  clear hp
  have bb0 := below_one w (.cells #[.bool x, .int .u32 y, .int .u32 z] 49)
  have up : ∀ {W W' : World} {B : Nat}, Below w.heap.size w W → W.grownBy W' (some B) → w.heap.size ≤ B → Below w.heap.size w W' := fun hb hg hB => hb.grown hg hb.size (fun k hk => by injection hk with hk; omega)
  have h1 := fun W h => give_yes (w.heap.size + 1) 0 none x y z W h
  have h2 := fun W h => copy_some (w.heap.size + 1) 1 0 x y z W h
  have h3 := fun W h => taken_some (w.heap.size + 1) 1 0 x y z W h (by omega)
  have h4 := fun W h => taken_none (w.heap.size + 1) 1 0 W h (by omega)
  have h5 := fun C W h => taken_some C 1 0 x y z W h (by omega)
  have h6 := fun W h => go_yes (w.heap.size + 1) 0 4 none W h (by omega)
  go_enter Tryd.func6, Tryd.ntmps6
  go_upto_region 5 with (first
    | (go_at_call 25; refine (new_any _).mono ?_; rintro e w1 ⟨rfl, st1, hb1⟩; obtain ⟨hcl1, hfr1⟩ := bcell hb1; have hz1 := size_one hb1)
    | (go_at_call 27; with_reducible refine (h1 _ (by simpa using st1)).mono ?_; rintro e w2 ⟨rfl, st2, hg2⟩))
  have a1 : AnsAt w1 w.heap.size x y z := ans_up (ans_new w x y z _) hb1
  have bb1 : Below w.heap.size w w1 := bb0.trans (hb1.mono (by simp))
  refine wp_gen (fun W => TaskAt W (w.heap.size + 1) 1 0 (some (x, y, z)) ∧ AnsAt W w.heap.size x y z ∧ Below w.heap.size w W) ⟨st2, ans_kept a1 hg2 (by omega), up bb1 hg2 (by omega)⟩ ?_
  clear st1 hb1 hcl1 hfr1 hz1 st2 hg2 a1 bb1 bb0
  rintro W2 ⟨st2, a2, bb2⟩
  have l2 := st2.lt
  go_upto_region 6 with (go_at_call 32; refine (h2 _ st2).mono ?_; rintro e w3 ⟨rfl, cp3, hb3⟩)
  refine wp_gen (fun W => TaskAt W (w.heap.size + 1) 1 0 (some (x, y, z)) ∧ AnsAt W w.heap.size x y z ∧ CopyAt W W2.heap.size 1 0 x y z ∧ Below w.heap.size w W) ⟨st2.up hb3, ans_up a2 hb3, cp3, below_trans bb2 hb3⟩ ?_
  clear st2 a2 bb2 cp3 hb3 h1 h2
  generalize W2.heap.size = C at *
  rintro W3 ⟨st3, a3, c3, bb3⟩
  have lC : C < W3.heap.size := c3.task.lt
  go_upto_region 7 with (go_at_call 28; refine (h3 _ st3).mono ?_; rintro e w4 ⟨rfl, st4, hg4⟩)
  have sz4 := hg4.size
  refine wp_gen (fun W => TaskAt W (w.heap.size + 1) 1 0 none ∧ AnsAt W w.heap.size x y z ∧ CopyAt W C 1 0 x y z ∧ AnsAt W w4.heap.size x y z ∧ Below w.heap.size w W)
    ⟨st4.up (below_one _ _), ans_up (ans_kept a3 hg4 (by omega)) (below_one _ _), (c3.kept hg4 (by omega)).up (below_one _ _), ans_new _ _ _ _ _, below_trans (up bb3 hg4 (by omega)) (below_one _ _)⟩ ?_
  have lD : C < w4.heap.size := by omega
  clear st3 a3 c3 bb3 st4 hg4 sz4 lC h3
  generalize w4.heap.size = D7 at *
  rintro W4 ⟨st4, a4, c4, d4, bb4⟩
  go_upto_region 8 with (go_at_call 28; refine (h4 _ st4).mono ?_; rintro e w5 ⟨rfl, hb5⟩)
  have bx5 := fun o => below_trans hb5 (below_one w5 o)
  refine wp_gen (fun W => TaskAt W (w.heap.size + 1) 1 0 none ∧ AnsAt W w.heap.size x y z ∧ CopyAt W C 1 0 x y z ∧ AnsAt W D7 x y z ∧ Below w.heap.size w W)
    ⟨st4.up (bx5 _), ans_up a4 (bx5 _), c4.up (bx5 _), ans_up d4 (bx5 _), below_trans bb4 (bx5 _)⟩ ?_
  clear st4 a4 c4 d4 bb4 hb5 bx5 h4
  generalize w5.heap.size = D9 at *
  rintro W5 ⟨st5, a5, c5, d5, bb5⟩
  go_upto_region 9 with (go_at_call 28; refine (h5 _ _ c5.task).mono ?_; rintro e w6 ⟨rfl, ct6, hg6⟩)
  refine wp_gen (fun W => TaskAt W (w.heap.size + 1) 1 0 none ∧ AnsAt W w.heap.size x y z ∧ TaskAt W C 1 0 none ∧ AnsAt W D7 x y z ∧ AnsAt W w6.heap.size x y z ∧ Below w.heap.size w W)
    ⟨(st5.kept hg6 (by omega)).up (below_one _ _), ans_up (ans_kept a5 hg6 (by omega)) (below_one _ _), ct6.up (below_one _ _), ans_up (ans_kept d5 hg6 (by omega)) (below_one _ _), ans_new _ _ _ _ _, below_trans (up bb5 hg6 (by omega)) (below_one _ _)⟩ ?_
  clear st5 a5 c5 d5 bb5 ct6 hg6 h5
  generalize w6.heap.size = D11 at *
  rintro W6 ⟨st6, a6, ct6, d6, e6, bb6⟩
  obtain ⟨ax, ay, az⟩ := a6.three
  obtain ⟨dx, dy, dz⟩ := d6.three
  obtain ⟨ex, ey, ez⟩ := e6.three
  clear a6 d6 e6
  go_upto_region 12 with (go_at_call 33; refine (h6 _ st6).mono ?_; rintro e w7 ⟨rfl, st7, hg7⟩)
  go_upto_region 13 with fail
  refine wp_gen (fun W => EM w W 4 0 C w7.heap.size) ⟨st7.up (below_one _ _), (ct6.kept hg7 (by omega)).up (below_one _ _), zero_new _ _, l2, by have := st7.lt; omega, below_trans (up bb6 hg7 (by omega)) (below_one _ _)⟩ ?_
  clear st6 ct6 bb6 ax ay az dx dy dz ex ey ez st7 hg7 h6
  generalize w7.heap.size = Z
  intro W7 hE
  go_wp2
  go_loopw [15] (fun i wr => ∃ (k : Nat) (b : Int), k ≤ n ∧ i = .int .i64 k ∧ EM w wr 4 b C Z) (fun i _ => n - (intOf i).toNat)
  case atStart => exact ⟨0, 0, Nat.zero_le _, rfl, hE⟩
  case round =>
    clear hE
    obtain ⟨k, b, hk, rfl, hE⟩ := hrel
    by_cases hlt : k < n
    · obtain ⟨g, off, rfl, hg, hc⟩ := Hp.out (by omega)
      obtain ⟨s, x1, y1, z1, u, hs, u0, u1⟩ := hc k hlt
      clear hc
      have hs1 := hs.below hE.bel hg
      have hI0 : EI w (wr.alloc (.cells #[.bool x1, .int .u32 y1, .int .u32 z1] 48)) 4 b C Z wr.heap.size g (off + k * 6) s x1 y1 z1 u :=
        ⟨hE.up (below_one _ _), ans_new _ _ _ _ _, hs1.below (below_one _ _) (block_lt_of_cell hs1.c1)⟩
      obtain ⟨p1, p2, p3, p4, p5⟩ := hs1
      have lg : g < wr.heap.size := block_lt_of_cell p1
      have g1 := fun W h => go_no (w.heap.size + 1) 4 b s none W h (by omega)
      have g2 := fun W h => wake_no (w.heap.size + 1) 4 b none x1 y1 z1 W h (by omega) (by omega)
      have g3 := fun W h => give_no (w.heap.size + 1) 4 b none x1 y1 z1 W h (by omega)
      have g4 := fun W => go_nil s W
      have g5 := fun W h => wake_no Z 0 0 none x1 y1 z1 W h (by omega) (by omega)
      have g6 := fun W => give_nil x1 y1 z1 W
      have g7 := fun W h => go_no Z 0 0 s none W h (by omega)
      have g8 := fun W => note_nil u W
      have g9 := fun W h => note_zero Z u none W h
      have g10 := fun W h hT => note_any (w.heap.size + 1) 4 b u none W h (by omega) u0 u1 hT
      clear hs hE
      go_wp2_with (first
        | (go_at_call 33; with_reducible refine (g1 _ hI0.e.t).mono ?_; rintro e v1 ⟨rfl, rfl⟩)
        | (go_at_call 34; with_reducible refine (g2 _ hI0.e.t).mono ?_; rintro e v2 ⟨rfl, hb2⟩; have hI2 := hI0.up hb2; have qa2 := hI2.s.c1; have qe2 := hI2.s.c5; have ra2 := hI2.a.cx; have rb2 := hI2.a.cy; have rc2 := hI2.a.cz)
        | (go_at_call 27; with_reducible refine (g3 _ hI2.e.t).mono ?_; rintro e v3 ⟨rfl, hb3⟩; have hI3 := hI2.up hb3; have qa3 := hI3.s.c1; have qe3 := hI3.s.c5; have ra3 := hI3.a.cx; have rb3 := hI3.a.cy; have rc3 := hI3.a.cz)
        | (go_at_call 33; with_reducible refine (g4 _).mono ?_; rintro e v4 ⟨rfl, rfl⟩)
        | (go_at_call 34; with_reducible refine (g5 _ hI3.e.z).mono ?_; rintro e v5 ⟨rfl, hb5⟩; have hI5 := hI3.up hb5; have qa5 := hI5.s.c1; have qe5 := hI5.s.c5; have ra5 := hI5.a.cx; have rb5 := hI5.a.cy; have rc5 := hI5.a.cz)
        | (go_at_call 27; with_reducible refine (g6 _).mono ?_; rintro e v6 ⟨rfl, hb6⟩; have hI6 := hI5.up hb6; have qa6 := hI6.s.c1; have qe6 := hI6.s.c5; have ra6 := hI6.a.cx; have rb6 := hI6.a.cy; have rc6 := hI6.a.cz)
        | (go_at_call 33; with_reducible refine (g7 _ hI6.e.z).mono ?_; rintro e v7 ⟨rfl, rfl⟩)
        | (go_at_call 26; with_reducible refine (g8 _).mono ?_; rintro e v8 ⟨rfl, hb8⟩; have hI8 := hI6.up hb8; have qa8 := hI8.s.c1; have qe8 := hI8.s.c5; have ra8 := hI8.a.cx; have rb8 := hI8.a.cy; have rc8 := hI8.a.cz)
        | (go_at_call 26; with_reducible refine (g9 _ hI8.e.z).mono ?_; rintro e v9 ⟨rfl, hb9⟩; have hI9 := hI8.up hb9; have qa9 := hI9.s.c1; have qe9 := hI9.s.c5; have ra9 := hI9.a.cx; have rb9 := hI9.a.cy; have rc9 := hI9.a.cz)
        | (go_at_call 26; with_reducible refine (g10 _ hI9.e.t (hT.below hI9.e.bel)).mono ?_; rintro e v10 ⟨rfl, st10, hg10⟩))
      have hE2 := hI9.e.step st10 hg10
      clear hI0 hI2 hI3 hI5 hI6 hI8 hI9 st10 hg10 hb2 hb3 hb5 hb6 hb8 hb9 g1 g2 g3 g4 g5 g6 g7 g8 g9 g10 qa2 qa3 qa5 qa6 qa8 qa9 qe2 qe3 qe5 qe6 qe8 qe9 p1 p2 p3 p4 p5
      clear ra2 ra3 ra5 ra6 ra8 ra9 rb2 rb3 rb5 rb6 rb8 rb9 rc2 rc3 rc5 rc6 rc8 rc9
      go_roundw
      case rel => exact ⟨k + 1, _, by omega, by go_num, hE2⟩
      case measure => simp [intOf]; omega
    · obtain rfl : k = n := by omega
      have t1 := fun W h => taken_zero Z 0 none W h
      have t2 := fun W h => state_any (w.heap.size + 1) 4 b none W h
      have t3 := fun W h => state_any Z 0 0 none W h
      have t4 := fun W h => tbits_any Z 0 0 none W h
      have t5 := fun W h => state_any C 1 0 none W h
      go_upto_region 21 with (go_at_call 28; refine (taken_nil _).mono ?_; rintro e v1 ⟨rfl, hb1⟩)
      refine wp_gen (fun W => EM w W 4 b C Z) ((hE.up hb1).up (below_one _ _)) ?_
      clear hE hb1
      intro W8 hE
      go_upto_region 22 with (go_at_call 28; refine (t1 _ hE.z).mono ?_; rintro e v2 ⟨rfl, hb2⟩)
      refine wp_gen (fun W => EM w W 4 b C Z) ((hE.up hb2).up (below_one _ _)) ?_
      clear hE hb2 t1
      intro W9 hE
      go_wp2_with (first
        | (go_at_call 31; with_reducible refine (t2 _ hE.t).mono ?_; rintro e v3 ⟨rfl, rfl⟩)
        | (go_at_call 31; with_reducible refine (state_nil _).mono ?_; rintro e v3 ⟨rfl, rfl⟩)
        | (go_at_call 31; with_reducible refine (t3 _ hE.z).mono ?_; rintro e v3 ⟨rfl, rfl⟩)
        | (go_at_call 31; with_reducible refine (t5 _ hE.c).mono ?_; rintro e v3 ⟨rfl, rfl⟩)
        | (go_at_call 30; with_reducible refine (tbits_nil _).mono ?_; rintro e v3 ⟨rfl, rfl⟩)
        | (go_at_call 30; with_reducible refine (t4 _ hE.z).mono ?_; rintro e v3 ⟨rfl, rfl⟩)
        | (go_at_call 29; with_reducible refine (clear_nil _).mono ?_; rintro e v3 ⟨rfl, rfl⟩)
        | (go_at_call 32; with_reducible refine (copy_nil _).mono ?_; rintro e v3 ⟨rfl, rfl⟩)
        | (go_at_call 24; with_reducible refine (alive26 _).mono ?_; rintro e v4 ⟨rfl, hb4⟩))
      go_ret
      exact ⟨rfl, below_trans hE.bel hb4⟩

set_option maxRecDepth 100000 in
set_option maxHeartbeats 1000000 in
theorem walkBig (p : Option Addr) (cp n : Nat) (x : Bool) (y z : Int) (w : World) (hm : 100 < n) :
    Calls Tryd.prog 6 #[.slice p n cp, ansV x y z] w fun e w' => e = .returned (.bool true) ∧ Below w.heap.size w w' := by
  have hgt : decide ((100 : Int) < (n : Int)) = true := decide_eq_true (by omega)
  have bb0 := below_one w (.cells #[.bool x, .int .u32 y, .int .u32 z] 49)
  go_enter Tryd.func6, Tryd.ntmps6
  go_wp2_with (go_at_call 24; refine (alive26 _).mono ?_; rintro e w' ⟨rfl, hb⟩)
  go_ret
  exact ⟨rfl, below_trans bb0 hb⟩

theorem walkAll (p : Option Addr) (cp n : Nat) (x : Bool) (y z : Int) (w : World) (hp : n ≤ 100 → ReadsS w p n) (hT : Tab w) :
    Calls Tryd.prog 6 #[.slice p n cp, ansV x y z] w fun e w' => e = .returned (.bool true) ∧ Below w.heap.size w w' := by
  by_cases h : n ≤ 100
  · exact walk p cp n x y z w h (hp h) hT
  · exact walkBig p cp n x y z w (by omega)
end Go.Proofs.YtbbnackahgcegaaDoor.taskEnds
