/- PendHighest: levels come from the greatest on, each once. -/
import Derived.Test.YtbbnackahgcegaaDoorPendLaw
import Derived.Test.YtbbnackahgcegaaDoorSame
import Derived.ProofKit
import Derived.OpenShut
import Derived.Deep.DeepCutAuto
import Derived.ChangeOld
namespace Go.Proofs.YtbbnackahgcegaaDoor.pendHighest
open Go.ChangeShapes Go.WideShapes Go.ChangeAt Go.RowKit
set_option linter.all false

/-- the law's Pend, in the block that it made -/
structure HM (w W : World) (b r m : Int) : Prop where
  p : PendAt W w.heap.size 0 b r m
  bel : Below w.heap.size w W
theorem HM.step {w W W' : World} {b r m b' r' m' : Int} (h : HM w W b r m) (hp : PendAt W' w.heap.size 0 b' r' m') (hg : W.grownBy W' (some w.heap.size)) : HM w W' b' r' m' :=
  ⟨hp, h.bel.grown hg h.bel.size (fun k hk => by injection hk with hk; omega)⟩
theorem hiI_lt32 {b : Int} (h0 : 0 ≤ b) (h1 : b ≤ 4294967295) : hiI b < 32 := by
  have := hiI_bd h0 h1
  omega

set_option maxRecDepth 100000 in
set_option maxHeartbeats 2000000 in
theorem walk (p : Option Addr) (cap : Nat) (zs : List Int) (w : World) (hm : zs.length ≤ 60) (hp : Reads w p zs) (hT : Tab w) :
    Calls Tryd.prog 3 #[.slice p zs.length cap] w fun e w' => e = .returned (.bool true) ∧ Below w.heap.size w w' := by
  have hgt : decide ((60 : Int) < (zs.length : Int)) = false := decide_eq_false (by omega)
  have Hp := Lib.hid hp.2
  clear hp
  have St0 := Lib.hid (HM.mk (PendAt.new w 27) (below_one w (.cells #[.int .u32 0, .int .i64 0, .int .i64 0] 27)))
  go_enter Tryd.func3, Tryd.ntmps3
  go_wp2
  go_loopw [5] (fun i wr => ∃ (k : Nat) (b r m : Int), k ≤ zs.length ∧ i = .int .i64 k ∧ HM w wr b r m ∧ (0 ≤ r ∧ r ≤ k) ∧ (0 ≤ m ∧ m ≤ k)) (fun i _ => zs.length - (intOf i).toNat)
  case atStart => exact ⟨0, 0, 0, 0, Nat.zero_le _, rfl, St0.out, by omega, by omega⟩
  case round =>
    obtain ⟨k, b, r, m, hk, rfl, hst, hr, hmm⟩ := hrel
    by_cases hlt : k < zs.length
    · obtain ⟨g, off, rfl, hcells⟩ := Hp.out (by omega)
      have hb : g < w.heap.size := block_lt_of_cell (hcells k hlt)
      have hcell := (hst.bel.cell (p := ⟨g, off + k, none⟩) hb).trans (hcells k hlt)
      clear hcells
      generalize hz : zs.getD k 0 = z at hcell
      clear hz
      have hra := fun W h => praise_any w.heap.size 0 z b r m W h (by omega) (by omega)
      have hrb : 0 ≤ raiseR b r z ∧ raiseR b r z ≤ r + 1 := by unfold raiseR; split <;> omega
      have hmb : 0 ≤ raiseM b m z ∧ raiseM b m z ≤ m + 1 := by unfold raiseM; split <;> omega
      go_wp2_with (go_at_call 13; refine (hra _ hst.p).mono ?_; rintro e w1 ⟨rfl, hp1, hg1⟩)
      have hst1 := hst.step hp1 hg1
      clear hst hp1 hg1 hra hcell
      go_roundw
      case rel => exact ⟨k + 1, _, _, _, by omega, by go_num, hst1, by omega, by omega⟩
      case measure => simp [intOf]; omega
    · obtain rfl : k = zs.length := by omega
      clear hr hmm
      have hpos := hiI_lt32 hst.p.lo hst.p.hi
      clear hk hlt
      go_wp2
      go_loopw [4, 6] (fun x i wr => ∃ (k : Nat) (y b r m : Int), x = .int .i64 y ∧ i = .int .i64 k ∧ HM w wr b r m ∧ 0 ≤ y ∧ y + k ≤ 32 ∧ hiI b < y) (fun _ i _ => 33 - (intOf i).toNat)
      case atStart => exact ⟨0, 32, b, r, m, rfl, rfl, hst, by omega, by omega, hpos⟩
      case round =>
        clear hst hpos
        obtain ⟨k, y, b, r, m, rfl, rfl, hst, y0, y1, hy⟩ := hrel
        have hk : (k : Int) < 33 := by omega
        have htop := fun W h hT => ptop_any w.heap.size 0 b r m W h hT
        by_cases hneg : hiI b < 0
        · have hb0 := (hiI_neg hst.p.lo hst.p.hi).1 hneg
          subst hb0
          rw [hiI_zero] at htop
          clear hneg hy
          go_wp2_with (first
            | (go_at_call 14; refine (htop _ hst.p (hT.below hst.bel)).mono ?_; rintro e w1 ⟨rfl, rfl⟩)
            | (go_at_call 15; refine (pbits_any _ _ _ _ _ _ hst.p).mono ?_; rintro e w1 ⟨rfl, rfl⟩)
            | (go_at_call 12; refine (alive07 _ (hT.below hst.bel)).mono ?_; rintro e w1 ⟨rfl, hb1⟩))
          go_ret
          exact ⟨rfl, below_trans hst.bel hb1⟩
        · have h0 : 0 ≤ hiI b := by omega
          have hhas := hiI_has hst.p.lo hst.p.hi h0
          have hless := hiI_less hst.p.lo hst.p.hi h0
          have htake := fun W h => take_any w.heap.size 0 (hiI b) b r m W h
          rw [hhas] at htake
          simp only [if_true] at htake
          generalize hiI b = t at *
          have hge : decide (y ≤ t) = false := decide_eq_false (by omega)
          have Hl := Lib.hid hless
          clear hless hhas hneg
          go_wp2_with (first
            | (go_at_call 14; refine (htop _ hst.p (hT.below hst.bel)).mono ?_; rintro e w1 ⟨rfl, rfl⟩)
            | (go_at_call 16; refine (htake _ hst.p).mono ?_; rintro e w2 ⟨rfl, hp2, hg2⟩))
          have hst2 := hst.step hp2 hg2
          clear hst hp2 hg2 htake htop
          go_roundw
          case rel => exact ⟨k + 1, t, _, r, m, rfl, by go_num, hst2, h0, by omega, Hl.out⟩
          case measure => simp [intOf]; omega

set_option maxHeartbeats 1000000 in
theorem walkBig (p : Option Addr) (cap n : Nat) (w : World) (hm : 60 < n) (hT : Tab w) :
    Calls Tryd.prog 3 #[.slice p n cap] w fun e w' => e = .returned (.bool true) ∧ Below w.heap.size w w' := by
  have hgt : decide ((60 : Int) < (n : Int)) = true := decide_eq_true (by omega)
  go_enter Tryd.func3, Tryd.ntmps3
  go_wp2_with (go_at_call 12; refine (alive07 _ hT).mono ?_; rintro e w' ⟨rfl, hb⟩)
  go_ret
  exact ⟨rfl, hb⟩

theorem walkAll (p : Option Addr) (cap : Nat) (zs : List Int) (w : World) (hp : Reads w p zs) (hT : Tab w) :
    Calls Tryd.prog 3 #[.slice p zs.length cap] w fun e w' => e = .returned (.bool true) ∧ Below w.heap.size w w' := by
  by_cases h : zs.length ≤ 60
  · exact walk p cap zs w h hp hT
  · exact walkBig p cap zs.length w (by omega) hT
end Go.Proofs.YtbbnackahgcegaaDoor.pendHighest
