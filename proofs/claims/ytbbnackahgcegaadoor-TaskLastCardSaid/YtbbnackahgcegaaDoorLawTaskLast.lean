/- TaskLast: the last of several answers is taken; bits gather till they are cleared. -/
import Derived.Test.YtbbnackahgcegaaDoorTaskLaw
import Derived.ProofKit
import Derived.OpenShut
import Derived.Deep.DeepCutAuto
import Derived.ChangeOld
namespace Go.Proofs.YtbbnackahgcegaaDoor.taskLast
open Go.ChangeShapes Go.WideShapes Go.ChangeAt Go.RowKit
set_option linter.all false

/-- a slice at 'p' reads as the answers 'zs' -/
def ReadsA (w : World) (p : Option Addr) (zs : List (Bool × Int × Int)) : Prop := 0 < zs.length → ∃ b off, p = some ⟨b, off, none⟩ ∧ b < w.heap.size ∧
  ∀ i, i < zs.length → w.cell? ⟨b, off + i * 3, none⟩ = some (.bool (zs.getD i (false, 0, 0)).1) ∧ w.cell? ⟨b, off + i * 3 + 1, none⟩ = some (.int .u32 (zs.getD i (false, 0, 0)).2.1) ∧ w.cell? ⟨b, off + i * 3 + 2, none⟩ = some (.int .u32 (zs.getD i (false, 0, 0)).2.2)
/-- and one as the words 'zs' -/
def ReadsU (w : World) (p : Option Addr) (zs : List Int) : Prop := 0 < zs.length → ∃ b off, p = some ⟨b, off, none⟩ ∧ b < w.heap.size ∧
  ∀ i, i < zs.length → w.cell? ⟨b, off + i, none⟩ = some (.int .u32 (zs.getD i 0)) ∧ 0 ≤ zs.getD i 0 ∧ zs.getD i 0 ≤ 4294967295

/-- the law's task -/
structure TM (w W : World) (b : Int) (A : Option (Bool × Int × Int)) : Prop where
  p : TaskAt W w.heap.size 1 b A
  bel : Below w.heap.size w W
theorem TM.step {w W W' : World} {b b' : Int} {A A' : Option (Bool × Int × Int)} (h : TM w W b A) (hp : TaskAt W' w.heap.size 1 b' A') (hg : W.grownBy W' (some w.heap.size)) : TM w W' b' A' :=
  ⟨hp, h.bel.grown hg h.bel.size (fun k hk => by injection hk with hk; omega)⟩

set_option maxRecDepth 100000 in
set_option maxHeartbeats 4000000 in
theorem walk (p q : Option Addr) (cp cq : Nat) (zs : List (Bool × Int × Int)) (us : List Int) (w : World) (hm : zs.length ≤ 40) (hn : us.length ≤ 40) (hp : ReadsA w p zs) (hq : ReadsU w q us) (hT : Tab w) :
    Calls Tryd.prog 5 #[.slice p zs.length cp, .slice q us.length cq] w fun e w' => e = .returned (.bool true) ∧ Below w.heap.size w w' := by
  have hgt : decide ((40 : Int) < (zs.length : Int)) = false := decide_eq_false (by omega)
  have hgt2 : decide ((40 : Int) < (us.length : Int)) = false := decide_eq_false (by omega)
  have Hp := Lib.hid hp
  have Hq := Lib.hid hq
  clear hp hq
  go_enter Tryd.func5, Tryd.ntmps5
  go_wp2_with (go_at_call 25; refine (new_any _).mono ?_; rintro e w1 ⟨rfl, st1, hb1⟩)
  go_loopw [6, 7] (fun all i wr => ∃ (k : Nat) (b : Int), k ≤ us.length ∧ i = .int .i64 k ∧ all = .int .u32 b ∧ TM w wr b none) (fun _ i _ => us.length - (intOf i).toNat)
  case atStart => exact ⟨0, 0, Nat.zero_le _, rfl, rfl, st1, hb1⟩
  case round =>
    clear st1 hb1
    obtain ⟨k, b, hk, rfl, rfl, hst⟩ := hrel
    by_cases hlt : k < us.length
    · obtain ⟨g, off, rfl, hg, hc⟩ := Hq.out (by omega)
      obtain ⟨hc0, u0, u1⟩ := hc k hlt
      have hcell := (hst.bel.cell (p := ⟨g, off + k, none⟩) hg).trans hc0
      clear hc hc0
      generalize us.getD k 0 = z at *
      have hor := orI_bits hst.p.lo hst.p.hi u0 u1
      have hno := fun W h hT => note_any w.heap.size 1 b z none W h (by omega) u0 u1 hT
      go_wp2_with (go_at_call 26; refine (hno _ hst.p (hT.below hst.bel)).mono ?_; rintro e w2 ⟨rfl, hp2, hg2⟩)
      have hst2 := hst.step hp2 hg2
      clear hst hp2 hg2 hno hor hcell
      go_roundw
      case rel => exact ⟨k + 1, _, by omega, by go_num, rfl, hst2⟩
      case measure => simp [intOf]; omega
    · obtain rfl : k = us.length := by omega
      clear hk hlt
      go_wp2
      go_loopw [8] (fun i wr => ∃ (k : Nat), k ≤ zs.length ∧ i = .int .i64 k ∧ TM w wr b (if k = 0 then none else some (zs.getD (k - 1) (false, 0, 0)))) (fun i _ => zs.length - (intOf i).toNat)
      case atStart => exact ⟨0, Nat.zero_le _, rfl, hst⟩
      case round =>
        clear hst
        obtain ⟨k, hk, rfl, hst⟩ := hrel
        by_cases hlt : k < zs.length
        · obtain ⟨g, off, rfl, hg, hc⟩ := Hp.out (by omega)
          obtain ⟨hc0, hc1, hc2⟩ := hc k hlt
          have hd0 := (hst.bel.cell (p := ⟨g, off + k * 3, none⟩) hg).trans hc0
          have hd1 := (hst.bel.cell (p := ⟨g, off + k * 3 + 1, none⟩) hg).trans hc1
          have hd2 := (hst.bel.cell (p := ⟨g, off + k * 3 + 2, none⟩) hg).trans hc2
          clear hc hc0 hc1 hc2
          have hz : ∃ x y z, zs.getD k (false, 0, 0) = (x, y, z) := ⟨_, _, _, rfl⟩
          obtain ⟨x, y, z, hz⟩ := hz
          rw [hz] at hd0 hd1 hd2
          have Hz := Lib.hid hz
          clear hz
          simp only at hd0 hd1 hd2
          have hgi := fun W h => give_yes w.heap.size b (if k = 0 then none else some (zs.getD (k - 1) (false, 0, 0))) x y z W h
          generalize (if k = 0 then none else some (zs.getD (k - 1) (false, 0, 0))) = A at *
          go_wp2_with (go_at_call 27; refine (hgi _ hst.p).mono ?_; rintro e w2 ⟨rfl, hp2, hg2⟩)
          have hst2 := hst.step hp2 hg2
          clear hst hp2 hg2 hgi hd0 hd1 hd2
          go_roundw
          case rel =>
            refine ⟨k + 1, by omega, by go_num, ?_⟩
            rw [if_neg (by omega), Nat.add_sub_cancel, Hz.out]
            exact hst2
          case measure => simp [intOf]; omega
        · obtain rfl : k = zs.length := by omega
          have hcl := fun W h => clear_any w.heap.size 1 b none W h (by omega)
          have hbi := fun W h => tbits_any w.heap.size 1 0 none W h
          have hsta := fun W h => state_any w.heap.size 1 0 none W h
          by_cases h0 : zs.length = 0
          · rw [if_pos h0] at hst
            have hl0 : decide ((0 : Int) < (zs.length : Int)) = false := decide_eq_false (by omega)
            have hta := fun W h => taken_none w.heap.size 1 b W h (by omega)
            go_upto_region 17 with (go_at_call 28; refine (hta _ hst.p).mono ?_; rintro e w2 ⟨rfl, hb2⟩)
            have hst1 : TM w w2 b none := ⟨hst.p.up hb2, below_trans hst.bel hb2⟩
            refine wp_gen (fun W => TM w W b none) ⟨hst1.p.up (below_one _ _), below_trans hst1.bel (below_one _ _)⟩ ?_
            clear hst hst1 hb2 hta
            intro W hst0
            go_quiet (fail)
            have hst2 : TM w (W.drewN nq) b none := ⟨hst0.p.up (below_drewN (Below.refl _ _) _), below_trans hst0.bel (below_drewN (Below.refl _ _) _)⟩
            clear hst0
            go_wp2_with (first
              | (go_at_call 29; refine (hcl _ hst2.p).mono ?_; rintro e w5 ⟨rfl, hp5, hg5⟩; have hst5 := hst2.step hp5 hg5)
              | (go_at_call 30; refine (hbi _ hp5).mono ?_; rintro e w6 ⟨rfl, rfl⟩)
              | (go_at_call 31; refine (hsta _ hp5).mono ?_; rintro e w7 ⟨rfl, rfl⟩)
              | (go_at_call 24; refine (alive26 _).mono ?_; rintro e w8 ⟨rfl, hb8⟩))
            go_ret
            exact ⟨rfl, below_trans hst5.bel hb8⟩
          · rw [if_neg h0] at hst
            have hl0 : decide ((0 : Int) < (zs.length : Int)) = true := decide_eq_true (by omega)
            have hl1 : 0 < zs.length := by omega
            have hl2 : decide (0 < zs.length) = true := decide_eq_true hl1
            have hl3 : zs ≠ [] := by intro h; rw [h] at h0; exact h0 rfl
            obtain ⟨g, off, rfl, hg, hc⟩ := Hp.out (by omega)
            obtain ⟨hc0, hc1, hc2⟩ := hc (zs.length - 1) (by omega)
            clear hc
            have hz : ∃ x y z, zs.getD (zs.length - 1) (false, 0, 0) = (x, y, z) := ⟨_, _, _, rfl⟩
            obtain ⟨x, y, z, hz⟩ := hz
            rw [hz] at hc0 hc1 hc2 hst
            clear hz
            simp only at hc0 hc1 hc2
            have h3 : (0 : Int) ≤ (zs.length : Int) - 1 := by omega
            have h4 : (zs.length : Int) - 1 < (zs.length : Int) := by omega
            have h5 : ((zs.length : Int) - 1).toNat = zs.length - 1 := by omega
            have hta := fun W h => taken_some w.heap.size 1 b x y z W h (by omega)
            go_upto_region 17 with (go_at_call 28; refine (hta _ hst.p).mono ?_; rintro e w2 ⟨rfl, hp2, hg2⟩)
            have hst1 := hst.step hp2 hg2
            refine wp_gen (fun W => TM w W b none ∧ AnsAt W w2.heap.size x y z) ⟨⟨hst1.p.up (below_one _ _), below_trans hst1.bel (below_one _ _)⟩, ⟨World.cell?_alloc_at _ _ _ _ rfl, World.cell?_alloc_at _ _ _ _ rfl, World.cell?_alloc_at _ _ _ _ rfl⟩⟩ ?_
            clear hst hst1 hp2 hg2 hta
            rintro W ⟨hst0, hA⟩
            generalize w2.heap.size = D at *
            have ax := hA.cx
            have ay := hA.cy
            have az := hA.cz
            have hd0 := (hst0.bel.cell (p := ⟨g, off + (zs.length - 1) * 3, none⟩) hg).trans hc0
            have hd1 := (hst0.bel.cell (p := ⟨g, off + (zs.length - 1) * 3 + 1, none⟩) hg).trans hc1
            have hd2 := (hst0.bel.cell (p := ⟨g, off + (zs.length - 1) * 3 + 2, none⟩) hg).trans hc2
            clear hc0 hc1 hc2 hA
            go_quiet (fail)
            have hst2 : TM w (W.drewN nq) b none := ⟨hst0.p.up (below_drewN (Below.refl _ _) _), below_trans hst0.bel (below_drewN (Below.refl _ _) _)⟩
            clear hst0 hd0 hd1 hd2 ax ay az
            go_wp2_with (first
              | (go_at_call 29; refine (hcl _ hst2.p).mono ?_; rintro e w5 ⟨rfl, hp5, hg5⟩; have hst5 := hst2.step hp5 hg5)
              | (go_at_call 30; refine (hbi _ hp5).mono ?_; rintro e w6 ⟨rfl, rfl⟩)
              | (go_at_call 31; refine (hsta _ hp5).mono ?_; rintro e w7 ⟨rfl, rfl⟩)
              | (go_at_call 24; refine (alive26 _).mono ?_; rintro e w8 ⟨rfl, hb8⟩))
            go_ret
            exact ⟨rfl, below_trans hst5.bel hb8⟩

set_option maxHeartbeats 1000000 in
theorem walkBig (p q : Option Addr) (cp cq n m : Nat) (w : World) (hm : 40 < n ∨ (n ≤ 40 ∧ 40 < m)) :
    Calls Tryd.prog 5 #[.slice p n cp, .slice q m cq] w fun e w' => e = .returned (.bool true) ∧ Below w.heap.size w w' := by
  rcases hm with hm | ⟨h1, h2⟩
  · have hgt : decide ((40 : Int) < (n : Int)) = true := decide_eq_true (by omega)
    go_enter Tryd.func5, Tryd.ntmps5
    go_wp2_with (go_at_call 24; refine (alive26 _).mono ?_; rintro e w' ⟨rfl, hb⟩)
    go_ret
    exact ⟨rfl, hb⟩
  · have hgt : decide ((40 : Int) < (n : Int)) = false := decide_eq_false (by omega)
    have hgt2 : decide ((40 : Int) < (m : Int)) = true := decide_eq_true (by omega)
    go_enter Tryd.func5, Tryd.ntmps5
    go_wp2_with (go_at_call 24; refine (alive26 _).mono ?_; rintro e w' ⟨rfl, hb⟩)
    go_ret
    exact ⟨rfl, hb⟩

theorem walkAll (p : Option Addr) (cp n : Nat) (q : Option Addr) (cq m : Nat) (w : World) (hp : n ≤ 40 → ∃ zs : List (Bool × Int × Int), n = zs.length ∧ ReadsA w p zs) (hq : m ≤ 40 → ∃ us : List Int, m = us.length ∧ ReadsU w q us) (hT : Tab w) :
    Calls Tryd.prog 5 #[.slice p n cp, .slice q m cq] w fun e w' => e = .returned (.bool true) ∧ Below w.heap.size w w' := by
  by_cases h : n ≤ 40
  · by_cases h2 : m ≤ 40
    · obtain ⟨zs, rfl, hz⟩ := hp h
      obtain ⟨us, rfl, hu⟩ := hq h2
      exact walk p q cp cq zs us w h h2 hz hu hT
    · exact walkBig p q cp cq n m w (.inr ⟨h, by omega⟩)
  · exact walkBig p q cp cq n m w (.inl (by omega))
end Go.Proofs.YtbbnackahgcegaaDoor.taskLast
