/- RankTurns: after Turn a task follows all others of its priority. -/
import Derived.Test.YtbbnackahgcegaaDoorRankLaw
import Derived.Test.YtbbnackahgcegaaDoorRankT
import Derived.Test.YtbbnackahgcegaaDoorRankNil
import Derived.Test.YtbbnackahgcegaaDoorSame
import Derived.ProofKit
import Derived.OpenShut
import Derived.Deep.DeepCutAuto
import Derived.ChangeOld
namespace Go.Proofs.YtbbnackahgcegaaDoor.rankTurns
open Go.ChangeShapes Go.WideShapes Go.ChangeAt Go.RowKit
set_option linter.all false

/-- the law's Rank, in the block that it made, with the tasks 0 .. k-1 -/
structure KM (w W : World) (zs : List Int) (k : Nat) (b n : Int) : Prop where
  r : RK W w.heap.size (rowZ zs k) b n
  bel : Below w.heap.size w W
  n : n = ((catQ (rowZ zs k) 32).length : Int)
theorem KM.step {w W W' : World} {zs : List Int} {k P : Nat} {b n : Int} (h : KM w W zs k b n) (hz : zs.getD k 0 = (P : Int)) (hP : P < 32) (hr : RK W' w.heap.size (addQ (rowZ zs k) P k) (putT b P) (n + 1)) (hg : W.grownBy W' (some w.heap.size)) : KM w W' zs (k + 1) (putT b P) (n + 1) := by
  refine ⟨by rw [rowZ_in hz hP]; exact hr, h.bel.grown hg h.bel.size (fun k hk => by injection hk with hk; omega), ?_⟩
  rw [rowZ_in hz hP, catQ_add, if_pos hP, h.n]
  omega
theorem KM.skip {w W W' : World} {zs : List Int} {k : Nat} {b n : Int} (h : KM w W zs k b n) (hz : ¬ (0 ≤ zs.getD k 0 ∧ zs.getD k 0 < 32)) (hb : Below W.heap.size W W') : KM w W' zs (k + 1) b n :=
  ⟨by rw [rowZ_out hz]; exact h.r.up hb, below_trans h.bel hb, by rw [rowZ_out hz]; exact h.n⟩
theorem KM.up {w W W' : World} {zs : List Int} {k : Nat} {b n : Int} (h : KM w W zs k b n) (hb : Below W.heap.size W W') : KM w W' zs k b n := ⟨h.r.up hb, below_trans h.bel hb, h.n⟩
theorem KM.new (w : World) (zs : List Int) (t : TypeId) : KM w (w.alloc (.cells Tryd.zeroCells67 t)) zs 0 0 0 :=
  ⟨by rw [rowZ_zero]; exact RK.new w t, below_one _ _, by rw [rowZ_zero]; decide⟩
theorem KM.nb {w W : World} {zs : List Int} {k : Nat} {b n : Int} (h : KM w W zs k b n) : 0 ≤ n ∧ n ≤ 512 := by
  have := catQ_len h.r.len 32 (by omega)
  have := h.n
  omega

theorem Iv.reads {w : World} {base c : Nat} {a : Option Addr} {s : List Int} (h : Iv w base (.slice a s.length c) s) (hs : s.length ≤ 1000000) : Reads w a s := by
  rcases h.2 with ⟨he, hn⟩ | ⟨g, cap, cur, he, hb, hg, hn, hc, hs, ht⟩
  · exact ⟨by omega, fun hp => by omega⟩
  · refine ⟨by omega, fun hp => ?_⟩
    injection he with h1 h2 h3
    subst h1
    refine ⟨g, 0, rfl, fun i hi => ?_⟩
    have := h.cells (g := g) rfl i (.int .i64 (s.getD i 0)) (by simp [hi])
    rwa [Addr.add_mid] at this
theorem reads_up {w w' : World} {a : Option Addr} {s : List Int} (h : Reads w a s) (hb : Below w.heap.size w w') : Reads w' a s := by
  refine ⟨h.1, fun hp => ?_⟩
  obtain ⟨g, o, e, hc⟩ := h.2 hp
  exact ⟨g, o, e, fun i hi => (hb.cell (p := ⟨g, o + i, none⟩) (block_lt_of_cell (hc i hi))).trans (hc i hi)⟩
theorem reads_after {w7 w8 : World} {g B : Nat} {ls : List Int} (hl : ls.length ≤ 1000000) (hc : ∀ i, i < ls.length → w7.cell? ⟨g, i, none⟩ = some (.int .i64 (ls.getD i 0))) (hg : w7.grownBy w8 (some B)) (hge : g ≠ B) : Reads w8 (some ⟨g, 0, none⟩) ls :=
  ⟨by omega, fun _ => ⟨g, 0, rfl, fun i hi => by rw [Nat.zero_add]; exact (only_cell hg (p := ⟨g, i, none⟩) (block_lt_of_cell (hc i hi)) hge).trans (hc i hi)⟩⟩
theorem same_self (p q : Option Addr) (c d : Nat) (xs : List Int) (w : World) (hp : Reads w p xs) (hq : Reads w q xs) :
    Calls Tryd.prog 49 #[.slice p xs.length c, .slice q xs.length d] w fun e w' => e = .returned (.bool true) ∧ Below w.heap.size w w' :=
  (same_any p q c d xs xs w hp hq).mono fun e w' ⟨he, n, hw⟩ => ⟨by rw [he]; simp, by rw [hw]; exact below_drewN (Below.refl _ _) n⟩

set_option maxRecDepth 100000 in
set_option maxHeartbeats 4000000 in
theorem walk (p : Option Addr) (cap : Nat) (zs : List Int) (w : World) (hm : zs.length ≤ 16) (hp : Reads w p zs) (hT : Tab w) :
    Calls Tryd.prog 9 #[.slice p zs.length cap] w fun e w' => e = .returned (.bool true) ∧ Below w.heap.size w w' := by
  have hgt : decide ((16 : Int) < (zs.length : Int)) = false := decide_eq_false (by omega)
  have Hp := Lib.hid hp.2
  clear hp
  have St0 := Lib.hid (KM.new w zs 67)
  go_enter Tryd.func9, Tryd.ntmps9
  go_wp2
  go_loopw [4] (fun i wr => ∃ (k : Nat) (b n : Int), k ≤ zs.length ∧ i = .int .i64 k ∧ KM w wr zs k b n) (fun i _ => zs.length - (intOf i).toNat)
  case atStart => exact ⟨0, 0, 0, Nat.zero_le _, rfl, St0.out⟩
  case round =>
    obtain ⟨k, b, n, hk, rfl, hst⟩ := hrel
    by_cases hlt : k < zs.length
    · obtain ⟨g, off, rfl, hcells⟩ := Hp.out (by omega)
      have hb : g < w.heap.size := block_lt_of_cell (hcells k hlt)
      have hcell := (hst.bel.cell (p := ⟨g, off + k, none⟩) hb).trans (hcells k hlt)
      clear hcells
      have hnb := hst.nb
      by_cases hz : 0 ≤ zs.getD k 0 ∧ zs.getD k 0 < 32
      · obtain ⟨P, hP⟩ := Int.eq_ofNat_of_zero_le hz.1
        have hP32 : P < 32 := by omega
        have had := fun W hT h => radd_yes w.heap.size P (rowZ zs k) b n k W hT h (rowZ_no zs k) (by omega) (by omega) hP32 (by have := rowZ_len zs k P; omega) (by omega)
        have Hz := Lib.hid (And.intro hP hP32)
        have d1 : decide ((0 : Int) ≤ (P : Int)) = true := decide_eq_true (by omega)
        have d2 : decide ((P : Int) ≤ 31) = true := decide_eq_true (by omega)
        rw [hP] at hcell
        clear hz hP hP32
        have hstd := hst.up (Below.refl _ _).drew
        go_upto_region 7 with fail
        have hcelld : wr.drew.cell? ⟨g, off + k, none⟩ = some (.int .i64 (P : Int)) := hcell
        go_region_held3 (fun W => W.cell? ⟨g, off + k, none⟩ = some (.int .i64 (P : Int))) (first | (go_keep; done) | assumption) (first
          | (go_at_call 36; with_reducible refine (had _ (hT.below hstd.bel) hstd.r).mono ?_; rintro e w1 ⟨rfl, hr1, hg1⟩; have hcell1 := (only_cell hg1 (p := ⟨g, off + k, none⟩) (block_lt_of_cell hcelld) (Nat.ne_of_lt hb)).trans hcelld))
        have hst1 := hstd.step Hz.out.1 Hz.out.2 hr1 hg1
        clear hst hstd hr1 hg1 had hcell hcelld hcell1
        go_wp2
        go_roundw
        case rel => exact ⟨k + 1, _, _, by omega, by go_num, hst1⟩
        case measure => simp [intOf]; omega
      · have had := fun W hT h => radd_bad w.heap.size (rowZ zs k) b n k (zs.getD k 0) W hT h (rowZ_no zs k) (by omega)
        have Hz := Lib.hid hz
        generalize zs.getD k 0 = z at hcell had hz
        by_cases hz0 : 0 ≤ z
        · have d1 : decide ((0 : Int) ≤ z) = true := decide_eq_true hz0
          have d2 : decide (z ≤ 31) = false := decide_eq_false (by omega)
          have d3 : ¬ z ≤ 31 := by omega
          clear hz
          have hstd := hst.up (Below.refl _ _).drew
          go_upto_region 7 with fail
          have hcelld : wr.drew.cell? ⟨g, off + k, none⟩ = some (.int .i64 z) := hcell
          go_region_held3 (fun W => W.cell? ⟨g, off + k, none⟩ = some (.int .i64 z)) (first | (go_keep; done) | assumption) (first
            | (go_at_call 36; with_reducible refine (had _ (hT.below hstd.bel) hstd.r).mono ?_; rintro e w1 ⟨rfl, hl1⟩; have hcell1 := (hl1.cell (p := ⟨g, off + k, none⟩) (block_lt_of_cell hcelld)).trans hcelld))
          have hst1 := hstd.skip Hz.out hl1
          clear hst hstd hl1 had hcell hcelld hcell1
          go_wp2
          go_roundw
          case rel => exact ⟨k + 1, _, _, by omega, by go_num, hst1⟩
          case measure => simp [intOf]; omega
        · have d1 : decide ((0 : Int) ≤ z) = false := decide_eq_false hz0
          have d2 : z < 0 := by omega
          clear hz
          have hstd := hst.up (Below.refl _ _).drew
          go_upto_region 7 with fail
          have hcelld : wr.drew.cell? ⟨g, off + k, none⟩ = some (.int .i64 z) := hcell
          refine wp_region_noPanic ?_
          refine wp_region_held_drew (S := fun W => W.cell? ⟨g, off + k, none⟩ = some (.int .i64 z)) (by kernel_rfl) (hcelld) (fun hHeld => ?_)
          refine wpAnyH_take (i := 0) (oi := _) (v := ?_) rfl (by kernel_rfl) (by kernel_rfl) (by kernel_rfl) (fun _ _ _ h => h) (Or.inl ⟨by kernel_rfl, ?_⟩) (by assumption) ?_
          rotate_left
          · intro w hSw; (try dsimp only at hSw); go_simp; try with_reducible rfl
          try simp only [Act.put, List.setIfInBounds_toArray, List.set_cons_zero, List.set_cons_succ]
          refine wpAnyH_take (i := 1) (oi := _) (v := ?_) rfl (by kernel_rfl) (by kernel_rfl) (by kernel_rfl) (fun _ _ _ h => h) (Or.inl ⟨by kernel_rfl, ?_⟩) (by assumption) ?_
          rotate_left
          · intro w hSw; (try dsimp only at hSw); go_simp; try with_reducible rfl
          try simp only [Act.put, List.setIfInBounds_toArray, List.set_cons_zero, List.set_cons_succ]
          refine wpAnyH_take (i := 2) (oi := _) (v := ?_) rfl (by kernel_rfl) (by kernel_rfl) (by kernel_rfl) (fun _ _ _ h => h) (Or.inl ⟨by kernel_rfl, ?_⟩) (by assumption) ?_
          rotate_left
          · intro w hSw; (try dsimp only at hSw); go_simp; try with_reducible rfl
          try simp only [Act.put, List.setIfInBounds_toArray, List.set_cons_zero, List.set_cons_succ]
          refine wpAnyH_take (i := 3) (oi := _) (v := ?_) rfl (by kernel_rfl) (by kernel_rfl) (by kernel_rfl) (fun _ _ _ h => h) (Or.inl ⟨by kernel_rfl, ?_⟩) (by assumption) ?_
          rotate_left
          · intro w hSw; (try dsimp only at hSw); go_simp; try with_reducible rfl
          try simp only [Act.put, List.setIfInBounds_toArray, List.set_cons_zero, List.set_cons_succ]
          refine wpAnyH_take (i := 4) (oi := _) (v := ?_) rfl (by kernel_rfl) (by kernel_rfl) (by kernel_rfl) (fun _ _ _ h => h) (Or.inl ⟨by kernel_rfl, ?_⟩) (by assumption) ?_
          rotate_left
          · intro w hSw; (try dsimp only at hSw); go_simp; try with_reducible rfl
          try simp only [Act.put, List.setIfInBounds_toArray, List.set_cons_zero, List.set_cons_succ]
          refine wpAnyH_take (i := 5) (oi := _) (v := ?_) rfl (by kernel_rfl) (by kernel_rfl) (by kernel_rfl) (fun _ _ _ h => h) (Or.inl ⟨by kernel_rfl, ?_⟩) (by assumption) ?_
          rotate_left
          · intro w hSw; (try dsimp only at hSw); go_simp; try with_reducible rfl
          try simp only [Act.put, List.setIfInBounds_toArray, List.set_cons_zero, List.set_cons_succ]
          refine wpAnyH_take (i := 7) (oi := _) (v := ?_) rfl (by kernel_rfl) (by kernel_rfl) (by kernel_rfl) (fun _ _ _ h => h) (Or.inl ⟨by kernel_rfl, ?_⟩) (by assumption) ?_
          rotate_left
          · intro w hSw; (try dsimp only at hSw); go_simp; try with_reducible rfl
          try simp only [Act.put, List.setIfInBounds_toArray, List.set_cons_zero, List.set_cons_succ]
          refine wpAnyH_take (i := 8) (oi := _) (v := ?_) rfl (by kernel_rfl) (by kernel_rfl) (by kernel_rfl) (fun _ _ _ h => h) (Or.inl ⟨by kernel_rfl, ?_⟩) (by assumption) ?_
          rotate_left
          · intro w hSw; (try dsimp only at hSw); go_simp; try with_reducible rfl
          try simp only [Act.put, List.setIfInBounds_toArray, List.set_cons_zero, List.set_cons_succ]
          refine wpAnyH_take (i := 9) (oi := _) (v := ?_) rfl (by kernel_rfl) (by kernel_rfl) (by kernel_rfl) (fun _ _ _ h => h) (Or.inl ⟨by kernel_rfl, ?_⟩) (by assumption) ?_
          rotate_left
          · intro w hSw; (try dsimp only at hSw); go_simp; try with_reducible rfl
          try simp only [Act.put, List.setIfInBounds_toArray, List.set_cons_zero, List.set_cons_succ]
          refine wpAnyH_take (i := 10) (oi := _) (v := ?_) rfl (by kernel_rfl) (by kernel_rfl) (by kernel_rfl) (fun _ _ _ h => h) (Or.inl ⟨by kernel_rfl, ?_⟩) (by assumption) ?_
          rotate_left
          · intro w hSw; (try dsimp only at hSw); go_simp; try with_reducible rfl
          try simp only [Act.put, List.setIfInBounds_toArray, List.set_cons_zero, List.set_cons_succ]
          refine wpAnyH_take (i := 11) (oi := _) (v := ?_) rfl (by kernel_rfl) (by kernel_rfl) (by kernel_rfl) (fun _ _ _ h => h) (Or.inl ⟨by kernel_rfl, ?_⟩) (by assumption) ?_
          rotate_left
          · intro w hSw; (try dsimp only at hSw); go_simp; try with_reducible rfl
          try simp only [Act.put, List.setIfInBounds_toArray, List.set_cons_zero, List.set_cons_succ]
          refine wpAnyH_ready (rs := [6]) (by kernel_rfl) (by simp) ?_
          refine AllReadyH.cons (o := _) rfl (fun K hK => ?_) AllReadyH.nil
          go_simp
          go_at_call 36
          with_reducible refine (had _ (hT.below hstd.bel) hstd.r).mono ?_
          rintro e w1 ⟨rfl, hl1⟩
          have hcell1 := (hl1.cell (p := ⟨g, off + k, none⟩) (block_lt_of_cell hcelld)).trans hcelld
          refine hK.out _ _ (hcell1) ?_
          clear hHeld hK K
          intro hHeld
          try simp only [Act.put, List.setIfInBounds_toArray, List.set_cons_zero, List.set_cons_succ]
          refine wpAnyH_take (i := 12) (oi := _) (v := ?_) rfl (by kernel_rfl) (by kernel_rfl) (by kernel_rfl) (fun _ _ _ h => h) (Or.inl ⟨by kernel_rfl, ?_⟩) (by assumption) ?_
          rotate_left
          · intro w hSw; (try dsimp only at hSw); go_simp; try with_reducible rfl
          try simp only [Act.put, List.setIfInBounds_toArray, List.set_cons_zero, List.set_cons_succ]
          refine wpAnyH_take (i := 13) (oi := _) (v := undef) rfl (by kernel_rfl) (by kernel_rfl) (by kernel_rfl) (fun _ _ _ h => h) (Or.inr ⟨by kernel_rfl, rfl⟩) (by assumption) ?_
          try simp only [Act.put, List.setIfInBounds_toArray, List.set_cons_zero, List.set_cons_succ]
          refine wpAnyH_take (i := 14) (oi := _) (v := undef) rfl (by kernel_rfl) (by kernel_rfl) (by kernel_rfl) (fun _ _ _ h => h) (Or.inr ⟨by kernel_rfl, rfl⟩) (by assumption) ?_
          try simp only [Act.put, List.setIfInBounds_toArray, List.set_cons_zero, List.set_cons_succ]
          refine wpAnyH_take (i := 15) (oi := _) (v := undef) rfl (by kernel_rfl) (by kernel_rfl) (by kernel_rfl) (fun _ _ _ h => h) (Or.inr ⟨by kernel_rfl, rfl⟩) (by assumption) ?_
          try simp only [Act.put, List.setIfInBounds_toArray, List.set_cons_zero, List.set_cons_succ]
          refine wpAnyH_take (i := 16) (oi := _) (v := undef) rfl (by kernel_rfl) (by kernel_rfl) (by kernel_rfl) (fun _ _ _ h => h) (Or.inr ⟨by kernel_rfl, rfl⟩) (by assumption) ?_
          try simp only [Act.put, List.setIfInBounds_toArray, List.set_cons_zero, List.set_cons_succ]
          refine wpAnyH_take (i := 17) (oi := _) (v := undef) rfl (by kernel_rfl) (by kernel_rfl) (by kernel_rfl) (fun _ _ _ h => h) (Or.inr ⟨by kernel_rfl, rfl⟩) (by assumption) ?_
          try simp only [Act.put, List.setIfInBounds_toArray, List.set_cons_zero, List.set_cons_succ]
          refine wpAnyH_take (i := 18) (oi := _) (v := ?_) rfl (by kernel_rfl) (by kernel_rfl) (by kernel_rfl) (fun _ _ _ h => h) (Or.inl ⟨by kernel_rfl, ?_⟩) (by assumption) ?_
          rotate_left
          · intro w hSw; (try dsimp only at hSw); go_simp; try with_reducible rfl
          try simp only [Act.put, List.setIfInBounds_toArray, List.set_cons_zero, List.set_cons_succ]
          refine wpAnyH_take (i := 19) (oi := _) (v := ?_) rfl (by kernel_rfl) (by kernel_rfl) (by kernel_rfl) (fun _ _ _ h => h) (Or.inl ⟨by kernel_rfl, ?_⟩) (by assumption) ?_
          rotate_left
          · intro w hSw; (try dsimp only at hSw); go_simp; try with_reducible rfl
          try simp only [Act.put, List.setIfInBounds_toArray, List.set_cons_zero, List.set_cons_succ]
          try simp only [List.getElem_toArray, List.getElem_cons_succ, List.getElem_cons_zero]
          refine wpAnyH_done (by kernel_rfl) ?_ _
          refine NoPanic.normal ?_
          clear hHeld
          try simp only [List.setIfInBounds_toArray, List.set_cons_zero, List.set_cons_succ]
          have hst1 := hstd.skip Hz.out hl1
          clear hst hstd hl1 had hcell hcelld hcell1
          go_wp2
          go_roundw
          case rel => exact ⟨k + 1, _, _, by omega, by go_num, hst1⟩
          case measure => simp [intOf]; omega
    · obtain rfl : k = zs.length := by omega
      clear hk hlt
      have hcpy := fun W h => rcopy_any w.heap.size (rowZ zs zs.length) b n W h
      have hlC := fun W h => rlist_any wr.heap.size (rowZ zs zs.length) b n W h
      have hls := fun W h => rlist_any w.heap.size (rowZ zs zs.length) b n W h
      go_upto_region 11 with (first
        | (go_at_call 52; with_reducible refine (hcpy _ hst.r).mono ?_; rintro e w1 ⟨rfl, hC1, hb1⟩)
        | (go_at_call 50; with_reducible refine (hls _ (hst.r.up hb1)).mono ?_; rintro e w2 ⟨v, rfl, hv, hb2⟩))
      have hlt1 := hC1.lt
      have hlt0 := hst.r.lt
      have hC2 := hC1.up hb2
      have hst2 := (hst.up hb1).up hb2
      obtain ⟨a, c, rfl, _, _, hls0⟩ := hv.shape
      have hlen512 := catQ_len hst.r.len 32 (by omega)
      have hwas := Iv.reads hv (by omega)
      have hn := hst2.n
      have hlC3 := fun W h => rlen_any wr.heap.size (rowZ zs zs.length) b n W h
      have Hls := Lib.hid hls0
      have Hmem := Lib.hid (fun x hx => catZ_mem (zs := zs) (k := zs.length) (x := x) (c := 32) hx)
      have Hrow := Lib.hid (fun x hx => catZ_row (zs := zs) (k := zs.length) (x := x) hx)
      have Htop := Lib.hid (fun h => catQ_top (q := rowZ zs zs.length) (c := 32) h)
      have Hst := Lib.hid hst2
      clear hls0 hv hst hls hb1 hb2 hst2 St0 hcpy hC1
      generalize hLS : catQ (rowZ zs zs.length) 32 = ls at *
      have HLS := Lib.hid hLS
      clear hLS
      rcases Nat.eq_zero_or_pos ls.length with h0 | h0
      · have hfs := fun W h => rfirst_no w.heap.size (rowZ zs zs.length) b n W h (by omega)
        have h1 : decide ((0 : Int) < (ls.length : Int)) = false := decide_eq_false (by omega)
        subst hn
        go_upto_region 18 with (first
          | (go_at_call 42; with_reducible refine (hfs _ Hst.out.r).mono ?_; rintro e w3 ⟨rfl, hb3⟩; have hC3 := hC2.up hb3)
          | (go_at_call 48; with_reducible refine (hlC3 _ hC3).mono ?_; rintro e w4 ⟨rfl, rfl⟩))
        have hwz : Reads w4 a ls := reads_up hwas hb3
        have hbz := below_trans Hst.out.bel hb3
        have hCz := hC3
        clear hC2 hC3 hlC3 hfs hwas hb3 Hls
        go_loop [9] (fun i => i = .int .i64 0) (fun i => 0)
        case atStart => rfl
        case round =>
        subst hrel
        go_wp2_with (first
          | (go_at_call 42; with_reducible refine (rfirst_nil _).mono ?_; rintro e v1 ⟨rfl, rfl⟩)
          | (go_at_call 44; with_reducible refine (rprio_nil _ _).mono ?_; rintro e v1 ⟨rfl, rfl⟩)
          | (go_at_call 50; with_reducible refine (hlC _ hCz).mono ?_; rintro e v2 ⟨vl, rfl, hvl, hbl⟩; obtain ⟨a2, c2, rfl, _, _, _⟩ := hvl.shape; have hr2 := Iv.reads hvl (by omega); have hr1 := reads_up hwz hbl; have hbz2 := below_trans hbz hbl)
          | (go_at_call 49; have hsm := same_self a2 a c2 c ls _ hr2 hr1; try rw [h0] at hsm; with_reducible refine hsm.mono ?_; rintro e v3 ⟨rfl, hbs⟩; have hbz3 := below_trans hbz2 hbs)
          | (go_at_call 36; with_reducible refine (radd_nil _ _ _).mono ?_; rintro e v1 ⟨rfl, rfl⟩)
          | (go_at_call 38; with_reducible refine (rremove_nil _ _).mono ?_; rintro e v1 ⟨rfl, rfl⟩)
          | (go_at_call 40; with_reducible refine (rturn_nil _ _).mono ?_; rintro e v1 ⟨rfl, rfl⟩)
          | (go_at_call 48; with_reducible refine (rlen_nil _).mono ?_; rintro e v1 ⟨rfl, rfl⟩)
          | (go_at_call 50; with_reducible refine (rlist_nil _).mono ?_; rintro e v1 ⟨rfl, rfl⟩)
          | (go_at_call 46; with_reducible refine (rbits_nil _).mono ?_; rintro e v1 ⟨rfl, rfl⟩)
          | (go_at_call 52; with_reducible refine (rcopy_nil _).mono ?_; rintro e v1 ⟨rfl, rfl⟩)
          | (go_at_call 35; with_reducible refine (alive23 _ (hT.below hbz3)).mono ?_; rintro e v4 ⟨rfl, hb4⟩))
        go_ret
        exact ⟨rfl, below_trans hbz3 hb4⟩
      · obtain ⟨P, hP, hq, hup, hlsP⟩ := Htop.out h0
        obtain ⟨f, A, hA⟩ : ∃ f A, rowZ zs zs.length P = f :: A := by
          cases hx : rowZ zs zs.length P with
          | nil => rw [hx] at hq; simp at hq
          | cons f A => exact ⟨f, A, rfl⟩
        have e0 : (rowZ zs zs.length P).getD 0 0 = f := by rw [hA]; rfl
        have ef : ls.getD 0 0 = f := by rw [hlsP, hA]; rfl
        have hmf : f ∈ ls := by rw [hlsP, hA]; simp
        obtain ⟨jf, hjf, hef, _, _, _⟩ := Hmem.out _ hmf
        subst hef
        obtain ⟨g, rfl, hg0, hg1, hg⟩ := Hls.out h0
        obtain ⟨g2, off, rfl, hcells⟩ := Hp.out (by omega)
        have hb2' : g2 < w.heap.size := block_lt_of_cell (hcells jf hjf)
        have hfs := fun W h => rfirst_yes w.heap.size P (rowZ zs zs.length) b n W h (by omega) hP (h.hiI_eq hP hq hup) hq
        rw [e0] at hfs
        have h1 : decide ((0 : Int) < (ls.length : Int)) = true := decide_eq_true (by omega)
        have f0 : decide ((jf : Int) < 0) = false := decide_eq_false (by omega)
        have f1 : ¬ zs.length ≤ jf := by omega
        have f2 : (jf : Int) < (zs.length : Int) := by omega
        subst hn
        have HA := Lib.hid (And.intro hA (And.intro hlsP (And.intro hup (And.intro e0 ef))))
        clear hA hlsP hup e0 ef hmf hq
        go_upto_region 15 with (first
          | (go_at_call 42; with_reducible refine (hfs _ Hst.out.r).mono ?_; rintro e w3 ⟨rfl, hb3⟩; have hC3 := hC2.up hb3)
          | (go_at_call 48; with_reducible refine (hlC3 _ hC3).mono ?_; rintro e w4 ⟨rfl, rfl⟩))
        have hK4 := Hst.out.up hb3
        have hgs := hb3.size
        have hcl : ∀ i, i < ls.length → w4.cell? ⟨g, i, none⟩ = some (.int .i64 (ls.getD i 0)) := fun i hi => (hb3.cell (p := ⟨g, i, none⟩) hg1).trans (hg i hi)
        have hcz : ∀ i, i < zs.length → w4.cell? ⟨g2, off + i, none⟩ = some (.int .i64 (zs.getD i 0)) := fun i hi => (hK4.bel.cell (p := ⟨g2, off + i, none⟩) hb2').trans (hcells i hi)
        have Hcl := Lib.hid hcl
        have Hcz := Lib.hid hcz
        have HK4 := Lib.hid (And.intro hK4 hC3)
        have g4 : g < w4.heap.size := by omega
        clear hcl hcz hg hcells hb3 hC2 hwas hfs Hst Hls hK4 hC3
        go_loop [9] (fun i => ∃ k : Nat, k ≤ ls.length ∧ i = .int .i64 k) (fun i => ls.length - (intOf i).toNat)
        case atStart => exact ⟨0, Nat.zero_le _, rfl⟩
        case round =>
        obtain ⟨k, hk, rfl⟩ := hrel
        by_cases hlt : k < ls.length
        · have hc1 := Hcl.out k hlt
          obtain ⟨j, hj, ej, _, _, _⟩ := Hmem.out (ls.getD k 0) (by simp [hlt])
          rw [ej] at hc1
          have j0 : decide ((j : Int) < 0) = false := decide_eq_false (by omega)
          have j1 : ¬ zs.length ≤ j := by omega
          have j2 : (j : Int) < (zs.length : Int) := by omega
          clear ej
          go_wp2
          go_round
          case rel => exact ⟨k + 1, by omega, by go_num⟩
          case measure => simp [intOf]; omega
        · obtain rfl : k = ls.length := by omega
          clear hk hlt
          go_wp2
          go_loopw [10, 11] (fun y i wr => ∃ k d : Nat, k ≤ ls.length ∧ i = .int .i64 k ∧ y = .int .i64 ((min k (A.length + 1) : Nat) : Int) ∧ wr = w4.drewN d) (fun _ i _ => ls.length - (intOf i).toNat)
          case atStart => exact ⟨0, 0, Nat.zero_le _, rfl, by simp, rfl⟩
          case round =>
          obtain ⟨k, d, hk, rfl, rfl, rfl⟩ := hrel
          by_cases hlt : k < ls.length
          · have hc1 := Hcl.out k hlt
            obtain ⟨j, hj, ej, _, _, _⟩ := Hmem.out (ls.getD k 0) (by simp [hlt])
            rw [ej] at hc1
            have hc2 := Hcz.out j hj
            have hc3 := Hcz.out jf hjf
            have hzf : zs.getD jf 0 = (P : Int) := by
              have := first_in (i := 0) HA.out.2.1 (by rw [HA.out.1]; simp)
              rwa [HA.out.2.2.2.2, Int.toNat_natCast] at this
            rw [hzf] at hc3
            clear hzf
            by_cases hkm : k < A.length + 1
            · have hzj : zs.getD j 0 = (P : Int) := by
                have := first_in (i := k) HA.out.2.1 (by rw [HA.out.1]; simpa using hkm)
                rwa [ej, Int.toNat_natCast] at this
              rw [hzj] at hc2
              clear hzj ej
              have hmn : ((min (k + 1) (A.length + 1) : Nat) : Int) = ((min k (A.length + 1) : Nat) : Int) + 1 := by omega
              have hmb : ((min k (A.length + 1) : Nat) : Int) ≤ 1000 := by omega
              have hmc : 0 ≤ ((min k (A.length + 1) : Nat) : Int) := by omega
              have Hmn := Lib.hid hmn
              clear hmn hkm
              generalize ((min k (A.length + 1) : Nat) : Int) = y at *
              go_upto_region 24 with fail
              go_quiet (fail)
              go_wp2
              go_roundw
              case rel => exact ⟨k + 1, _, by omega, by go_num, by rw [Hmn.out], rfl⟩
              case measure => simp [intOf]; omega
            · have hzj : zs.getD j 0 ≠ (P : Int) := by
                have := first_out (i := k) HA.out.2.1 (by rw [HA.out.1]; simp; omega) hlt
                rwa [ej, Int.toNat_natCast] at this
              generalize zs.getD j 0 = z at hc2 hzj
              have hzb : (z == (P : Int)) = false := by simpa using hzj
              have hmn : ((min (k + 1) (A.length + 1) : Nat) : Int) = ((min k (A.length + 1) : Nat) : Int) := by omega
              have Hmn := Lib.hid hmn
              clear hmn hkm ej
              generalize ((min k (A.length + 1) : Nat) : Int) = y at *
              go_upto_region 24 with fail
              go_quiet (fail)
              go_wp2
              go_roundw
              case rel => exact ⟨k + 1, _, by omega, by go_num, by rw [Hmn.out], rfl⟩
              case measure => simp [intOf]; omega
          · obtain rfl : k = ls.length := by omega
            clear hk hlt
            have hT' : ls = (((jf : Int) :: A) ++ catQ (rowZ zs zs.length) P) := by rw [← HA.out.1]; exact HA.out.2.1
            have hlenT := congrArg List.length hT'
            rw [List.length_append, List.length_cons] at hlenT
            have hy : ((min ls.length (A.length + 1) : Nat) : Int) = ((A.length + 1 : Nat) : Int) := by omega
            rw [hy]
            clear hy
            have hK5 := HK4.out.1.up (below_drewN (Below.refl _ _) d)
            have hC5 := HK4.out.2.drewN d
            have hT5 := hT.below hK5.bel
            have hTB : 0 < w.heap.size := hT.lt
            have hq0 : 0 < (rowZ zs zs.length P).length := by rw [HA.out.1]; simp
            have hone0 : ∀ p, p < 32 → ∀ i, i < (rowZ zs zs.length p).length → (rowZ zs zs.length p).getD i 0 = (jf : Int) → p = P ∧ i = 0 := by
              obtain ⟨P', J', _, _, _, _, hone⟩ := Hrow.out (jf : Int) (by rw [hT']; simp)
              obtain ⟨e1, e2⟩ := hone P hP 0 hq0 HA.out.2.2.2.1
              rw [← e1, ← e2] at hone
              exact hone
            have htu := fun W hT h => rturn_yes w.heap.size P 0 (rowZ zs zs.length) b ls.length jf W hT h hP hq0 HA.out.2.2.2.1 hone0 (by omega) (by omega) (by omega) hTB
            have hone1 := turned_one HA.out.1 hone0
            have hcat := turned_cat HA.out.1 hP HA.out.2.2.1
            have hrow := turned_row HA.out.1
            generalize addQ (delQ (rowZ zs zs.length) P 0) P (jf : Int) = q2 at *
            have hl2 := fun W b' h => rlist_any w.heap.size q2 b' ls.length W h
            rw [hcat] at hl2
            have hL2 : ((A ++ [(jf : Int)]) ++ catQ (rowZ zs zs.length) P).length = ls.length := by rw [hlenT]; simp; omega
            have Hnow := Lib.hid (And.intro hT' (And.intro hone1 (And.intro hrow hL2)))
            generalize hN2 : (A ++ [(jf : Int)]) ++ catQ (rowZ zs zs.length) P = ls2 at *
            have HN2 := Lib.hid hN2
            clear hT' hlenT hq0 hone0 hone1 hcat hrow hN2
            have hge : g ≠ w.heap.size := by omega
            have hCe : wr.heap.size ≠ w.heap.size := by omega
            go_upto_region 28 with (first
              | (go_at_call 40; with_reducible refine (htu _ hT5 hK5.r).mono ?_; rintro e w6 ⟨rfl, ⟨b6, hr6⟩, hg6⟩)
              | (go_at_call 50; with_reducible refine (hl2 _ _ hr6).mono ?_; rintro e w7 ⟨v7, rfl, hv7, hb7⟩; obtain ⟨a7, c7, ev7, _, _, hls7⟩ := hv7.shape; rw [hL2] at ev7; subst ev7))
            have hbel6 : Below w.heap.size w w6 := hK5.bel.grown hg6 hK5.bel.size (fun k hk => by injection hk with hk; omega)
            have hC6 := hC5.only hg6 hCe
            have hC7 := hC6.up hb7
            have hbel7 := below_trans hbel6 hb7
            have hT7 := hT.below hbel7
            have hr7 := hr6.up hb7
            have hgs6 : g < w6.heap.size := Nat.lt_of_lt_of_le (show g < (w4.drewN d).heap.size from g4) hg6.size
            have hw7 : ∀ i, i < ls.length → w7.cell? ⟨g, i, none⟩ = some (.int .i64 (ls.getD i 0)) := fun i hi => (hb7.cell (p := ⟨g, i, none⟩) hgs6).trans ((only_cell hg6 (p := ⟨g, i, none⟩) (show g < (w4.drewN d).heap.size from g4) hge).trans (Hcl.out i hi))
            obtain ⟨g7, ea7, _, _, hn7⟩ := hls7 (by rw [hL2]; exact h0)
            subst ea7
            rw [hL2] at hn7
            have hLA : A.length < ls.length := by
              have := congrArg List.length Hnow.out.1
              rw [List.length_append, List.length_cons] at this
              omega
            have hrm := fun W hT h => rremove_yes w.heap.size P A.length q2 b6 ls.length jf W hT h hP (by rw [Hnow.out.2.2.1]; simp) (by rw [Hnow.out.2.2.1]; simp) Hnow.out.2.1 (by omega) (if (q2 P).length = 1 then putF b6 P else b6) rfl
            have HW7 := Lib.hid hw7
            have HN7 := Lib.hid hn7
            have HR7 := Lib.hid (And.intro hr7 (And.intro hC7 (And.intro hbel7 hT7)))
            clear hw7 hn7 hr7 hC7 hbel7 hT7 hls7 hv7 hb7 hr6 hC6 hbel6 hg6 hK5 hC5 hT5 htu hl2 hgs6 Hcl Hcz HK4 hL2
            go_wp2
            go_loop [13] (fun i => ∃ k : Nat, k ≤ ls.length ∧ i = .int .i64 k) (fun i => ls.length - (intOf i).toNat)
            case atStart => exact ⟨0, Nat.zero_le _, rfl⟩
            case round =>
            obtain ⟨k, hk, rfl⟩ := hrel
            by_cases hlt : k < ls.length
            · have hc1 := HW7.out k hlt
              have hc2 := HN7.out k hlt
              have i1 : (k : Int) < (ls.length : Int) := by omega
              rcases Nat.lt_trichotomy k A.length with hka | hka | hka
              · have hc3 := HW7.out (k + 1) (by omega)
                have ev : ls2.getD k 0 = ls.getD (k + 1) 0 := by rw [← HN2.out, Hnow.out.1]; exact now_lt hka
                rw [ev] at hc2
                generalize ls.getD (k + 1) 0 = x at hc2 hc3
                generalize ls.getD k 0 = y at hc1
                have i2 : (k : Int) + 1 < (ls.length : Int) := by omega
                have i3 : decide ((k : Int) < (A.length : Int)) = true := decide_eq_true (by omega)
                have i4 : k + 1 < ls.length := by omega
                clear ev
                go_wp2
                exact ⟨⟨k + 1, by omega, by go_num⟩, by simp [intOf]; omega⟩
              · subst hka
                have ev : ls2.getD A.length 0 = jf := by rw [← HN2.out]; exact now_eq
                rw [ev] at hc2
                generalize ls.getD A.length 0 = y at hc1
                clear ev
                go_wp2
                exact ⟨⟨A.length + 1, by omega, by go_num⟩, by simp [intOf]; omega⟩
              · have ev : ls2.getD k 0 = ls.getD k 0 := by rw [← HN2.out, Hnow.out.1]; exact now_gt hka
                rw [ev] at hc2
                generalize ls.getD k 0 = y at hc1 hc2
                clear ev
                have i3 : decide ((k : Int) < (A.length : Int)) = false := decide_eq_false (by omega)
                have i4 : ¬ k < A.length := by omega
                have i5 : ((k : Int) == (A.length : Int)) = false := by simp; omega
                have i6 : ¬ k = A.length := by omega
                go_wp2
                exact ⟨⟨k + 1, by omega, by go_num⟩, by simp [intOf]; omega⟩
            · obtain rfl : k = ls.length := by omega
              clear hk hlt
              go_wp2_with (first
              | (go_at_call 38; with_reducible refine (hrm _ HR7.out.2.2.2 HR7.out.1).mono ?_; rintro e w8 ⟨rfl, hr8, hg8⟩; have hCz := HR7.out.2.1.only hg8 hCe; have hbz : Below w.heap.size w w8 := HR7.out.2.2.1.grown hg8 HR7.out.2.2.1.size (fun k hk => by injection hk with hk; omega); have hwz := reads_after (by omega) HW7.out hg8 hge)
                | (go_at_call 42; with_reducible refine (rfirst_nil _).mono ?_; rintro e v1 ⟨rfl, rfl⟩)
                | (go_at_call 44; with_reducible refine (rprio_nil _ _).mono ?_; rintro e v1 ⟨rfl, rfl⟩)
                | (go_at_call 50; with_reducible refine (hlC _ hCz).mono ?_; rintro e v2 ⟨vl, rfl, hvl, hbl⟩; obtain ⟨a2, c2, rfl, _, _, _⟩ := hvl.shape; have hr2 := Iv.reads hvl (by omega); have hr1 := reads_up hwz hbl; have hbz2 := below_trans hbz hbl)
                | (go_at_call 49; have hsm := same_self a2 (some ⟨g, 0, none⟩) c2 c ls _ hr2 hr1; with_reducible refine hsm.mono ?_; rintro e v3 ⟨rfl, hbs⟩; have hbz3 := below_trans hbz2 hbs)
                | (go_at_call 36; with_reducible refine (radd_nil _ _ _).mono ?_; rintro e v1 ⟨rfl, rfl⟩)
                | (go_at_call 38; with_reducible refine (rremove_nil _ _).mono ?_; rintro e v1 ⟨rfl, rfl⟩)
                | (go_at_call 40; with_reducible refine (rturn_nil _ _).mono ?_; rintro e v1 ⟨rfl, rfl⟩)
                | (go_at_call 48; with_reducible refine (rlen_nil _).mono ?_; rintro e v1 ⟨rfl, rfl⟩)
                | (go_at_call 50; with_reducible refine (rlist_nil _).mono ?_; rintro e v1 ⟨rfl, rfl⟩)
                | (go_at_call 46; with_reducible refine (rbits_nil _).mono ?_; rintro e v1 ⟨rfl, rfl⟩)
                | (go_at_call 52; with_reducible refine (rcopy_nil _).mono ?_; rintro e v1 ⟨rfl, rfl⟩)
                | (go_at_call 35; with_reducible refine (alive23 _ (hT.below hbz3)).mono ?_; rintro e v4 ⟨rfl, hb4⟩))
              go_ret
              exact ⟨rfl, below_trans hbz3 hb4⟩

set_option maxRecDepth 100000 in
set_option maxHeartbeats 1000000 in
theorem walkBig (p : Option Addr) (cap n : Nat) (w : World) (hm : 16 < n) (hT : Tab w) :
    Calls Tryd.prog 9 #[.slice p n cap] w fun e w' => e = .returned (.bool true) ∧ Below w.heap.size w w' := by
  have hgt : decide ((16 : Int) < (n : Int)) = true := decide_eq_true (by omega)
  go_enter Tryd.func9, Tryd.ntmps9
  go_wp2_with (go_at_call 35; refine (alive23 _ hT).mono ?_; rintro e w' ⟨rfl, hb⟩)
  go_ret
  exact ⟨rfl, hb⟩

theorem walkAll (p : Option Addr) (cap : Nat) (zs : List Int) (w : World) (hp : Reads w p zs) (hT : Tab w) :
    Calls Tryd.prog 9 #[.slice p zs.length cap] w fun e w' => e = .returned (.bool true) ∧ Below w.heap.size w w' := by
  by_cases h : zs.length ≤ 16
  · exact walk p cap zs w h hp hT
  · exact walkBig p cap zs.length w (by omega) hT
end Go.Proofs.YtbbnackahgcegaaDoor.rankTurns
