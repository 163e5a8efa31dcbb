/- RankRows: tasks are told from the most urgent on, those of equal priority as they came. -/
import Derived.Test.YtbbnackahgcegaaDoorRankLaw
import Derived.Test.YtbbnackahgcegaaDoorRankZ
import Derived.Test.YtbbnackahgcegaaDoorSame
import Derived.ProofKit
import Derived.OpenShut
import Derived.Deep.DeepCutAuto
import Derived.ChangeOld
namespace Go.Proofs.YtbbnackahgcegaaDoor.rankRows
open Go.ChangeShapes Go.WideShapes Go.ChangeAt Go.RowKit
set_option linter.all false

/-- the law's Rank, in the block that it made, with the tasks 0 .. k-1 -/
structure KM (w W : World) (zs : List Int) (k : Nat) (b n : Int) : Prop where
  r : RK W w.heap.size (rowZ zs k) b n
  bel : Below w.heap.size w W
  n : n = ((catQ (rowZ zs k) 32).length : Int)
theorem KM.step {w W W' : World} {zs : List Int} {k P : Nat} {b n : Int} (h : KM w W zs k b n) (hz : zs.getD k 0 = (P : Int)) (hP : P < 32) (hr : RK W' w.heap.size (addQ (rowZ zs k) P k) (putT b P) (n + 1)) (hg : W.grownBy W' (some w.heap.size)) : KM w W' zs (k + 1) (putT b P) (n + 1) := by
  refine ⟨by rw [rowZ_in hz hP]; exact hr, h.bel.grown hg h.bel.size (fun k hk => by injection hk with hk; omega), ?_⟩
  rw [rowZ_in hz hP, catQ_add, if_pos hP, h.n]
  omega
theorem KM.skip {w W W' : World} {zs : List Int} {k : Nat} {b n : Int} (h : KM w W zs k b n) (hz : ¬ (0 ≤ zs.getD k 0 ∧ zs.getD k 0 < 32)) (hb : Below W.heap.size W W') : KM w W' zs (k + 1) b n :=
  ⟨by rw [rowZ_out hz]; exact h.r.up hb, below_trans h.bel hb, by rw [rowZ_out hz]; exact h.n⟩
theorem KM.up {w W W' : World} {zs : List Int} {k : Nat} {b n : Int} (h : KM w W zs k b n) (hb : Below W.heap.size W W') : KM w W' zs k b n := ⟨h.r.up hb, below_trans h.bel hb, h.n⟩
theorem KM.new (w : World) (zs : List Int) (t : TypeId) : KM w (w.alloc (.cells Tryd.zeroCells67 t)) zs 0 0 0 :=
  ⟨by rw [rowZ_zero]; exact RK.new w t, below_one _ _, by rw [rowZ_zero]; decide⟩
theorem KM.nb {w W : World} {zs : List Int} {k : Nat} {b n : Int} (h : KM w W zs k b n) : 0 ≤ n ∧ n ≤ 512 := by
  have := catQ_len h.r.len 32 (by omega)
  have := h.n
  omega

theorem or_step {bb : Int} {P : Nat} (b0 : 0 ≤ bb) (b1 : bb ≤ 4294967295) (hP : P < 32) : 0 ≤ bits .or .u32 bb (2 ^ P % 4294967296) ∧ bits .or .u32 bb (2 ^ P % 4294967296) ≤ 4294967295 ∧ ∀ p, p < 32 → (bits .or .u32 bb (2 ^ P % 4294967296)).toNat.testBit p = (bb.toNat.testBit p || decide (p = P)) := by
  have h := or_pow bb P b0 b1 (by omega) (by omega)
  rw [← putT_in bb P (by omega) (by omega), Int.toNat_natCast] at h
  rw [h]
  have hb := putT_bd bb P b0 b1
  exact ⟨hb.1, hb.2, fun p _ => by rw [tb_putT b0 (by omega) (by omega), Int.toNat_natCast]⟩
theorem seen_step {zs ls : List Int} {i j P : Nat} {x y : Nat} (he : ls.getD i 0 = (j : Int)) (hz : (P : Int) = zs.getD j 0) (hx : ∀ p, p < 32 → x.testBit p = decide (∃ j, j < i ∧ zs.getD (ls.getD j 0).toNat 0 = (p : Int))) (hy : ∀ p, p < 32 → y.testBit p = (x.testBit p || decide (p = P))) :
    ∀ p, p < 32 → y.testBit p = decide (∃ j, j < i + 1 ∧ zs.getD (ls.getD j 0).toNat 0 = (p : Int)) := by
  intro p hp
  rw [hy p hp, hx p hp]
  by_cases h : ∃ j, j < i ∧ zs.getD (ls.getD j 0).toNat 0 = (p : Int)
  · obtain ⟨a, ha, hb⟩ := h
    rw [decide_eq_true (show ∃ j, j < i ∧ zs.getD (ls.getD j 0).toNat 0 = (p : Int) from ⟨a, ha, hb⟩), decide_eq_true (show ∃ j, j < i + 1 ∧ zs.getD (ls.getD j 0).toNat 0 = (p : Int) from ⟨a, by omega, hb⟩)]
    rfl
  · rw [decide_eq_false h, Bool.false_or]
    apply decide_eq_decide.2
    constructor
    · rintro rfl
      exact ⟨i, by omega, by rw [he, Int.toNat_natCast, ← hz]⟩
    · rintro ⟨a, ha, hb⟩
      by_cases e : a = i
      · subst e
        rw [he, Int.toNat_natCast, ← hz] at hb
        omega
      · exact absurd ⟨a, by omega, hb⟩ h

set_option maxRecDepth 100000 in
set_option maxHeartbeats 4000000 in
theorem walk (p : Option Addr) (cap : Nat) (zs : List Int) (w : World) (hm : zs.length ≤ 16) (hp : Reads w p zs) (hT : Tab w) :
    Calls Tryd.prog 8 #[.slice p zs.length cap] w fun e w' => e = .returned (.bool true) ∧ Below w.heap.size w w' := by
  have hgt : decide ((16 : Int) < (zs.length : Int)) = false := decide_eq_false (by omega)
  have Hp := Lib.hid hp.2
  clear hp
  have St0 := Lib.hid (KM.new w zs 67)
  go_enter Tryd.func8, Tryd.ntmps8
  go_wp2
  go_loopw [4] (fun i wr => ∃ (k : Nat) (b n : Int), k ≤ zs.length ∧ i = .int .i64 k ∧ KM w wr zs k b n) (fun i _ => zs.length - (intOf i).toNat)
  case atStart => exact ⟨0, 0, 0, Nat.zero_le _, rfl, St0.out⟩
  case round =>
    obtain ⟨k, b, n, hk, rfl, hst⟩ := hrel
    by_cases hlt : k < zs.length
    · obtain ⟨g, off, rfl, hcells⟩ := Hp.out (by omega)
      have hb : g < w.heap.size := block_lt_of_cell (hcells k hlt)
      have hcell := (hst.bel.cell (p := ⟨g, off + k, none⟩) hb).trans (hcells k hlt)
      clear hcells
      have hnb := hst.nb
      by_cases hz : 0 ≤ zs.getD k 0 ∧ zs.getD k 0 < 32
      · obtain ⟨P, hP⟩ := Int.eq_ofNat_of_zero_le hz.1
        have hP32 : P < 32 := by omega
        have had := fun W hT h => radd_yes w.heap.size P (rowZ zs k) b n k W hT h (rowZ_no zs k) (by omega) (by omega) hP32 (by have := rowZ_len zs k P; omega) (by omega)
        have Hz := Lib.hid (And.intro hP hP32)
        rw [hP] at hcell
        clear hz hP hP32
        go_wp2_with (go_at_call 36; with_reducible refine (had _ (hT.below hst.bel) hst.r).mono ?_; rintro e w1 ⟨rfl, hr1, hg1⟩)
        have hst1 := hst.step Hz.out.1 Hz.out.2 hr1 hg1
        clear hst hr1 hg1 had hcell
        go_roundw
        case rel => exact ⟨k + 1, _, _, by omega, by go_num, hst1⟩
        case measure => simp [intOf]; omega
      · have had := fun W hT h => radd_bad w.heap.size (rowZ zs k) b n k (zs.getD k 0) W hT h (rowZ_no zs k) (by omega)
        have Hz := Lib.hid hz
        clear hz
        generalize zs.getD k 0 = z at hcell had
        go_wp2_with (go_at_call 36; with_reducible refine (had _ (hT.below hst.bel) hst.r).mono ?_; rintro e w1 ⟨rfl, hl1⟩)
        have hst1 := hst.skip Hz.out hl1
        clear hst hl1 had hcell
        go_roundw
        case rel => exact ⟨k + 1, _, _, by omega, by go_num, hst1⟩
        case measure => simp [intOf]; omega
    · obtain rfl : k = zs.length := by omega
      clear hk hlt
      have hls := fun W h => rlist_any w.heap.size (rowZ zs zs.length) b n W h
      go_upto_region 6 with (go_at_call 50; with_reducible refine (hls _ hst.r).mono ?_; rintro e w1 ⟨v, rfl, hv, hb1⟩)
      have hst1 := hst.up hb1
      have hbz : wr.heap.size ≤ w1.heap.size := hb1.size
      have hwz : w.heap.size ≤ wr.heap.size := hst.bel.size
      obtain ⟨a, c, rfl, _, _, hls0⟩ := hv.shape
      have Hls := Lib.hid hls0
      have Hup := Lib.hid (List.pairwise_iff_getElem.1 (catZ_up zs zs.length 32))
      have Hmem := Lib.hid (fun x hx => catZ_mem (zs := zs) (k := zs.length) (x := x) (c := 32) hx)
      have Hrow := Lib.hid (fun x hx => catZ_row (zs := zs) (k := zs.length) (x := x) hx)
      have Hbits := Lib.hid (fun P hP => by
        have h1 := hst1.r.tb P hP
        have h2 : (decide (rowZ zs zs.length P ≠ [])) = decide (∃ x ∈ catQ (rowZ zs zs.length) 32, zs.getD x.toNat 0 = (P : Int)) := by
          apply decide_eq_decide.2
          constructor
          · intro h
            obtain ⟨x, hx⟩ := List.exists_mem_of_ne_nil _ h
            obtain ⟨j, _, e, hz, _⟩ := rowZ_mem hx
            exact ⟨x, mem_catQ.2 ⟨P, hP, hx⟩, by rw [e, Int.toNat_natCast, hz]⟩
          · rintro ⟨x, hx, hz⟩ h
            obtain ⟨P', J, hP', hJ, _, hz', _⟩ := catZ_row hx
            have e : P' = P := by omega
            rw [e, h] at hJ
            simp at hJ
        exact h1.trans h2 : ∀ P, P < 32 → b.toNat.testBit P = decide (∃ x ∈ catQ (rowZ zs zs.length) 32, zs.getD x.toNat 0 = (P : Int)))
      have Htop := Lib.hid (fun h => catQ_top (q := rowZ zs zs.length) (c := 32) h)
      have hn := hst1.n
      have hlen16 : (catQ (rowZ zs zs.length) 32).length ≤ 512 := by
        have := hst1.nb
        omega
      have Hst := Lib.hid hst1
      clear hls0 hv hst hls hb1 hst1 St0
      generalize hLS : catQ (rowZ zs zs.length) 32 = ls at *
      have HLS := Lib.hid hLS
      clear hLS
      go_wp2
      go_loopw [6, 7] (fun y i wr => ∃ (i' : Nat) (bb : Int), i' ≤ ls.length ∧ i = .int .i64 i' ∧ y = .int .u32 bb ∧ Below w1.heap.size w1 wr ∧ 0 ≤ bb ∧ bb ≤ 4294967295 ∧ (∀ P, P < 32 → bb.toNat.testBit P = decide (∃ j, j < i' ∧ zs.getD (ls.getD j 0).toNat 0 = (P : Int)))) (fun _ i _ => ls.length - (intOf i).toNat)
      case atStart => exact ⟨0, 0, Nat.zero_le _, rfl, rfl, Below.refl _ _, by omega, by omega, fun P _ => by simp⟩
      case round =>
        obtain ⟨i, bb, hi, rfl, rfl, hbw, bb0, bb1, hbt⟩ := hrel
        have Hbt := Lib.hid hbt
        clear hbt
        by_cases hlt : i < ls.length
        · obtain ⟨g, rfl, hg0, hg1, hg⟩ := Hls.out (by omega)
          have hmi : ls.getD i 0 ∈ ls := by simp [hlt]
          obtain ⟨j, hj, ej, z0, _, z1⟩ := Hmem.out _ hmi
          obtain ⟨P, J, hP, hJ, hat, hPz, hone⟩ := Hrow.out _ hmi
          have hc1 := (hbw.cell (p := ⟨g, i, none⟩) hg1).trans (hg i hlt)
          obtain ⟨g2, off, rfl, hcells⟩ := Hp.out (by omega)
          have hb2 : g2 < w.heap.size := block_lt_of_cell (hcells j hj)
          have hbel := below_trans Hst.out.bel hbw
          have hc2 := (hbel.cell (p := ⟨g2, off + j, none⟩) hb2).trans (hcells j hj)
          rw [ej, Int.toNat_natCast] at hPz
          rw [← hPz] at hc2
          have hfi := fun W hT h => find_yes w.heap.size P J (rowZ zs zs.length) b n (ls.getD i 0) W hT h hP hJ hat hone
          have hpr := fun W hT h => rprio_any w.heap.size (ls.getD i 0) P J true W (hfi W hT h)
          have hKr := Hst.out.r.up hbw
          have hTr := hT.below hbel
          have Hej := Lib.hid (And.intro ej hPz)
          rw [ej] at hc1 hpr
          have hg' := hg
          clear hfi hone hat hg ej hPz hmi
          have p0 : decide ((P : Int) < 0) = false := decide_eq_false (by omega)
          have p1 : decide ((31 : Int) < (P : Int)) = false := decide_eq_false (by omega)
          have p2 : (P : Int) < 32 := by omega
          have p3 : (0 : Int) ≤ (P : Int) := by omega
          have j0 : decide ((j : Int) < 0) = false := decide_eq_false (by omega)
          have j1 : decide ((zs.length : Int) ≤ (j : Int)) = false := decide_eq_false (by omega)
          have j2 : (j : Int) < (zs.length : Int) := by omega
          have j3 : ¬ zs.length ≤ j := by omega
          rcases Nat.eq_zero_or_pos i with rfl | hpos
          · clear hcells hbel
            go_upto_region 16 with (go_at_call 44; with_reducible refine (hpr _ hTr hKr).mono ?_; rintro e w2 ⟨rfl, hb3⟩)
            have hd1 := (hb3.cell (p := ⟨g, 0, none⟩) (block_lt_of_cell hc1)).trans hc1
            have hd2 := (hb3.cell (p := ⟨g2, off + j, none⟩) (block_lt_of_cell hc2)).trans hc2
            have hbw2 := below_trans hbw hb3
            clear hc1 hc2 hbw hb3 hTr hKr hpr
            go_quiet (fail)
            go_wp2
            have hs := or_step (P := P) bb0 bb1 hP
            exact ⟨⟨1, _, by omega, rfl, rfl, below_drewN hbw2 _, hs.1, hs.2.1, seen_step Hej.out.1 Hej.out.2 Hbt.out hs.2.2⟩, by simp [intOf]; omega⟩
          · have hi1 : i - 1 < ls.length := by omega
            have hmp : ls.getD (i - 1) 0 ∈ ls := by simp [hi1]
            obtain ⟨jp, hjp, ejp, zp0, _, zp1⟩ := Hmem.out _ hmp
            have hah := Hup.out (i - 1) i hi1 hlt (by omega)
            have ea : ls[i - 1] = (jp : Int) := by simpa [hi1] using ejp
            have eb : ls[i] = (j : Int) := by simpa [hlt] using Hej.out.1
            rw [ea, eb] at hah
            unfold Ahead at hah
            rw [Int.toNat_natCast, Int.toNat_natCast, ← Hej.out.2] at hah
            have hc3 := (hbw.cell (p := ⟨g, i - 1, none⟩) hg1).trans (hg' (i - 1) hi1)
            have hc4 := (hbel.cell (p := ⟨g2, off + jp, none⟩) hb2).trans (hcells jp hjp)
            rw [ejp] at hc3
            obtain ⟨Pp, hPp⟩ := Int.eq_ofNat_of_zero_le zp0
            rw [hPp] at hc4 hah
            have p4 : (Pp : Int) < 32 := by omega
            have j5 : (jp : Int) < (zs.length : Int) := by omega
            have i1 : decide ((0 : Int) < (i : Int)) = true := decide_eq_true (by omega)
            have i2 : (i : Int) < (ls.length : Int) := by omega
            have i3 : (1 : Int) ≤ (i : Int) := by omega
            have i4 : IntKind.i64.wrap ((i : Int) - 1) = ((i - 1 : Nat) : Int) := by rw [IntKind.wrap_i64]; omega
            have i5 : (i : Int) - 1 = ((i - 1 : Nat) : Int) := by omega
            clear hcells hbel ea eb ejp hPp zp0 zp1 hmp
            have q1 : decide ((Pp : Int) < (P : Int)) = false := decide_eq_false (by omega)
            go_upto_region 16 with (go_at_call 44; with_reducible refine (hpr _ hTr hKr).mono ?_; rintro e w2 ⟨rfl, hb3⟩)
            have hd1 := (hb3.cell (p := ⟨g, i, none⟩) (block_lt_of_cell hc1)).trans hc1
            have hd2 := (hb3.cell (p := ⟨g2, off + j, none⟩) (block_lt_of_cell hc2)).trans hc2
            have hd3 := (hb3.cell (p := ⟨g, i - 1, none⟩) (block_lt_of_cell hc3)).trans hc3
            have hd4 := (hb3.cell (p := ⟨g2, off + jp, none⟩) (block_lt_of_cell hc4)).trans hc4
            have hbw2 := below_trans hbw hb3
            clear hc1 hc2 hc3 hc4 hbw hb3 hTr hKr hpr
            by_cases hpp : Pp = P
            · subst hpp
              have q2 : decide ((j : Int) ≤ (jp : Int)) = false := decide_eq_false (by omega)
              have q3 : ((Pp : Int) == (Pp : Int)) = true := by simp
              go_quiet (fail)
              go_wp2
              have hs := or_step (P := Pp) bb0 bb1 hP
              exact ⟨⟨i + 1, _, by omega, by go_num, rfl, below_drewN hbw2 _, hs.1, hs.2.1, seen_step Hej.out.1 Hej.out.2 Hbt.out hs.2.2⟩, by simp [intOf]; omega⟩
            · have q2 : ((Pp : Int) == (P : Int)) = false := by simp; omega
              have q3 : ((Pp : Nat) == P) = false := by simp; omega
              have q4 : decide (Pp = P) = false := by simp; omega
              have q5 : ¬ ((Pp : Int) = (P : Int)) := by omega
              have q6 : ¬ Pp < P := by omega
              have q7 : P < Pp := by omega
              go_quiet (fail)
              go_wp2
              have hs := or_step (P := P) bb0 bb1 hP
              exact ⟨⟨i + 1, _, by omega, by go_num, rfl, below_drewN hbw2 _, hs.1, hs.2.1, seen_step Hej.out.1 Hej.out.2 Hbt.out hs.2.2⟩, by simp [intOf]; omega⟩
        · obtain rfl : i = ls.length := by omega
          have hbb : bb = b := by
            have hb0 := Hst.out.r.lo
            have hb9 := Hst.out.r.hi
            have : bb.toNat = b.toNat := Nat.eq_of_testBit_eq (fun p => by
              by_cases hp : p < 32
              · rw [Hbt.out p hp, Hbits.out p hp]
                apply decide_eq_decide.2
                constructor
                · rintro ⟨j, hj, hz⟩
                  exact ⟨ls.getD j 0, by simp [hj], hz⟩
                · rintro ⟨x, hx, hz⟩
                  obtain ⟨j, hj, e⟩ := List.getElem_of_mem hx
                  exact ⟨j, hj, by rw [show ls.getD j 0 = x by simp [hj, e]]; exact hz⟩
              · rw [tb_high (by omega) (by omega), tb_high (by omega) (by omega)])
            omega
          subst hbb
          have hKr := Hst.out.r.up hbw
          have hbel := below_trans Hst.out.bel hbw
          have hTr := hT.below hbel
          have hbi := fun W h => rbits_any w.heap.size (rowZ zs zs.length) bb n W h
          have hle := fun W h => rlen_any w.heap.size (rowZ zs zs.length) bb n W h
          subst hn
          clear hi hlt
          rcases Nat.eq_zero_or_pos ls.length with h0 | h0
          · have hfs := fun W h => rfirst_no w.heap.size (rowZ zs zs.length) bb ls.length W h (by omega)
            have h1 : decide ((0 : Int) < (ls.length : Int)) = false := decide_eq_false (by omega)
            go_wp2_with (first
              | (go_at_call 42; with_reducible refine (hfs _ hKr).mono ?_; rintro e w2 ⟨rfl, hb2⟩; have hK2 := hKr.up hb2; have hbel2 := below_trans hbel hb2; have hT2 := hTr.below hb2)
              | (go_at_call 46; with_reducible refine (hbi _ hK2).mono ?_; rintro e w3 ⟨rfl, rfl⟩)
              | (go_at_call 48; with_reducible refine (hle _ hK2).mono ?_; rintro e w3 ⟨rfl, rfl⟩)
              | (go_at_call 35; with_reducible refine (alive23 _ hT2).mono ?_; rintro e w4 ⟨rfl, hb4⟩))
            go_ret
            exact ⟨rfl, below_trans hbel2 hb4⟩
          · obtain ⟨P, hP, hq, hupq, hls⟩ := Htop.out h0
            have hfs := fun W h => rfirst_yes w.heap.size P (rowZ zs zs.length) bb ls.length W h (by omega) hP (h.hiI_eq hP hq hupq) hq
            have e0 : (rowZ zs zs.length P).getD 0 0 = ls.getD 0 0 := by
              rw [hls, List.getD_eq_getElem?_getD, List.getD_eq_getElem?_getD, List.getElem?_append_left hq]
            rw [e0] at hfs
            obtain ⟨g, rfl, hg0, hg1, hg⟩ := Hls.out h0
            have hcell := (hbw.cell (p := ⟨g, 0, none⟩) hg1).trans (hg 0 h0)
            have h1 : decide ((0 : Int) < (ls.length : Int)) = true := decide_eq_true (by omega)
            clear hg hls hupq e0 hq
            generalize ls.getD 0 0 = f at *
            go_wp2_with (first
              | (go_at_call 42; with_reducible refine (hfs _ hKr).mono ?_; rintro e w2 ⟨rfl, hb2⟩; have hK2 := hKr.up hb2; have hbel2 := below_trans hbel hb2; have hT2 := hTr.below hb2; have hc2 := (hb2.cell (p := ⟨g, 0, none⟩) (block_lt_of_cell hcell)).trans hcell)
              | (go_at_call 46; with_reducible refine (hbi _ hK2).mono ?_; rintro e w3 ⟨rfl, rfl⟩)
              | (go_at_call 48; with_reducible refine (hle _ hK2).mono ?_; rintro e w3 ⟨rfl, rfl⟩)
              | (go_at_call 35; with_reducible refine (alive23 _ hT2).mono ?_; rintro e w4 ⟨rfl, hb4⟩))
            go_ret
            exact ⟨rfl, below_trans hbel2 hb4⟩

set_option maxRecDepth 100000 in
set_option maxHeartbeats 1000000 in
theorem walkBig (p : Option Addr) (cap n : Nat) (w : World) (hm : 16 < n) (hT : Tab w) :
    Calls Tryd.prog 8 #[.slice p n cap] w fun e w' => e = .returned (.bool true) ∧ Below w.heap.size w w' := by
  have hgt : decide ((16 : Int) < (n : Int)) = true := decide_eq_true (by omega)
  go_enter Tryd.func8, Tryd.ntmps8
  go_wp2_with (go_at_call 35; refine (alive23 _ hT).mono ?_; rintro e w' ⟨rfl, hb⟩)
  go_ret
  exact ⟨rfl, hb⟩

theorem walkAll (p : Option Addr) (cap : Nat) (zs : List Int) (w : World) (hp : Reads w p zs) (hT : Tab w) :
    Calls Tryd.prog 8 #[.slice p zs.length cap] w fun e w' => e = .returned (.bool true) ∧ Below w.heap.size w w' := by
  by_cases h : zs.length ≤ 16
  · exact walk p cap zs w h hp hT
  · exact walkBig p cap zs.length w (by omega) hT
end Go.Proofs.YtbbnackahgcegaaDoor.rankRows
