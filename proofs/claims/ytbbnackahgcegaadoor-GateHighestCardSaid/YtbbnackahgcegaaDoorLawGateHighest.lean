/- GateHighest: whoever is entered is the greatest that was pending, above all that were served; nobody waits above whose step comes, and nobody is lost. -/
import Derived.Test.YtbbnackahgcegaaDoorGateLaw
import Derived.Test.YtbbnackahgcegaaDoorGateBits
import Derived.Test.YtbbnackahgcegaaDoorSame
import Derived.ProofKit
import Derived.OpenShut
import Derived.Deep.DeepCutAuto
import Derived.ChangeOld
namespace Go.Proofs.YtbbnackahgcegaaDoor.gateHighest
open Go.ChangeShapes Go.WideShapes Go.ChangeAt Go.RowKit
set_option linter.all false

set_option maxHeartbeats 400000 in
theorem gleave_none (B : Nat) (nm b r mg mo en : Int) (w : World) (h : GateAt w B [] nm b r mg mo en) :
    Calls Tryd.prog 56 #[.pointer (some ⟨B, 0, none⟩)] w fun e w' => e = .returned (.tuple #[.int .i64 0, .bool false]) ∧ w' = w := by
  go_enter Tryd.func56, Tryd.ntmps56
  go_wp2_with (go_at_call 78; refine (leave_none B 3 nm _ h.nest).mono ?_; rintro e w1 ⟨rfl, rfl⟩)
  go_ret2
  exact ⟨rfl, rfl⟩
set_option maxHeartbeats 400000 in
theorem gpending_any (B : Nat) (s : List Int) (nm b r mg mo en : Int) (w : World) (h : GateAt w B s nm b r mg mo en) :
    Calls Tryd.prog 57 #[.pointer (some ⟨B, 0, none⟩)] w fun e w' => e = .returned (.int .u32 b) ∧ w' = w := by
  go_enter Tryd.func57, Tryd.ntmps57
  go_wp2_with (go_at_call 15; refine (pbits_any B 0 b r mg _ h.pend).mono ?_; rintro e w1 ⟨rfl, rfl⟩)
  go_ret
  exact ⟨rfl, rfl⟩
set_option maxHeartbeats 800000 in
theorem pcount_any (B o : Nat) (b r m : Int) (w : World) (h : PendAt w B o b r m) :
    Calls Tryd.prog 19 #[.pointer (some ⟨B, o, none⟩)] w fun e w' => e = .returned (.tuple #[.int .i64 r, .int .i64 m]) ∧ ∃ n, w' = w.drewN n := by
  obtain ⟨cb, cr, cm, fb, fr, fm, lo, hi⟩ := h
  go_enter Tryd.func19, Tryd.ntmps19
  go_wp2
  · go_ret2
    exact ⟨by simp [*], 0, rfl⟩
  all_goals
    go_quiet (fail)
    go_wp2
    go_ret2
    exact ⟨by first | rfl | simp [*], _, rfl⟩
set_option maxHeartbeats 800000 in
theorem gcount_any (B : Nat) (s : List Int) (nm b r mg mo en : Int) (w : World) (h : GateAt w B s nm b r mg mo en) :
    Calls Tryd.prog 60 #[.pointer (some ⟨B, 0, none⟩)] w fun e w' => e = .returned (.tuple #[.int .i64 r, .int .i64 mg, .int .i64 en]) ∧ ∃ n, w' = w.drewN n := by
  have hce := h.ce
  go_enter Tryd.func60, Tryd.ntmps60
  go_wp2_with (go_at_call 19; refine (pcount_any B 0 b r mg _ h.pend).mono ?_; rintro e w1 ⟨rfl, n1, rfl⟩)
  go_quiet (fail)
  go_wp2
  exact bodyPost_ret (v := .tuple #[.int .i64 r, .int .i64 mg, .int .i64 en]) (by simp [results, Tryd.results60, go_sem]) rfl ⟨rfl, n1 + nq, World.drewN_drewN ..⟩

/-- the law's gate, in the block that it made -/
structure GM (w W : World) (s : List Int) (nm b r mg mo en : Int) : Prop where
  g : GateAt W w.heap.size s nm b r mg mo en
  bel : Below w.heap.size w W
theorem GM.step {w W W' : World} {s s' : List Int} {nm b r mg mo en nm' b' r' mg' mo' en' : Int} (h : GM w W s nm b r mg mo en) (hp : GateAt W' w.heap.size s' nm' b' r' mg' mo' en') (hg : W.grownBy W' (some w.heap.size)) : GM w W' s' nm' b' r' mg' mo' en' :=
  ⟨hp, h.bel.grown hg h.bel.size (fun k hk => by injection hk with hk; omega)⟩
theorem GM.drewN {w W : World} {s : List Int} {nm b r mg mo en : Int} (h : GM w W s nm b r mg mo en) (n : Nat) : GM w (W.drewN n) s nm b r mg mo en := ⟨h.g.drewN n, below_drewN h.bel n⟩

theorem topI_snoc (s : List Int) (a : Int) : topI (s ++ [a]) = a := by simp [topI]
theorem topI_bd {s : List Int} (h : Rise s) : -1 ≤ topI s ∧ topI s ≤ 31 ∧ (s.length : Int) ≤ topI s + 1 := by
  unfold topI
  split
  · omega
  · have := h (s.length - 1) (by omega)
    omega

/-- what holds at the head of the first loop, behind k steps -/
structure GH (w W : World) (mo : Int) (k : Nat) (s : List Int) (nm b r mg en : Int) : Prop where
  m : GM w W s nm b r mg mo en
  rise : Rise s
  r0 : 0 ≤ r
  r1 : r ≤ k
  m0 : 0 ≤ mg
  m1 : mg ≤ k
  e0 : 0 ≤ en
  e1 : en ≤ k

set_option maxRecDepth 100000 in
set_option maxHeartbeats 4000000 in
theorem walk (n : Int) (p : Option Addr) (cap : Nat) (zs : List Int) (w : World) (hm : zs.length ≤ 100) (hp : Reads w p zs) (hT : Tab w) :
    Calls Tryd.prog 10 #[.int .i64 n, .slice p zs.length cap] w fun e w' => e = .returned (.bool true) ∧ Below w.heap.size w w' := by
  have hgt : decide ((100 : Int) < (zs.length : Int)) = false := decide_eq_false (by omega)
  have Hp := Lib.hid hp.2
  clear hp
  have hnew := fun W => gnew_any n W
  generalize min (max n 0) 31 = mo at hnew
  go_enter Tryd.func10, Tryd.ntmps10
  go_wp2_with (go_at_call 54; refine (hnew _).mono ?_; rintro e w1 ⟨rfl, st1, bb1⟩)
  have st0 : GH w w1 mo 0 [] 0 0 0 0 0 := ⟨⟨st1, bb1⟩, Rise.nil, by omega, by omega, by omega, by omega, by omega, by omega⟩
  clear st1 bb1 hnew
  go_loopw [6, 7] (fun v i wr => ∃ (k : Nat) (s : List Int) (nm b r mg en : Int), k ≤ zs.length ∧ i = .int .i64 k ∧ v = .int .i64 (en + pc b) ∧ GH w wr mo k s nm b r mg en) (fun _ i _ => zs.length - (intOf i).toNat)
  case atStart => exact ⟨0, [], 0, 0, 0, 0, 0, Nat.zero_le _, rfl, rfl, st0⟩
  case round =>
    clear st0
    obtain ⟨k, s, nm, b, r, mg, en, hk, rfl, rfl, hst⟩ := hrel
    have hpb := pc_bd b
    by_cases hlt : k < zs.length
    · obtain ⟨g, off, rfl, hcells⟩ := Hp.out (by omega)
      have hb : g < w.heap.size := block_lt_of_cell (hcells k hlt)
      have hcell := (hst.m.bel.cell (p := ⟨g, off + k, none⟩) hb).trans (hcells k hlt)
      clear hcells
      generalize hz : zs.getD k 0 = z at hcell
      clear hz
      obtain ⟨hm1, hrise, r0, r1, m0, m1, e0, e1⟩ := hst
      by_cases hz0 : 0 ≤ z
      · by_cases hzm : z ≤ mo
        · have hra := fun W h => graise_yes w.heap.size z s nm b r mg mo en W h hzm (by omega) (by omega)
          have hrb : 0 ≤ raiseR b r z ∧ raiseR b r z ≤ r + 1 := by unfold raiseR; split <;> omega
          have hmb : 0 ≤ raiseM b mg z ∧ raiseM b mg z ≤ mg + 1 := by unfold raiseM; split <;> omega
          have hpc : pc (raiseW b z) = pc b + (if raiseB b z = true then 1 else 0) := by
            unfold raiseW
            by_cases hv : raiseB b z = true
            · rw [if_pos hv, if_pos hv]
              simp only [raiseB, levB, Bool.and_eq_true, decide_eq_true_eq, Bool.not_eq_true'] at hv
              exact pc_putT hm1.g.pend.lo hv.1.1 (by omega) hv.2
            · rw [if_neg hv, if_neg hv]
              omega
          generalize raiseR b r z = r' at *
          generalize raiseM b mg z = mg' at *
          generalize raiseW b z = b' at *
          have Hpc := Lib.hid hpc
          clear hpc
          cases hv : raiseB b z
          all_goals
            rw [hv] at hra Hpc
            clear hv
            go_wp2_with (go_at_call 55; refine (hra _ hm1.g).mono ?_; rintro e w2 ⟨rfl, hg2, hgr2⟩)
            have hm2 := hm1.step hg2 hgr2
            clear hm1 hg2 hgr2 hra hcell
            go_roundw
            case rel => exact ⟨k + 1, s, nm, b', r', mg', en, by omega, by go_num, by rw [Hpc.out]; first | (simp; done) | (simp; omega) | go_num, ⟨hm2, hrise, by omega, by omega, by omega, by omega, by omega, by omega⟩⟩
            case measure => simp [intOf]; omega
        · have hra := fun W h => graise_no w.heap.size z s nm b r mg mo en W h hzm
          go_wp2_with (go_at_call 55; refine (hra _ hm1.g).mono ?_; rintro e w2 ⟨rfl, rfl⟩)
          clear hra hcell
          go_roundw
          case rel => exact ⟨k + 1, s, nm, b, r, mg, en, by omega, by go_num, rfl, ⟨hm1, hrise, by omega, by omega, by omega, by omega, by omega, by omega⟩⟩
          case measure => simp [intOf]; omega
      · by_cases hz1 : z < -1
        · rcases List.eq_nil_or_concat s with rfl | ⟨s', x, hs⟩
          · go_wp2_with (go_at_call 56; refine (gleave_none _ _ _ _ _ _ _ _ hm1.g).mono ?_; rintro e w2 ⟨rfl, rfl⟩)
            clear hcell
            go_roundw
            case rel => exact ⟨k + 1, [], nm, b, r, mg, en, by omega, by go_num, rfl, ⟨hm1, hrise, by omega, by omega, by omega, by omega, by omega, by omega⟩⟩
            case measure => simp [intOf]; omega
          · rw [List.concat_eq_append] at hs
            subst hs
            go_wp2_with (go_at_call 56; refine (gleave_some _ _ _ _ _ _ _ _ _ _ hm1.g).mono ?_; rintro e w2 ⟨rfl, hg2, hgr2⟩)
            have hm2 := hm1.step hg2 hgr2
            clear hm1 hg2 hgr2 hcell
            go_roundw
            case rel => exact ⟨k + 1, s', nm, b, r, mg, en, by omega, by go_num, rfl, ⟨hm2, hrise.pop, by omega, by omega, by omega, by omega, by omega, by omega⟩⟩
            case measure => simp [intOf]; omega
        · obtain rfl : z = -1 := by omega
          have htb := topI_bd hrise
          have hTw := hT.below hm1.bel
          have hle := fun W h => glevel_any w.heap.size s nm b r mg mo en W h
          have hpe := fun W h => gpending_any w.heap.size s nm b r mg mo en W h
          by_cases ha : aboveI b (topI s) < 0
          · have hnx := fun W h hT => gnext_no w.heap.size s nm b r mg mo en W h hT ha
            have hhi : hiI b ≤ topI s := by
              unfold aboveI at ha
              split at ha
              · omega
              · omega
            have hsh := shr_zero hm1.g.pend.lo hm1.g.pend.hi htb.1 hhi
            clear ha hhi
            generalize topI s = l at *
            obtain ⟨l0, l1, l2⟩ := htb
            have Hhead := Lib.hid hm1
            by_cases l31 : l < 31
            all_goals
              go_wp2_with (first
                | (go_at_call 57; with_reducible refine (hpe _ hm1.g).mono ?_; rintro e w2 ⟨rfl, rfl⟩)
                | (go_at_call 58; with_reducible refine (hle _ hm1.g).mono ?_; rintro e w3 ⟨rfl, n3, rfl⟩; have hm3 := hm1.drewN n3; have hT3 := hTw.below (below_drewN (Below.refl _ _) n3))
                | (go_at_call 59; with_reducible refine (hnx _ hm3.g hT3).mono ?_; rintro e w4 ⟨rfl, n4, rfl⟩; have hm4 := hm1.drewN (n3 + n4))
                | (go_at_call 57; with_reducible refine (hpe _ hm4.g).mono ?_; rintro e w5 ⟨rfl, rfl⟩))
              clear hnx hle hpe hcell
              go_roundw
              case rel => exact ⟨k + 1, s, nm, b, r, mg, en, by omega, by go_num, rfl, ⟨hm4, hrise, by omega, by omega, by omega, by omega, by omega, by omega⟩⟩
              case measure => simp [intOf]; omega
          · obtain ⟨e1', e2'⟩ := above_is (by omega : 0 ≤ aboveI b (topI s))
            have h0 : 0 ≤ hiI b := by omega
            have hs31 : hiI b ≤ 31 := (hi_split hm1.g.pend.lo hm1.g.pend.hi h0).2.2
            have hnx := fun W h hT => gnext_yes w.heap.size s nm b r mg mo en W h hT (by omega) (by omega) (by omega)
            have hshr := hi_shr hm1.g.pend.lo hm1.g.pend.hi h0
            have hsub := hi_sub hm1.g.pend.lo hm1.g.pend.hi h0
            have Hpu := Lib.hid (hrise.push (k := hiI b) (by omega) hs31)
            have hpc := Lib.hid (pc_putF hm1.g.pend.lo hm1.g.pend.hi h0 (by omega) (hiI_has hm1.g.pend.lo hm1.g.pend.hi h0))
            have hless := hiI_less hm1.g.pend.lo hm1.g.pend.hi h0
            have hpbd := putF_bd b (hiI b) hm1.g.pend.lo hm1.g.pend.hi
            have hsh0 := shr_zero hpbd.1 hpbd.2 (by omega : -1 ≤ hiI b) (by omega)
            have hpc2 := pc_bd (putF b (hiI b))
            have hle2 := fun W nm' r' mg' en' h => glevel_any w.heap.size (s ++ [hiI b]) nm' (putF b (hiI b)) r' mg' mo en' W h
            have hpe2 := fun W nm' r' mg' en' h => gpending_any w.heap.size (s ++ [hiI b]) nm' (putF b (hiI b)) r' mg' mo en' W h
            simp only [topI_snoc] at hle2
            clear ha e1' hless
            generalize topI s = l at *
            generalize putF b (hiI b) = b' at *
            generalize hiI b = a at *
            generalize max nm ((s.length : Int) + 1) = nm2 at *
            generalize s ++ [a] = s2 at *
            obtain ⟨l0, l1, l2⟩ := htb
            clear l2
            have hal : decide (a ≤ l) = false := decide_eq_false (by omega)
            have hq2 := fun W nm' r' mg' en' h => (hpe2 W nm' r' mg' en' h).mono (fun e w' ⟨he, hw⟩ => (⟨he, 0, hw⟩ : e = _ ∧ ∃ n, w' = W.drewN n))
            by_cases a31 : a < 31
            all_goals
              go_wp2_with (first
                | (go_at_call 57; with_reducible refine (hpe _ hm1.g).mono ?_; rintro e w2 ⟨rfl, rfl⟩)
                | (go_at_call 58; with_reducible refine (hle _ hm1.g).mono ?_; rintro e w3 ⟨rfl, n3, rfl⟩; have hm3 := hm1.drewN n3; have hT3 := hTw.below (below_drewN (Below.refl _ _) n3))
                | (go_at_call 59; with_reducible refine (hnx _ hm3.g hT3).mono ?_; rintro e w4 ⟨rfl, hg4, hgr4⟩; have hm4 := hm3.step hg4 hgr4))
              clear hm3 hT3 hnx hle hpe hcell hg4 hgr4
              go_quiet (first
                | (go_at_call 58; exact Calls.quiet_of (hle2 _ _ _ _ _ (hm4.drewN _).g))
                | (go_at_call 57; exact Calls.quiet_of (hq2 _ _ _ _ _ (hm4.drewN _).g)))
              have hm5 := hm4.drewN nq
              clear hm4
              go_wp2_with (go_at_call 57; with_reducible refine (hpe2 _ _ _ _ _ hm5.g).mono ?_; rintro e w5 ⟨rfl, rfl⟩)
              clear hle2 hpe2 hq2 hsh0 hsub hshr
              go_roundw
              case rel => exact ⟨k + 1, s2, nm2, b', r, mg, en + 1, by omega, by go_num, by rw [hpc.out]; exact congrArg (Value.int .i64) (by omega), ⟨hm5, Hpu.out, by omega, by omega, by omega, by omega, by omega, by omega⟩⟩
              case measure => simp [intOf]; omega
    · obtain rfl : k = zs.length := by omega
      obtain ⟨hm1, hrise, r0, r1, m0, m1, e0, e1⟩ := hst
      have hpe := fun W h => gpending_any w.heap.size s nm b r mg mo en W h
      have b0 := hm1.g.pend.lo
      have b1 := hm1.g.pend.hi
      go_wp2_with (go_at_call 57; refine (hpe _ hm1.g).mono ?_; rintro e w2 ⟨rfl, rfl⟩)
      clear hpe hrise hlt hk
      go_loop [12, 13] (fun v x => ∃ (lf y : Int), v = .int .i64 lf ∧ x = .int .u32 y ∧ 0 ≤ y ∧ y ≤ b ∧ lf + pc y = pc b ∧ 0 ≤ lf) (fun _ x => (intOf x).toNat)
      case atStart => exact ⟨0, b, rfl, rfl, b0, Int.le_refl _, by omega, Int.le_refl _⟩
      case round =>
        obtain ⟨lf, y, rfl, rfl, y0, y1, hsum, l0⟩ := hrel
        by_cases hy : y = 0
        · subst hy
          have hq : lf = pc b := by rw [pc_zero] at hsum; omega
          subst hq
          clear hsum
          have hcn := fun W h => gcount_any w.heap.size s nm b r mg mo en W h
          go_wp2_with (first
            | (go_at_call 60; refine (hcn _ hm1.g).mono ?_; rintro e w3 ⟨rfl, n3, rfl⟩; have hm3 := hm1.drewN n3)
            | (go_at_call 53; refine (alive09 _ (hT.below hm3.bel)).mono ?_; rintro e w4 ⟨rfl, hb4⟩))
          go_ret
          exact ⟨rfl, below_trans hm3.bel hb4⟩
        · have hh := pc_half (w := y) y0 (by omega)
          have hpy := pc_bd y
          have hpy2 := pc_bd (y / 2)
          have Hs := Lib.hid (show lf + y % 2 + pc (y / 2) = pc b by omega)
          have hne : (y != 0) = true := by simpa using hy
          have hlf : lf ≤ 32 := by omega
          have hy1 : 1 ≤ y := by omega
          clear hh hsum hpy hpy2 hy
          go_wp2
          go_round
          case rel => exact ⟨lf + y % 2, y / 2, rfl, rfl, by omega, by omega, Hs.out, by omega⟩
          case measure => simp [intOf]; omega

set_option maxHeartbeats 1000000 in
theorem walkBig (n : Int) (p : Option Addr) (cap m : Nat) (w : World) (hm : 100 < m) (hT : Tab w) :
    Calls Tryd.prog 10 #[.int .i64 n, .slice p m cap] w fun e w' => e = .returned (.bool true) ∧ Below w.heap.size w w' := by
  have hgt : decide ((100 : Int) < (m : Int)) = true := decide_eq_true (by omega)
  go_enter Tryd.func10, Tryd.ntmps10
  go_wp2_with (go_at_call 53; refine (alive09 _ hT).mono ?_; rintro e w' ⟨rfl, hb⟩)
  go_ret
  exact ⟨rfl, hb⟩

theorem walkAll (n : Int) (p : Option Addr) (cap : Nat) (zs : List Int) (w : World) (_w0 : (Lit.int .i64 n).wf = true) (hp : Reads w p zs) (hT : Tab w) :
    Calls Tryd.prog 10 #[.int .i64 n, .slice p zs.length cap] w fun e w' => e = .returned (.bool true) ∧ Below w.heap.size w w' := by
  by_cases h : zs.length ≤ 100
  · exact walk n p cap zs w h hp hT
  · exact walkBig n p cap zs.length w (by omega) hT
end Go.Proofs.YtbbnackahgcegaaDoor.gateHighest

