/- The contracts of package gate's methods on a gate that lies in block 'B'. -/
import Derived.Test.YtbbnackahgcegaaDoorPendF
import Derived.Test.YtbbnackahgcegaaDoorNestC
import Derived.Deep.DeepCutAuto
import Derived.WalkMore
namespace Go.Proofs.YtbbnackahgcegaaDoor
open Go.RowKit
set_option linter.all false

theorem PendAt.foot {w w' : World} {B o lo hi : Nat} {b r m : Int} (h : PendAt w B o b r m) (hf : Foot w w' B lo hi) (hd : o + 3 ≤ lo ∨ hi ≤ o) : PendAt w' B o b r m :=
  ⟨(hf.c _ (by omega)).trans h.cb, (hf.c _ (by omega)).trans h.cr, (hf.c _ (by omega)).trans h.cm, (hf.f _).trans h.fb, (hf.f _).trans h.fr, (hf.f _).trans h.fm, h.lo, h.hi⟩
theorem NestAt.foot {w w' : World} {B o lo hi : Nat} {s : List Int} {m : Int} (h : NestAt w B o s m) (hs : s.length ≤ 32) (hf : Foot w w' B lo hi) (hd : o + 34 ≤ lo ∨ hi ≤ o) : NestAt w' B o s m :=
  ⟨fun i hi => (hf.c _ (by omega)).trans (h.lev i hi), fun i hi => (h.any i hi).elim fun n hn => ⟨n, (hf.c _ (by omega)).trans hn⟩, (hf.c _ (by omega)).trans h.deep, (hf.c _ (by omega)).trans h.most, fun i hi => (hf.f _).trans (h.fr i hi)⟩

/-- a gate: what is pending, what is served, the most, how many were entered -/
structure GateAt (w : World) (B : Nat) (s : List Int) (nm b r mg mo en : Int) : Prop where
  pend : PendAt w B 0 b r mg
  nest : NestAt w B 3 s nm
  cm : w.cell? ⟨B, 37, none⟩ = some (.int .i64 mo)
  ce : w.cell? ⟨B, 38, none⟩ = some (.int .i64 en)
  fe : w.frozen? ⟨B, 38, none⟩ = false
  len : s.length ≤ 32
theorem GateAt.lt {w : World} {B : Nat} {s : List Int} {nm b r mg mo en : Int} (h : GateAt w B s nm b r mg mo en) : B < w.heap.size := h.pend.lt
theorem GateAt.up {w w' : World} {B : Nat} {s : List Int} {nm b r mg mo en : Int} (h : GateAt w B s nm b r mg mo en) (hb : Below w.heap.size w w') : GateAt w' B s nm b r mg mo en :=
  ⟨h.pend.up hb, h.nest.below hb h.lt, (hb.cell (p := ⟨B, _, none⟩) h.lt).trans h.cm, (hb.cell (p := ⟨B, _, none⟩) h.lt).trans h.ce, (hb.frozen (p := ⟨B, _, none⟩) h.lt).trans h.fe, h.len⟩
theorem GateAt.drewN {w : World} {B : Nat} {s : List Int} {nm b r mg mo en : Int} (h : GateAt w B s nm b r mg mo en) (n : Nat) : GateAt (w.drewN n) B s nm b r mg mo en := h.up (below_drewN (Below.refl _ _) n)
theorem GateAt.pendF {w w' : World} {B : Nat} {s : List Int} {nm b r mg mo en b' r' mg' : Int} (h : GateAt w B s nm b r mg mo en) (hp : PendAt w' B 0 b' r' mg') (hf : Foot w w' B 0 (0 + 3)) : GateAt w' B s nm b' r' mg' mo en :=
  ⟨hp, h.nest.foot h.len hf (by omega), (hf.c _ (by omega)).trans h.cm, (hf.c _ (by omega)).trans h.ce, (hf.f _).trans h.fe, h.len⟩
theorem GateAt.nestF {w w' : World} {B : Nat} {s s' : List Int} {nm b r mg mo en nm' : Int} (h : GateAt w B s nm b r mg mo en) (hn : NestAt w' B 3 s' nm') (hs : s'.length ≤ 32) (hf : Foot w w' B 3 (3 + 34)) : GateAt w' B s' nm' b r mg mo en :=
  ⟨h.pend.foot hf (by omega), hn, (hf.c _ (by omega)).trans h.cm, (hf.c _ (by omega)).trans h.ce, (hf.f _).trans h.fe, hs⟩
theorem GateAt.sete {w : World} {B : Nat} {s : List Int} {nm b r mg mo en x : Int} (h : GateAt w B s nm b r mg mo en) : GateAt (w.setCell ⟨B, 38, none⟩ (.int .i64 x)) B s nm b r mg mo x := by
  have hf : Foot w (w.setCell ⟨B, 38, none⟩ (.int .i64 x)) B 38 39 := foot_set (foot_refl _ _ _ _) (by omega) (by omega) _
  exact ⟨h.pend.foot hf (by omega), h.nest.foot h.len hf (by omega), (hf.c _ (by omega)).trans h.cm, set_same h.ce, (hf.f _).trans h.fe, h.len⟩

set_option maxHeartbeats 400000 in
theorem glevel_any (B : Nat) (s : List Int) (nm b r mg mo en : Int) (w : World) (h : GateAt w B s nm b r mg mo en) :
    Calls Tryd.prog 58 #[.pointer (some ⟨B, 0, none⟩)] w fun e w' => e = .returned (.int .i64 (topI s)) ∧ ∃ n, w' = w.drewN n := by
  go_enter Tryd.func58, Tryd.ntmps58
  go_wp2_with (go_at_call 79; refine (top_any B 3 s nm _ h.nest h.len).mono ?_; rintro e w1 ⟨rfl, n1, rfl⟩)
  go_ret
  exact ⟨rfl, _, rfl⟩

set_option maxHeartbeats 400000 in
theorem graise_no (B : Nat) (k : Int) (s : List Int) (nm b r mg mo en : Int) (w : World) (h : GateAt w B s nm b r mg mo en) (hk : ¬ k ≤ mo) :
    Calls Tryd.prog 55 #[.pointer (some ⟨B, 0, none⟩), .int .i64 k] w fun e w' => e = .returned (.bool false) ∧ w' = w := by
  have hm := h.cm
  have hd : decide (k ≤ mo) = false := decide_eq_false hk
  go_enter Tryd.func55, Tryd.ntmps55
  go_wp2
  go_ret
  exact ⟨rfl, rfl⟩
set_option maxHeartbeats 400000 in
theorem graise_yes (B : Nat) (k : Int) (s : List Int) (nm b r mg mo en : Int) (w : World) (h : GateAt w B s nm b r mg mo en) (hk : k ≤ mo) (hr : -1000000 ≤ r ∧ r ≤ 1000000) (hm : -1000000 ≤ mg ∧ mg ≤ 1000000) :
    Calls Tryd.prog 55 #[.pointer (some ⟨B, 0, none⟩), .int .i64 k] w fun e w' => e = .returned (.bool (raiseB b k)) ∧ GateAt w' B s nm (raiseW b k) (raiseR b r k) (raiseM b mg k) mo en ∧ w.grownBy w' (some B) := by
  have hmo := h.cm
  have hd : decide (k ≤ mo) = true := decide_eq_true hk
  have hp := praise_foot B 0 k b r mg w h.pend hr hm
  generalize raiseB b k = v at *
  go_enter Tryd.func55, Tryd.ntmps55
  go_wp2_with (go_at_call 13; refine hp.mono ?_; rintro e w1 ⟨rfl, hp1, hf1⟩)
  go_ret
  exact ⟨rfl, h.pendF hp1 hf1, hf1.g⟩

set_option maxHeartbeats 400000 in
theorem gleave_some (B : Nat) (s : List Int) (x nm b r mg mo en : Int) (w : World) (h : GateAt w B (s ++ [x]) nm b r mg mo en) :
    Calls Tryd.prog 56 #[.pointer (some ⟨B, 0, none⟩)] w fun e w' => e = .returned (.tuple #[.int .i64 x, .bool true]) ∧ GateAt w' B s nm b r mg mo en ∧ w.grownBy w' (some B) := by
  have hs : s.length < 32 := by have := h.len; simp at this; omega
  go_enter Tryd.func56, Tryd.ntmps56
  go_wp2_with (go_at_call 78; refine (leave_some B 3 s x nm _ h.nest hs).mono ?_; rintro e w1 ⟨rfl, hn1, hf1⟩)
  go_ret2
  exact ⟨rfl, h.nestF hn1 (by omega) hf1, hf1.g⟩

set_option maxHeartbeats 400000 in
theorem gnext_no (B : Nat) (s : List Int) (nm b r mg mo en : Int) (w : World) (h : GateAt w B s nm b r mg mo en) (hT : Tab w) (ha : aboveI b (topI s) < 0) :
    Calls Tryd.prog 59 #[.pointer (some ⟨B, 0, none⟩)] w fun e w' => e = .returned (.tuple #[.int .i64 (topI s), .bool false]) ∧ ∃ n, w' = w.drewN n := by
  have hmf : ∀ (fn : Fn) (first cap : Array Value) (w : World), (Instr.makeFunc fn first cap).run Tryd.prog w = .ok (.func fn first cap) w := fun _ _ _ _ => rfl
  have hl := fun W h => glevel_any B s nm b r mg mo en W h
  have hab := fun W h hT => (above_any B 0 b r mg (topI s) W h hT).mono (fun e w' ⟨he, hw⟩ => (⟨he, 0, hw⟩ : e = _ ∧ ∃ n, w' = W.drewN n))
  generalize aboveI b (topI s) = a at *
  generalize topI s = l at *
  go_enter Tryd.func59, Tryd.ntmps59
  go_upto_region 1 with fail
  refine wp_scope_straight ?_
  go_wp2
  go_step3
  go_wp2
  go_loopw [] (fun wr => wr = w) (fun _ => 0)
  case atStart => rfl
  case round =>
    obtain rfl := hrel
    go_wp2
    go_quiet (first
      | (go_at_call 58; exact Calls.quiet_of (hl _ (h.drewN _)))
      | (go_at_call 22; exact Calls.quiet_of (hab _ (h.drewN _).pend (hT.below (below_drewN (Below.refl _ _) _)))))
    go_wp2_with (go_at_call 58; refine (hl _ (h.drewN _)).mono ?_; rintro e w2 ⟨rfl, n2, rfl⟩)
    simp only [Exit.noGoto]
    go_ret2
    exact ⟨rfl, _, rfl⟩

theorem above_is {b l : Int} (h : 0 ≤ aboveI b l) : aboveI b l = hiI b ∧ l < hiI b := by
  unfold aboveI at *
  split at h
  · rename_i h1
    rw [if_pos h1]
    exact ⟨rfl, h1⟩
  · omega

set_option maxRecDepth 10000 in
set_option maxHeartbeats 1000000 in
theorem gnext_yes (B : Nat) (s : List Int) (nm b r mg mo en : Int) (w : World) (h : GateAt w B s nm b r mg mo en) (hT : Tab w) (ha : 0 ≤ aboveI b (topI s)) (hs : s.length < 32) (he : -1000000 ≤ en ∧ en ≤ 1000000) :
    Calls Tryd.prog 59 #[.pointer (some ⟨B, 0, none⟩)] w fun e w' => e = .returned (.tuple #[.int .i64 (hiI b), .bool true]) ∧ GateAt w' B (s ++ [hiI b]) (max nm ((s.length : Int) + 1)) (putF b (hiI b)) r mg mo (en + 1) ∧ w.grownBy w' (some B) := by
  have hmf : ∀ (fn : Fn) (first cap : Array Value) (w : World), (Instr.makeFunc fn first cap).run Tryd.prog w = .ok (.func fn first cap) w := fun _ _ _ _ => rfl
  obtain ⟨e1, e2⟩ := above_is ha
  have hl := fun W h => glevel_any B s nm b r mg mo en W h
  have hab := fun W h hT => (above_any B 0 b r mg (topI s) W h hT).mono (fun e w' ⟨he, hw⟩ => (⟨he, 0, hw⟩ : e = _ ∧ ∃ n, w' = W.drewN n))
  rw [e1] at hab ha
  have hbd := hiI_bd h.pend.lo h.pend.hi
  have hhas := hiI_has h.pend.lo h.pend.hi ha
  have hmay : mayB (hiI b) s = true := mayB_yes ⟨ha, by omega, e2⟩
  have htk := fun W h => take_foot B 0 (hiI b) b r mg W h
  rw [hhas] at htk
  simp only [if_true] at htk
  have hen := fun W h hB => enter_yes B 3 (hiI b) s nm W h hs hB hmay
  have hlen : (s ++ [hiI b]).length ≤ 32 := by simp; omega
  have hw1 : IntKind.i64.wrap (en + 1) = en + 1 := by rw [IntKind.wrap_i64]; omega
  clear hmay hhas e1 e2 hbd
  generalize hiI b = a at *
  generalize topI s = l at *
  go_enter Tryd.func59, Tryd.ntmps59
  go_upto_region 1 with fail
  refine wp_scope_straight ?_
  go_wp2
  go_step3
  go_wp2
  go_loopw [] (fun wr => wr = w) (fun _ => 0)
  case atStart => rfl
  case round =>
    obtain rfl := hrel
    go_wp2
    go_quiet (first
      | (go_at_call 58; exact Calls.quiet_of (hl _ (h.drewN _)))
      | (go_at_call 22; exact Calls.quiet_of (hab _ (h.drewN _).pend (hT.below (below_drewN (Below.refl _ _) _)))))
    have h1 := h.drewN nq
    have hg0 := only_drewN (only_refl wr (some B)) nq
    clear h hl hab
    go_wp2_with (first
      | (go_at_call 16; refine (htk _ h1.pend).mono ?_; rintro e w2 ⟨rfl, hp2, hf2⟩; have h2 := h1.pendF hp2 hf2)
      | (go_at_call 80; refine (hen _ h2.nest h2.lt).mono ?_; rintro e w3 ⟨rfl, hn3, hf3⟩; have h3 := h2.nestF hn3 hlen hf3; have hc := h3.ce; have hfe := h3.fe))
    simp only [Exit.noGoto]
    go_ret2
    exact ⟨rfl, h3.sete, only_set (only_trans (only_trans hg0 hf2.g) hf3.g) _⟩

end Go.Proofs.YtbbnackahgcegaaDoor
