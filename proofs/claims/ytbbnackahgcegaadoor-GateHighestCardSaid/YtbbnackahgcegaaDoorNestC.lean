/- The contracts of package nest's methods on a nest that lies at offset 'o' of block 'B': what each returns and what it leaves, for any levels. -/
import Derived.Test.YtbbnackahgcegaaDoorRows
import Derived.Test.YtbbnackahgcegaaDoorKit
import Derived.Test.YtbbnackahgcegaaDoorFoot
import Derived.WalkKit
import Derived.WalkSpells
import Derived.WalkLawsBesides
import Derived.Lib.Hide
import Derived.OneCell
import Derived.Deep.QuietTactic
import Derived.BigQuiet
import Derived.BigRegion
import Derived.Deep.RegionWith
import Derived.StillTailTactics
import Derived.Deep.OwnRows
import Derived.Laws.CopyOwn
import Derived.Deep.RegionLaw
import Derived.Deep.DeepFit
namespace Go.Proofs.YtbbnackahgcegaaDoor
open Go.RowKit
set_option linter.all false


/-- At offset 'o' of block 'B' lies a nest: the levels 's' are served, the last one last; 'm': the most that ever were. -/
structure NestAt (w : World) (B o : Nat) (s : List Int) (m : Int) : Prop where
  lev : ∀ i, i < s.length → w.cell? ⟨B, o + i, none⟩ = some (.int .i64 (s.getD i 0))
  any : ∀ i, i < 32 → ∃ n, w.cell? ⟨B, o + i, none⟩ = some (.int .i64 n)
  deep : w.cell? ⟨B, o + 32, none⟩ = some (.int .i64 (s.length : Int))
  most : w.cell? ⟨B, o + 33, none⟩ = some (.int .i64 m)
  fr : ∀ i, i < 34 → w.frozen? ⟨B, o + i, none⟩ = false

theorem NestAt.drewN {w : World} {B o : Nat} {s : List Int} {m : Int} (h : NestAt w B o s m) (n : Nat) : NestAt (w.drewN n) B o s m := ⟨h.lev, h.any, h.deep, h.most, h.fr⟩

theorem NestAt.below {w w' : World} {B o Z : Nat} {s : List Int} {m : Int} (h : NestAt w B o s m) (hb : Below Z w w') (hB : B < Z) : NestAt w' B o s m :=
  ⟨fun i hi => (hb.cell hB).trans (h.lev i hi), fun i hi => (h.any i hi).elim fun n hn => ⟨n, (hb.cell hB).trans hn⟩, (hb.cell hB).trans h.deep, (hb.cell hB).trans h.most, fun i hi => (hb.frozen hB).trans (h.fr i hi)⟩

/-- the last level; -1: none -/
def topI (s : List Int) : Int := if s.length = 0 then -1 else s.getD (s.length - 1) 0

set_option maxHeartbeats 400000 in
theorem deep_any (B o : Nat) (s : List Int) (m : Int) (w : World) (h : NestAt w B o s m) :
    Calls Tryd.prog 87 #[.pointer (some ⟨B, o, none⟩)] w fun e w' => e = .returned (.int .i64 (s.length : Int)) ∧ w' = w := by
  have hd := h.deep
  clear h
  go_enter Tryd.func87, Tryd.ntmps87
  go_wp2
  go_ret
  exact ⟨rfl, rfl⟩

set_option maxHeartbeats 400000 in
theorem top_any (B o : Nat) (s : List Int) (m : Int) (w : World) (h : NestAt w B o s m) (hs : s.length ≤ 32) :
    Calls Tryd.prog 79 #[.pointer (some ⟨B, o, none⟩)] w fun e w' => e = .returned (.int .i64 (topI s)) ∧ ∃ n, w' = w.drewN n := by
  have hd := h.deep
  by_cases h0 : s.length = 0
  · have hz : ((s.length : Int) == 0) = true := by simp [h0]
    go_enter Tryd.func79, Tryd.ntmps79
    go_wp2_with (go_at_call 87; refine (deep_any _ _ _ _ _ h).mono ?_; rintro e w' ⟨rfl, rfl⟩)
    go_ret
    exact ⟨ret_int (by simp [topI, h0]), 0, rfl⟩
  · have hz : ((s.length : Int) == 0) = false := beq_eq_false_iff_ne.2 (by omega)
    have hl := h.lev (s.length - 1) (by omega)
    have h3 : (0 : Int) ≤ (s.length : Int) - 1 := by omega
    have h4 : (s.length : Int) - 1 < 32 := by omega
    go_enter Tryd.func79, Tryd.ntmps79
    go_wp2_with (go_at_call 87; refine (deep_any _ _ _ _ _ h).mono ?_; rintro e w' ⟨rfl, rfl⟩)
    go_quiet (fail)
    go_wp2
    go_ret
    exact ⟨ret_int (by simp [topI, h0]), _, rfl⟩

set_option maxHeartbeats 400000 in
theorem leave_none (B o : Nat) (m : Int) (w : World) (h : NestAt w B o [] m) :
    Calls Tryd.prog 78 #[.pointer (some ⟨B, o, none⟩)] w fun e w' => e = .returned (.tuple #[.int .i64 0, .bool false]) ∧ w' = w := by
  go_enter Tryd.func78, Tryd.ntmps78
  go_wp2_with (go_at_call 87; refine (deep_any _ _ _ _ _ h).mono ?_; rintro e w' ⟨rfl, rfl⟩)
  go_ret2
  exact ⟨rfl, rfl⟩

/-- may level k be entered? -/
def mayB (k : Int) (s : List Int) : Bool := decide (0 ≤ k ∧ k < 32 ∧ topI s < k)
theorem mayB_no {k : Int} {s : List Int} (h : ¬ (0 ≤ k ∧ k < 32 ∧ topI s < k)) : mayB k s = false := decide_eq_false h
theorem mayB_yes {k : Int} {s : List Int} (h : 0 ≤ k ∧ k < 32 ∧ topI s < k) : mayB k s = true := decide_eq_true h

set_option maxHeartbeats 400000 in
theorem may_any (B o bk bn : Nat) (k : Int) (s : List Int) (m : Int) (w : World) (h : NestAt w B o s m) (hs : s.length ≤ 32)
    (hk : w.cell? ⟨bk, 0, none⟩ = some (.int .i64 k)) (hn : w.cell? ⟨bn, 0, none⟩ = some (.pointer (some ⟨B, o, none⟩))) :
    Calls Tryd.prog 88 #[.pointer (some ⟨bk, 0, none⟩), .pointer (some ⟨bn, 0, none⟩)] w fun e w' => e = .returned (.bool (mayB k s)) ∧ ∃ n, w' = w.drewN n := by
  by_cases k0 : 0 ≤ k
  · by_cases k1 : k < 32
    · by_cases k2 : topI s < k
      · go_enter Tryd.func88, Tryd.ntmps88
        go_wp2_with fail
        go_quiet ((go_at_call 79; exact Calls.quiet_of (top_any B o s m _ (h.drewN _) hs)))
        go_wp2
        go_ret
        exact ⟨ret_bool (mayB_yes ⟨k0, k1, k2⟩).symm, _, rfl⟩
      · go_enter Tryd.func88, Tryd.ntmps88
        go_wp2_with fail
        go_quiet ((go_at_call 79; exact Calls.quiet_of (top_any B o s m _ (h.drewN _) hs)))
        go_wp2
        go_ret
        exact ⟨ret_bool (by rw [mayB_no (by omega)]; simpa using k2), _, rfl⟩
    · have k2 : decide (k < 32) = false := by simpa using k1
      go_enter Tryd.func88, Tryd.ntmps88
      go_wp2_with fail
      go_quiet (fail)
      go_wp2
      go_ret
      exact ⟨ret_bool (mayB_no (by omega)).symm, _, rfl⟩
  · have k2 : decide (0 ≤ k) = false := by simpa using k0
    go_enter Tryd.func88, Tryd.ntmps88
    go_wp2_with fail
    go_quiet (fail)
    go_wp2
    go_ret
    exact ⟨ret_bool (mayB_no (by omega)).symm, _, rfl⟩

set_option maxHeartbeats 800000 in
theorem enter_no (B o : Nat) (k : Int) (s : List Int) (m : Int) (w : World) (h : NestAt w B o s m) (hs : s.length ≤ 32) (hB : B < w.heap.size) (hk : mayB k s = false) :
    Calls Tryd.prog 80 #[.pointer (some ⟨B, o, none⟩), .int .i64 k] w fun e w' => e = .returned (.bool false) ∧ Below w.heap.size w w' := by
  have hmf : ∀ (fn : Fn) (first cap : Array Value) (w : World), (Instr.makeFunc fn first cap).run Tryd.prog w = .ok (.func fn first cap) w := fun _ _ _ _ => rfl
  have hc := fun w' h' a b c d => may_any B o a b k s m w' h' hs c d
  rw [hk] at hc
  go_enter Tryd.func80, Tryd.ntmps80
  go_wp2_with (go_at_call 88; refine (hc _ (h.below (below_two _ _ _) hB) _ _ (by simp) (by simp)).mono ?_; rintro e w' ⟨rfl, nq, rfl⟩)
  go_ret
  exact ⟨rfl, below_drewN (below_two _ _ _) _⟩

theorem NestAt.push {w : World} {B o : Nat} {s : List Int} {m : Int} (h : NestAt w B o s m) (hs : s.length < 32) (k : Int) :
    NestAt ((w.setCell ⟨B, o + s.length, none⟩ (.int .i64 k)).setCell ⟨B, o + 32, none⟩ (.int .i64 ((s.length : Int) + 1))) B o (s ++ [k]) m := by
  obtain ⟨x, hx⟩ := h.any s.length hs
  have e1 : ∀ i, i ≠ 32 → ((w.setCell ⟨B, o + s.length, none⟩ (.int .i64 k)).setCell ⟨B, o + 32, none⟩ (.int .i64 ((s.length : Int) + 1))).cell? ⟨B, o + i, none⟩ = (w.setCell ⟨B, o + s.length, none⟩ (.int .i64 k)).cell? ⟨B, o + i, none⟩ :=
    fun i hi => set_other (by omega)
  have e2 : ∀ i, i ≠ s.length → (w.setCell ⟨B, o + s.length, none⟩ (.int .i64 k)).cell? ⟨B, o + i, none⟩ = w.cell? ⟨B, o + i, none⟩ :=
    fun i hi => set_other (by omega)
  refine ⟨fun i hi => ?_, fun i hi => ?_, ?_, ?_, fun i hi => ?_⟩
  · rw [List.length_append, List.length_singleton] at hi
    rw [e1 i (by omega)]
    by_cases hc : i = s.length
    · subst hc
      rw [set_same hx]
      simp
    · rw [e2 i hc, h.lev i (by omega)]
      simp [List.getElem?_append_left (show i < s.length by omega)]
  · rw [e1 i (by omega)]
    by_cases hc : i = s.length
    · subst hc
      exact ⟨k, set_same hx⟩
    · rw [e2 i hc]
      exact h.any i hi
  · rw [set_same (by rw [e2 32 (by omega)]; exact h.deep)]
    simp
  · rw [e1 33 (by omega), e2 33 (by omega)]
    exact h.most
  · rw [set_frozen, set_frozen]
    exact h.fr i hi

theorem NestAt.setMost {w : World} {B o : Nat} {s : List Int} {m : Int} (h : NestAt w B o s m) (hs : s.length ≤ 32) (k : Int) :
    NestAt (w.setCell ⟨B, o + 33, none⟩ (.int .i64 k)) B o s k := by
  have e1 : ∀ i, i ≠ 33 → (w.setCell ⟨B, o + 33, none⟩ (.int .i64 k)).cell? ⟨B, o + i, none⟩ = w.cell? ⟨B, o + i, none⟩ :=
    fun i hi => set_other (by omega)
  refine ⟨fun i hi => ?_, fun i hi => ?_, ?_, ?_, fun i hi => ?_⟩
  · rw [e1 i (by omega)]; exact h.lev i hi
  · rw [e1 i (by omega)]; exact h.any i hi
  · rw [e1 32 (by omega)]; exact h.deep
  · exact set_same h.most
  · rw [set_frozen]; exact h.fr i hi

theorem NestAt.pop {w : World} {B o : Nat} {s : List Int} {x m : Int} (h : NestAt w B o (s ++ [x]) m) (hs : s.length < 32) :
    NestAt (w.setCell ⟨B, o + 32, none⟩ (.int .i64 (s.length : Int))) B o s m := by
  have e1 : ∀ i, i ≠ 32 → (w.setCell ⟨B, o + 32, none⟩ (.int .i64 (s.length : Int))).cell? ⟨B, o + i, none⟩ = w.cell? ⟨B, o + i, none⟩ :=
    fun i hi => set_other (by omega)
  refine ⟨fun i hi => ?_, fun i hi => ?_, ?_, ?_, fun i hi => ?_⟩
  · rw [e1 i (by omega), h.lev i (by simp; omega)]
    simp [List.getElem?_append_left hi]
  · rw [e1 i (by omega)]; exact h.any i hi
  · exact set_same h.deep
  · rw [e1 33 (by omega)]; exact h.most
  · rw [set_frozen]; exact h.fr i hi

set_option maxHeartbeats 1000000 in
theorem enter_yes (B o : Nat) (k : Int) (s : List Int) (m : Int) (w : World) (h : NestAt w B o s m) (hs : s.length < 32) (hB : B < w.heap.size) (hk : mayB k s = true) :
    Calls Tryd.prog 80 #[.pointer (some ⟨B, o, none⟩), .int .i64 k] w fun e w' => e = .returned (.bool true) ∧ NestAt w' B o (s ++ [k]) (max m ((s.length : Int) + 1)) ∧ Foot w w' B o (o + 34) := by
  have hmf : ∀ (fn : Fn) (first cap : Array Value) (w : World), (Instr.makeFunc fn first cap).run Tryd.prog w = .ok (.func fn first cap) w := fun _ _ _ _ => rfl
  have hc := fun w' h' a b c d => may_any B o a b k s m w' h' (by omega) c d
  rw [hk] at hc
  go_enter Tryd.func80, Tryd.ntmps80
  go_wp2_with (go_at_call 88; refine (hc _ (h.below (below_two _ _ _) hB) _ _ (by simp) (by simp)).mono ?_; rintro e w' ⟨rfl, nq, rfl⟩)
  clear hc hmf
  refine wp_gen (fun W => NestAt W B o s m ∧ W.cell? ⟨w.heap.size, 0, none⟩ = some (.pointer (some ⟨B, o, none⟩)) ∧ W.cell? ⟨w.heap.size + 1, 0, none⟩ = some (.int .i64 k) ∧ Foot w W B o (o + 34)) ⟨(h.below (below_two _ _ _) hB).drewN _, by simp, by simp, foot_drewN (foot_below (below_two _ _ _) hB) _⟩ ?_
  rintro W ⟨hN, hp, hq, hg⟩
  have hd := hN.deep
  obtain ⟨x, hx⟩ := hN.any s.length hs
  have hfd := hN.fr 32 (by omega)
  have hfx := hN.fr s.length (by omega)
  go_region
  go_wp2
  refine wp_gen (fun W2 => NestAt W2 B o (s ++ [k]) m ∧ W2.cell? ⟨w.heap.size, 0, none⟩ = some (.pointer (some ⟨B, o, none⟩)) ∧ Foot w W2 B o (o + 34)) ⟨(hN.push hs k).drewN 1, ?_, ?_⟩ ?_
  · exact (set_far (by show B ≠ w.heap.size; omega)).trans ((set_far (by show B ≠ w.heap.size; omega)).trans hp)
  · exact foot_drewN (foot_set (foot_set hg (by omega) (by omega) _) (by omega) (by omega) _) 1
  rintro W2 ⟨hN2, hp2, hg2⟩
  clear hd hx hfd hfx hN hp hq hg h
  have hd := hN2.deep
  rw [List.length_append, List.length_singleton] at hd
  have hm := hN2.most
  have hfm := hN2.fr 33 (by omega)
  have hl2 : (s ++ [k]).length ≤ 32 := by simp; omega
  go_region
  all_goals go_wp2
  · have hmx : max m ((s.length : Int) + 1) = (s.length : Int) + 1 := by omega
    rw [hmx]
    go_ret
    exact ⟨rfl, (hN2.setMost hl2 _).drewN 1, foot_drewN (foot_set hg2 (by omega) (by omega) _) 1⟩
  · have hmx : max m ((s.length : Int) + 1) = m := by omega
    rw [hmx]
    go_ret
    exact ⟨rfl, (hN2.setMost hl2 _).drewN 1, foot_drewN (foot_set hg2 (by omega) (by omega) _) 1⟩

set_option maxHeartbeats 400000 in
theorem leave_some (B o : Nat) (s : List Int) (x m : Int) (w : World) (h : NestAt w B o (s ++ [x]) m) (hs : s.length < 32) :
    Calls Tryd.prog 78 #[.pointer (some ⟨B, o, none⟩)] w fun e w' => e = .returned (.tuple #[.int .i64 x, .bool true]) ∧ NestAt w' B o s m ∧ Foot w w' B o (o + 34) := by
  have hd := h.deep
  have hf := h.fr 32 (by omega)
  have hl := h.lev s.length (by simp)
  have hx : (s ++ [x]).getD s.length 0 = x := by simp
  rw [hx] at hl
  rw [List.length_append, List.length_singleton] at hd
  have hD := fun w' h' => deep_any B o (s ++ [x]) m w' h'
  rw [List.length_append, List.length_singleton] at hD
  clear hx
  have hz : (((s.length + 1 : Nat) : Int) == 0) = false := beq_eq_false_iff_ne.2 (by omega)
  go_enter Tryd.func78, Tryd.ntmps78
  go_wp2_with (go_at_call 87; refine (hD _ h).mono ?_; rintro e w' ⟨rfl, rfl⟩)
  go_quiet (fail)
  go_wp2
  go_ret2
  exact ⟨rfl, (h.pop hs).drewN _, foot_drewN (foot_set (foot_refl _ _ _ _) (by omega) (by omega) _) _⟩


end Go.Proofs.YtbbnackahgcegaaDoor
