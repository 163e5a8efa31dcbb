/- pend's Take and Raise, with what they leave as it was, cell by cell (printed by wip/foot.py). -/
import Derived.Test.YtbbnackahgcegaaDoorPendLaw
import Derived.Test.YtbbnackahgcegaaDoorFoot
namespace Go.Proofs.YtbbnackahgcegaaDoor
open Go.RowKit
set_option linter.all false

set_option maxHeartbeats 800000 in
theorem take_foot (B o : Nat) (k b r m : Int) (w : World) (h : PendAt w B o b r m) :
    Calls Tryd.prog 16 #[.pointer (some ⟨B, o, none⟩), .int .i64 k] w fun e w' => e = .returned (.bool (hasB b k)) ∧ PendAt w' B o (if hasB b k = true then putF b k else b) r m ∧ Foot w w' B o (o + 3) := by
  have hb := h.cb
  have hf := h.fb
  by_cases hh : hasB b k = true
  · have hp := putF_bd b k h.lo h.hi
    have hS := Lib.hid (h.setb (x := putF b k) hp.1 hp.2)
    go_enter Tryd.func16, Tryd.ntmps16
    go_wp2_with (first
      | (go_at_call 15; refine (pbits_any B o b r m _ h).mono ?_; rintro e w' ⟨rfl, rfl⟩)
      | (go_at_call 65; refine (has_any b k _ h.lo h.hi).mono ?_; rintro e w' ⟨rfl, rfl⟩; rw [hh])
      | (go_at_call 68; refine (without_any b k _ h.lo h.hi).mono ?_; rintro e w' ⟨rfl, rfl⟩))
    go_ret
    exact ⟨rfl, hS.out, foot_set (foot_refl _ _ _ _) (by omega) (by omega) _⟩
  · have hh := eq_false_of_ne_true hh
    go_enter Tryd.func16, Tryd.ntmps16
    go_wp2_with (first
      | (go_at_call 15; refine (pbits_any B o b r m _ h).mono ?_; rintro e w' ⟨rfl, rfl⟩)
      | (go_at_call 65; refine (has_any b k _ h.lo h.hi).mono ?_; rintro e w' ⟨rfl, rfl⟩; rw [hh]))
    go_ret
    exact ⟨rfl, by assumption, foot_refl _ _ _ _⟩

set_option maxRecDepth 10000 in
set_option maxHeartbeats 1000000 in
theorem raise_had_f (B o : Nat) (k b r m : Int) (w : World) (h : PendAt w B o b r m) (hk : levB k = true) (hh : hasB b k = true) (hm : -1000000 ≤ m ∧ m ≤ 1000000) :
    Calls Tryd.prog 13 #[.pointer (some ⟨B, o, none⟩), .int .i64 k] w fun e w' => e = .returned (.bool false) ∧ PendAt w' B o b r (m + 1) ∧ Foot w w' B o (o + 3) := by
  have hmf : ∀ (fn : Fn) (first cap : Array Value) (w : World), (Instr.makeFunc fn first cap).run Tryd.prog w = .ok (.func fn first cap) w := fun _ _ _ _ => rfl
  have hl := fun W bp bk hp h2 => level_any bp bk B o k W hp h2
  rw [hk] at hl
  have hcb := h.cb
  have hcm := h.cm
  have hfm := h.fm
  have hB := h.lt
  have hS := Lib.hid (fun n => ((h.up (below_two w (.cells #[.pointer (some ⟨B, o, none⟩)] 24) (.cells #[.int .i64 k] 3))).drewN n).setm (x := m + 1))
  have hw : IntKind.i64.wrap (m + 1) = m + 1 := by rw [IntKind.wrap_i64]; omega
  have hhas := fun W => (has_any b k W h.lo h.hi).mono (fun e w' ⟨he, hw⟩ => (⟨he, 0, hw.symm⟩ : e = _ ∧ ∃ n, w' = W.drewN n))
  rw [hh] at hhas
  go_enter Tryd.func13, Tryd.ntmps13
  go_wp2_with (go_at_call 64; refine (hl _ _ _ (by simp) (by simp)).mono ?_; rintro e w' ⟨rfl, rfl⟩)
  go_quiet ((go_at_call 65; exact Calls.quiet_of (hhas _)))
  go_wp2
  go_ret
  exact ⟨rfl, hS.out _, foot_set (foot_drewN (foot_alloc (foot_alloc (foot_refl _ _ _ _) hB _) hB _) _) (by omega) (by omega) _⟩

set_option maxRecDepth 10000 in
set_option maxHeartbeats 1000000 in
theorem raise_new_f (B o : Nat) (k b r m : Int) (w : World) (h : PendAt w B o b r m) (hk : levB k = true) (hh : hasB b k = false) (hr : -1000000 ≤ r ∧ r ≤ 1000000) :
    Calls Tryd.prog 13 #[.pointer (some ⟨B, o, none⟩), .int .i64 k] w fun e w' => e = .returned (.bool true) ∧ PendAt w' B o (putT b k) (r + 1) m ∧ Foot w w' B o (o + 3) := by
  have hmf : ∀ (fn : Fn) (first cap : Array Value) (w : World), (Instr.makeFunc fn first cap).run Tryd.prog w = .ok (.func fn first cap) w := fun _ _ _ _ => rfl
  have hl := fun W bp bk hp h2 => level_any bp bk B o k W hp h2
  rw [hk] at hl
  have hcb := h.cb
  have hcr := h.cr
  have hfb := h.fb
  have hfr := h.fr
  have hB := h.lt
  have hp := putT_bd b k h.lo h.hi
  have hS := Lib.hid (fun n => ((((h.up (below_two w (.cells #[.pointer (some ⟨B, o, none⟩)] 24) (.cells #[.int .i64 k] 3))).drewN n).drew).setb hp.1 hp.2).setr (x := r + 1))
  have hw : IntKind.i64.wrap (r + 1) = r + 1 := by rw [IntKind.wrap_i64]; omega
  have hhas := fun W => (has_any b k W h.lo h.hi).mono (fun e w' ⟨he, hw⟩ => (⟨he, 0, hw.symm⟩ : e = _ ∧ ∃ n, w' = W.drewN n))
  rw [hh] at hhas
  have hwith := fun W => with_any b k W h.lo h.hi
  go_enter Tryd.func13, Tryd.ntmps13
  go_wp2_with (go_at_call 64; refine (hl _ _ _ (by simp) (by simp)).mono ?_; rintro e w' ⟨rfl, rfl⟩)
  go_quiet ((go_at_call 65; exact Calls.quiet_of (hhas _)))
  go_wp2
  go_region_with (go_at_call 66; refine (hwith _).mono ?_; rintro e w2 ⟨rfl, rfl⟩)
  all_goals
    go_wp2
    go_ret
    exact ⟨rfl, hS.out _, foot_set (foot_set (foot_drewN (foot_drewN (foot_alloc (foot_alloc (foot_refl _ _ _ _) hB _) hB _) _) 1) (by omega) (by omega) _) (by omega) (by omega) _⟩

theorem praise_foot (B o : Nat) (k b r m : Int) (w : World) (h : PendAt w B o b r m) (hr : -1000000 ≤ r ∧ r ≤ 1000000) (hm : -1000000 ≤ m ∧ m ≤ 1000000) :
    Calls Tryd.prog 13 #[.pointer (some ⟨B, o, none⟩), .int .i64 k] w fun e w' => e = .returned (.bool (raiseB b k)) ∧ PendAt w' B o (raiseW b k) (raiseR b r k) (raiseM b m k) ∧ Foot w w' B o (o + 3) := by
  by_cases hk : levB k = true
  · by_cases hh : hasB b k = true
    · refine (raise_had_f B o k b r m w h hk hh hm).mono fun e w' ⟨he, hp, hg⟩ => ⟨?_, ?_, hg⟩
      · rw [he]; simp [raiseB, hk, hh]
      · simpa [raiseW, raiseR, raiseM, raiseB, hk, hh] using hp
    · have hh := eq_false_of_ne_true hh
      refine (raise_new_f B o k b r m w h hk hh hr).mono fun e w' ⟨he, hp, hg⟩ => ⟨?_, ?_, hg⟩
      · rw [he]; simp [raiseB, hk, hh]
      · simpa [raiseW, raiseR, raiseM, raiseB, hk, hh] using hp
  · have hk := eq_false_of_ne_true hk
    refine (raise_bad B o k b r m w h hk).mono fun e w' ⟨he, hb⟩ => ⟨?_, ?_, foot_below hb h.lt⟩
    · rw [he]; simp [raiseB, hk]
    · simpa [raiseW, raiseR, raiseM, raiseB, hk] using h.up hb
end Go.Proofs.YtbbnackahgcegaaDoor
