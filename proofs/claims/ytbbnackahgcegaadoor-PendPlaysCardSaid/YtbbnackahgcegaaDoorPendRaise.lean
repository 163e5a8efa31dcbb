/- pend's Raise: for any number, what it returns and what it leaves. -/
import Derived.Test.YtbbnackahgcegaaDoorPend
namespace Go.Proofs.YtbbnackahgcegaaDoor
open Go.RowKit
set_option linter.all false

theorem levB_iff {k : Int} : levB k = true ↔ 0 ≤ k ∧ k < 32 := by
  simp [levB]; omega

set_option maxRecDepth 10000 in
set_option maxHeartbeats 1000000 in
theorem raise_bad (B o : Nat) (k b r m : Int) (w : World) (h : PendAt w B o b r m) (hk : levB k = false) :
    Calls Tryd.prog 13 #[.pointer (some ⟨B, o, none⟩), .int .i64 k] w fun e w' => e = .returned (.bool false) ∧ Below w.heap.size w w' := by
  have hmf : ∀ (fn : Fn) (first cap : Array Value) (w : World), (Instr.makeFunc fn first cap).run Tryd.prog w = .ok (.func fn first cap) w := fun _ _ _ _ => rfl
  have hl := fun W bp bk hp h2 => level_any bp bk B o k W hp h2
  rw [hk] at hl
  go_enter Tryd.func13, Tryd.ntmps13
  go_wp2_with (go_at_call 64; refine (hl _ _ _ (by simp) (by simp)).mono ?_; rintro e w' ⟨rfl, rfl⟩)
  go_ret
  exact ⟨rfl, below_two _ _ _⟩

set_option maxRecDepth 10000 in
set_option maxHeartbeats 1000000 in
theorem raise_had (B o : Nat) (k b r m : Int) (w : World) (h : PendAt w B o b r m) (hk : levB k = true) (hh : hasB b k = true) (hm : -1000000 ≤ m ∧ m ≤ 1000000) :
    Calls Tryd.prog 13 #[.pointer (some ⟨B, o, none⟩), .int .i64 k] w fun e w' => e = .returned (.bool false) ∧ PendAt w' B o b r (m + 1) ∧ w.grownBy w' (some B) := by
  have hmf : ∀ (fn : Fn) (first cap : Array Value) (w : World), (Instr.makeFunc fn first cap).run Tryd.prog w = .ok (.func fn first cap) w := fun _ _ _ _ => rfl
  have hl := fun W bp bk hp h2 => level_any bp bk B o k W hp h2
  rw [hk] at hl
  have hcb := h.cb
  have hcm := h.cm
  have hfm := h.fm
  have hB := h.lt
  have hS := Lib.hid (fun n => ((h.up (below_two w (.cells #[.pointer (some ⟨B, o, none⟩)] 24) (.cells #[.int .i64 k] 3))).drewN n).setm (x := m + 1))
  have hw : IntKind.i64.wrap (m + 1) = m + 1 := by rw [IntKind.wrap_i64]; omega
  have hhas := fun W => (has_any b k W h.lo h.hi).mono (fun e w' ⟨he, hw⟩ => (⟨he, 0, hw.symm⟩ : e = _ ∧ ∃ n, w' = W.drewN n))
  rw [hh] at hhas
  go_enter Tryd.func13, Tryd.ntmps13
  go_wp2_with (go_at_call 64; refine (hl _ _ _ (by simp) (by simp)).mono ?_; rintro e w' ⟨rfl, rfl⟩)
  go_quiet ((go_at_call 65; exact Calls.quiet_of (hhas _)))
  go_wp2
  go_ret
  exact ⟨rfl, hS.out _, only_set (only_drewN (only_alloc (only_alloc (only_refl _ _) _) _) _) _⟩

set_option maxRecDepth 10000 in
set_option maxHeartbeats 1000000 in
theorem raise_new (B o : Nat) (k b r m : Int) (w : World) (h : PendAt w B o b r m) (hk : levB k = true) (hh : hasB b k = false) (hr : -1000000 ≤ r ∧ r ≤ 1000000) :
    Calls Tryd.prog 13 #[.pointer (some ⟨B, o, none⟩), .int .i64 k] w fun e w' => e = .returned (.bool true) ∧ PendAt w' B o (putT b k) (r + 1) m ∧ w.grownBy w' (some B) := by
  have hmf : ∀ (fn : Fn) (first cap : Array Value) (w : World), (Instr.makeFunc fn first cap).run Tryd.prog w = .ok (.func fn first cap) w := fun _ _ _ _ => rfl
  have hl := fun W bp bk hp h2 => level_any bp bk B o k W hp h2
  rw [hk] at hl
  have hcb := h.cb
  have hcr := h.cr
  have hfb := h.fb
  have hfr := h.fr
  have hB := h.lt
  have hp := putT_bd b k h.lo h.hi
  have hS := Lib.hid (fun n => ((((h.up (below_two w (.cells #[.pointer (some ⟨B, o, none⟩)] 24) (.cells #[.int .i64 k] 3))).drewN n).drew).setb hp.1 hp.2).setr (x := r + 1))
  have hw : IntKind.i64.wrap (r + 1) = r + 1 := by rw [IntKind.wrap_i64]; omega
  have hhas := fun W => (has_any b k W h.lo h.hi).mono (fun e w' ⟨he, hw⟩ => (⟨he, 0, hw.symm⟩ : e = _ ∧ ∃ n, w' = W.drewN n))
  rw [hh] at hhas
  have hwith := fun W => with_any b k W h.lo h.hi
  go_enter Tryd.func13, Tryd.ntmps13
  go_wp2_with (go_at_call 64; refine (hl _ _ _ (by simp) (by simp)).mono ?_; rintro e w' ⟨rfl, rfl⟩)
  go_quiet ((go_at_call 65; exact Calls.quiet_of (hhas _)))
  go_wp2
  go_region_with (go_at_call 66; refine (hwith _).mono ?_; rintro e w2 ⟨rfl, rfl⟩)
  all_goals
    go_wp2
    go_ret
    exact ⟨rfl, hS.out _, only_set (only_set (only_drewN (only_drewN (only_alloc (only_alloc (only_refl _ _) _) _) _) 1) _) _⟩
end Go.Proofs.YtbbnackahgcegaaDoor
