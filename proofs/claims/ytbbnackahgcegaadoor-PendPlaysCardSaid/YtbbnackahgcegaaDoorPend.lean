/- The contracts of package pend's methods on a Pend that lies at offset 'o' of block 'B': what each returns and what it leaves, for any levels. -/
import Derived.Test.YtbbnackahgcegaaDoorWordCB
import Derived.Test.YtbbnackahgcegaaDoorPendBits
import Derived.Test.YtbbnackahgcegaaDoorLabels
import Derived.Deep.QuietTactic
import Derived.BigQuiet
import Derived.BigRegion
import Derived.Deep.RegionWith
import Derived.Deep.RegionHeld3
import Derived.Deep.DeepCutAuto
namespace Go.Proofs.YtbbnackahgcegaaDoor
open Go.RowKit
set_option linter.all false

/-- At offset 'o' of block 'B' lies a Pend: its word, and what it counted. -/
structure PendAt (w : World) (B o : Nat) (b r m : Int) : Prop where
  cb : w.cell? ⟨B, o, none⟩ = some (.int .u32 b)
  cr : w.cell? ⟨B, o + 1, none⟩ = some (.int .i64 r)
  cm : w.cell? ⟨B, o + 2, none⟩ = some (.int .i64 m)
  fb : w.frozen? ⟨B, o, none⟩ = false
  fr : w.frozen? ⟨B, o + 1, none⟩ = false
  fm : w.frozen? ⟨B, o + 2, none⟩ = false
  lo : 0 ≤ b
  hi : b ≤ 4294967295
theorem PendAt.lt {w : World} {B o : Nat} {b r m : Int} (h : PendAt w B o b r m) : B < w.heap.size := block_lt_of_cell h.cb
theorem PendAt.below {w w' : World} {B o Z : Nat} {b r m : Int} (h : PendAt w B o b r m) (hb : Below Z w w') (hB : B < Z) : PendAt w' B o b r m :=
  ⟨(hb.cell (p := ⟨B, _, none⟩) hB).trans h.cb, (hb.cell (p := ⟨B, _, none⟩) hB).trans h.cr, (hb.cell (p := ⟨B, _, none⟩) hB).trans h.cm, (hb.frozen (p := ⟨B, _, none⟩) hB).trans h.fb, (hb.frozen (p := ⟨B, _, none⟩) hB).trans h.fr, (hb.frozen (p := ⟨B, _, none⟩) hB).trans h.fm, h.lo, h.hi⟩
theorem PendAt.up {w w' : World} {B o : Nat} {b r m : Int} (h : PendAt w B o b r m) (hb : Below w.heap.size w w') : PendAt w' B o b r m := h.below hb h.lt
theorem PendAt.drewN {w : World} {B o : Nat} {b r m : Int} (h : PendAt w B o b r m) (n : Nat) : PendAt (w.drewN n) B o b r m := h.up (below_drewN (Below.refl _ _) n)
theorem PendAt.drew {w : World} {B o : Nat} {b r m : Int} (h : PendAt w B o b r m) : PendAt w.drew B o b r m := h.up (Below.refl _ _).drew
theorem PendAt.setb {w : World} {B o : Nat} {b r m x : Int} (h : PendAt w B o b r m) (h0 : 0 ≤ x) (h1 : x ≤ 4294967295) : PendAt (w.setCell ⟨B, o, none⟩ (.int .u32 x)) B o x r m :=
  ⟨set_same h.cb, (set_other (by omega)).trans h.cr, (set_other (by omega)).trans h.cm, by rw [set_frozen]; exact h.fb, by rw [set_frozen]; exact h.fr, by rw [set_frozen]; exact h.fm, h0, h1⟩
theorem PendAt.setr {w : World} {B o : Nat} {b r m x : Int} (h : PendAt w B o b r m) : PendAt (w.setCell ⟨B, o + 1, none⟩ (.int .i64 x)) B o b x m :=
  ⟨(set_other (by omega)).trans h.cb, set_same h.cr, (set_other (by omega)).trans h.cm, by rw [set_frozen]; exact h.fb, by rw [set_frozen]; exact h.fr, by rw [set_frozen]; exact h.fm, h.lo, h.hi⟩
theorem PendAt.setm {w : World} {B o : Nat} {b r m x : Int} (h : PendAt w B o b r m) : PendAt (w.setCell ⟨B, o + 2, none⟩ (.int .i64 x)) B o b r x :=
  ⟨(set_other (by omega)).trans h.cb, (set_other (by omega)).trans h.cr, set_same h.cm, by rw [set_frozen]; exact h.fb, by rw [set_frozen]; exact h.fr, by rw [set_frozen]; exact h.fm, h.lo, h.hi⟩

set_option maxHeartbeats 400000 in
theorem pbits_any (B o : Nat) (b r m : Int) (w : World) (h : PendAt w B o b r m) :
    Calls Tryd.prog 15 #[.pointer (some ⟨B, o, none⟩)] w fun e w' => e = .returned (.int .u32 b) ∧ w' = w := by
  have hb := h.cb
  clear h
  go_enter Tryd.func15, Tryd.ntmps15
  go_wp2
  go_ret
  exact ⟨rfl, rfl⟩

/-- is k a level? -/
def levB (k : Int) : Bool := decide (0 ≤ k) && decide (k ≤ 31)

set_option maxHeartbeats 400000 in
theorem level_any (bp bk B o : Nat) (k : Int) (w : World) (hp : w.cell? ⟨bp, 0, none⟩ = some (.pointer (some ⟨B, o, none⟩))) (hk : w.cell? ⟨bk, 0, none⟩ = some (.int .i64 k)) :
    Calls Tryd.prog 64 #[.pointer (some ⟨bp, 0, none⟩), .pointer (some ⟨bk, 0, none⟩)] w fun e w' => e = .returned (.bool (levB k)) ∧ w' = w := by
  by_cases k0 : 0 ≤ k
  · go_enter Tryd.func64, Tryd.ntmps64
    go_wp2
    go_ret
    exact ⟨ret_bool (by simp [levB, k0]), rfl⟩
  · have k1 : decide (0 ≤ k) = false := by simpa using k0
    go_enter Tryd.func64, Tryd.ntmps64
    go_wp2
    go_ret
    exact ⟨ret_bool (by simp [levB]; omega), rfl⟩

set_option maxHeartbeats 800000 in
theorem take_any (B o : Nat) (k b r m : Int) (w : World) (h : PendAt w B o b r m) :
    Calls Tryd.prog 16 #[.pointer (some ⟨B, o, none⟩), .int .i64 k] w fun e w' => e = .returned (.bool (hasB b k)) ∧ PendAt w' B o (if hasB b k = true then putF b k else b) r m ∧ w.grownBy w' (some B) := by
  have hb := h.cb
  have hf := h.fb
  by_cases hh : hasB b k = true
  · have hp := putF_bd b k h.lo h.hi
    have hS := Lib.hid (h.setb (x := putF b k) hp.1 hp.2)
    go_enter Tryd.func16, Tryd.ntmps16
    go_wp2_with (first
      | (go_at_call 15; refine (pbits_any B o b r m _ h).mono ?_; rintro e w' ⟨rfl, rfl⟩)
      | (go_at_call 65; refine (has_any b k _ h.lo h.hi).mono ?_; rintro e w' ⟨rfl, rfl⟩; rw [hh])
      | (go_at_call 68; refine (without_any b k _ h.lo h.hi).mono ?_; rintro e w' ⟨rfl, rfl⟩))
    go_ret
    exact ⟨rfl, hS.out, only_set (only_refl _ _) _⟩
  · have hh := eq_false_of_ne_true hh
    go_enter Tryd.func16, Tryd.ntmps16
    go_wp2_with (first
      | (go_at_call 15; refine (pbits_any B o b r m _ h).mono ?_; rintro e w' ⟨rfl, rfl⟩)
      | (go_at_call 65; refine (has_any b k _ h.lo h.hi).mono ?_; rintro e w' ⟨rfl, rfl⟩; rw [hh]))
    go_ret
    exact ⟨rfl, by assumption, only_refl _ _⟩

/-- what holds at Top's label: c levels were looked at -/
def TopJ (w0 : World) (p : Value) (b : Int) (a' : Act) (W : World) : Prop :=
  ∃ (x k : Int) (c : Nat) (u5 u6 u7 u8 u9 u10 u11 u12 u13 u14 u15 u16 : Value), a' = { tmps := #[p, undef, .int .i64 0, .int .u32 x, .int .i64 k, u5, u6, u7, u8, u9, u10, u11, u12, u13, u14, u15, u16], defers := [] } ∧
    k = (c : Int) - 1 ∧ 0 ≤ x ∧ x ≤ 4294967295 ∧ c ≤ 32 ∧ (∀ j, x.toNat.testBit j = (b.toNat.testBit j && decide (c ≤ j))) ∧ (c = 0 ∨ b.toNat.testBit (c - 1) = true) ∧ W = w0
def TopM (a' : Act) (_ : World) : Nat := 32 - (intOf (a'.tmps.getD 4 undef) + 1).toNat

set_option maxRecDepth 10000 in
set_option maxHeartbeats 1000000 in
theorem ptop_of (p : Value) (b : Int) (w : World) (b0 : 0 ≤ b) (b1 : b ≤ 4294967295) (hT : Tab w) (hB : Calls Tryd.prog 15 #[p] w fun e w' => e = .returned (.int .u32 b) ∧ w' = w) :
    Calls Tryd.prog 14 #[p] w fun e w' => e = .returned (.int .i64 (hiI b)) ∧ w' = w := by
  go_enter Tryd.func14, Tryd.ntmps14
  go_upto_region 1 with fail
  refine wp_scope_one 0 (TopJ w p b) TopM rfl ?_ ?_
  · go_wp2_with (go_at_call 15; refine hB.mono ?_; rintro e w' ⟨rfl, rfl⟩)
    exact ⟨b, -1, 0, _, _, _, _, _, _, _, _, _, _, _, _, rfl, rfl, b0, b1, by omega, fun j => by simp, .inl rfl, rfl⟩
  · rintro a' w1 ⟨x, k, c, u5, u6, u7, u8, u9, u10, u11, u12, u13, u14, u15, u16, rfl, hk, x0, x1, hc, hx, hcb, rfl⟩
    by_cases hz : x = 0
    · subst hz
      have hl := Lib.hid (bitLen_is (w := b.toNat) (c := c) (by omega) (fun j hj => by have := hx j; simpa [hj] using this.symm) hcb)
      clear hx hcb hB
      have Hk := Lib.hid hk
      clear hk
      go_wp2
      simp only [Exit.jump]
      go_ret
      exact ⟨ret_int (by unfold hiI; rw [hl.out, Hk.out]), rfl⟩
    · have hne : (x != 0) = true := by simpa using hz
      obtain ⟨l1, l2, l3⟩ := low_tb (r := x.toNat) (by omega) (by omega)
      have hlow : lowI x = (Lib.ctz 32 x.toNat : Int) := if_neg hz
      have hge : c ≤ Lib.ctz 32 x.toNat := by
        have := hx (Lib.ctz 32 x.toNat)
        rw [l1] at this
        simp at this
        exact this.2
      have hb1 : b.toNat.testBit (Lib.ctz 32 x.toNat) = true := by
        have := hx (Lib.ctz 32 x.toNat)
        rw [l1] at this
        simp at this
        exact this.1
      have hlo := fun W => low_any x W x0 x1
      rw [hlow] at hlo
      have hpf := fun j => tb_putF (w := x) (k := (Lib.ctz 32 x.toNat : Int)) x0 x1 (by omega) (by omega) j
      have hpb := putF_bd x (Lib.ctz 32 x.toNat : Int) x0 x1
      have hnew : ∀ j, (putF x (Lib.ctz 32 x.toNat : Int)).toNat.testBit j = (b.toNat.testBit j && decide (Lib.ctz 32 x.toNat + 1 ≤ j)) := by
        intro j
        rw [hpf j]
        by_cases h1 : j < Lib.ctz 32 x.toNat
        · rw [l2 j h1]; simp; omega
        · by_cases h2 : j = Lib.ctz 32 x.toNat
          · simp [h2]
          · rw [hx j]
            have : decide (c ≤ j) = true := decide_eq_true (by omega)
            have h3 : decide (Lib.ctz 32 x.toNat + 1 ≤ j) = true := decide_eq_true (by omega)
            have h4 : decide (j ≠ (Lib.ctz 32 x.toNat : Int).toNat) = true := decide_eq_true (by omega)
            rw [this, h3, h4]; simp
      have hwo := fun W => without_any x (Lib.ctz 32 x.toNat : Int) W x0 x1
      have hge' := Lib.hid hge
      have hmax : max k (Lib.ctz 32 x.toNat : Int) = (Lib.ctz 32 x.toNat : Int) := by omega
      generalize Lib.ctz 32 x.toNat = l at *
      generalize putF x (l : Int) = y at *
      have Hn := Lib.hid hnew
      clear hnew hpf hx l1 l2 hlow hcb hB hge
      have Hk := Lib.hid hk
      clear hk
      go_wp2_with (first
        | (go_at_call 67; refine (hlo _ hT).mono ?_; rintro e w2 ⟨rfl, rfl⟩)
        | (go_at_call 68; refine (hwo _).mono ?_; rintro e w2 ⟨rfl, rfl⟩))
      go_step3
      refine ⟨rfl, ⟨y, l, l + 1, _, _, _, _, _, _, _, _, _, _, _, _, rfl, by omega, hpb.1, hpb.2, by omega, Hn.out, .inr (by simpa using hb1), rfl⟩, ?_⟩
      have hk := Hk.out
      have hge := hge'.out
      simp only [TopM, intOf, Array.getD]
      simp
      omega
end Go.Proofs.YtbbnackahgcegaaDoor
