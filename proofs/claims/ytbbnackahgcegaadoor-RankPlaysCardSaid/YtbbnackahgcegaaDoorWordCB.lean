/- The contracts of word.Without, word.Low and word.List: what each returns for any word, in a world that holds math/bits' table. -/
import Derived.Test.YtbbnackahgcegaaDoorWordC
import Derived.Test.YtbbnackahgcegaaDoorBitsB
import Derived.OwnWalk
import Derived.WalkSmall
import Derived.ScopeJumps
import Derived.WalkMore
import Derived.Shelf.Spec.TrailingZeros
namespace Go.Proofs.YtbbnackahgcegaaDoor
open Go.RowKit
set_option linter.unusedVariables false

/-- the table that math/bits reads lies where it was laid -/
def Tab (w : World) : Prop := TabAt 0 Lib.deBruijn32tab w
theorem Tab.lt {w : World} (h : Tab w) : 0 < w.heap.size := block_lt_of_cell (h 0 (by decide))
theorem Tab.below {w w' : World} (h : Tab w) (hb : Below w.heap.size w w') : Tab w' := fun j hj => (hb.cell (p := ⟨0, j, none⟩) h.lt).trans (h j hj)

set_option maxHeartbeats 400000 in
theorem without_any (a i : Int) (w : World) (a0 : 0 ≤ a) (a1 : a ≤ 4294967295) :
    Calls Tryd.prog 68 #[.int .u32 a, .int .i64 i] w fun e w' => e = .returned (.int .u32 (putF a i)) ∧ w = w' := by
  by_cases i0 : 0 ≤ i
  · by_cases i1 : i < 32
    · have hs := Lib.hid (andNot_pow a i a0 a1 i0 i1)
      go_enter Tryd.func68, Tryd.ntmps68
      go_wp2
      go_ret
      exact ⟨ret_int (by rw [hs.out, putF_in _ _ i0 i1]), rfl⟩
    · have i2 : 32 ≤ i := by omega
      go_enter Tryd.func68, Tryd.ntmps68
      go_wp2
      go_ret
      exact ⟨ret_int (putF_no _ _ (by omega)).symm, rfl⟩
  · have i2 : i < 0 := by omega
    go_enter Tryd.func68, Tryd.ntmps68
    go_wp2
    go_ret
    exact ⟨ret_int (putF_no _ _ (by omega)).symm, rfl⟩

theorem tz_any (x : Int) (w : World) (h0 : 0 ≤ x) (h1 : x ≤ 4294967295) (hT : Tab w) :
    Calls Tryd.prog 83 #[.int .u32 x] w fun e w' => e = .returned (.int .i64 (Lib.ctz 32 x.toNat)) ∧ w' = w := by
  obtain ⟨n, rfl⟩ := Int.eq_ofNat_of_zero_le h0
  exact Tryd.bits_TrailingZeros32 n (by omega) w (fun _ => hT)

set_option maxHeartbeats 400000 in
theorem low_any (a : Int) (w : World) (a0 : 0 ≤ a) (a1 : a ≤ 4294967295) (hT : Tab w) :
    Calls Tryd.prog 67 #[.int .u32 a] w fun e w' => e = .returned (.int .i64 (lowI a)) ∧ w' = w := by
  by_cases h : a = 0
  · subst h
    go_enter Tryd.func67, Tryd.ntmps67
    go_wp2
    go_ret
    exact ⟨rfl, rfl⟩
  · have hb : (a == 0) = false := beq_eq_false_iff_ne.2 h
    have hl := Lib.hid (show lowI a = (Lib.ctz 32 a.toNat : Int) from if_neg h)
    clear h
    go_enter Tryd.func67, Tryd.ntmps67
    go_wp2_with (go_at_call 83; refine (tz_any _ _ a0 a1 hT).mono ?_; rintro e w' ⟨rfl, rfl⟩)
    go_ret
    exact ⟨ret_int hl.out.symm, rfl⟩

/-- the slice value 'v' reads as the integers 's'; its cells lie in new memory from block 'base' on -/
abbrev Iv (w : World) (base : Nat) (v : Value) (s : List Int) : Prop := w.ownsRow base 3 1 v s.length (s.map (Value.int .i64))
theorem infoI : (Tryd.prog.info? 3).map (fun i => (i.zero, i.size, i.bytes)) = some (some (.int .i64 0), 1, 8) := by kernel_rfl

/-- what holds at List's label -/
def ListJ (a : Int) (w : World) (a' : Act) (w' : World) : Prop :=
  ∃ (r : Int) (v : Value) (s : List Int) (u3 u4 u5 u6 u7 u8 u9 u10 u11 u12 u13 u14 : Value), a' = { tmps := #[.int .u32 r, undef, v, u3, u4, u5, u6, u7, u8, u9, u10, u11, u12, u13, u14], defers := [] } ∧
    0 ≤ r ∧ r ≤ 4294967295 ∧ bitsL a = s ++ bitsL r ∧ Iv w' w.heap.size v s ∧ Below w.heap.size w w'
def ListM (a' : Act) (_ : World) : Nat := (intOf (a'.tmps.getD 0 undef)).toNat

set_option maxHeartbeats 1000000 in
theorem list32_any (a : Int) (w : World) (a0 : 0 ≤ a) (a1 : a ≤ 4294967295) (hT : Tab w) :
    Calls Tryd.prog 72 #[.int .u32 a] w fun e w' => ∃ v, e = .returned v ∧ Iv w' w.heap.size v (bitsL a) ∧ Below w.heap.size w w' := by
  obtain ⟨i0, hi, hz0, hz1, hz2⟩ := info_parts infoI
  go_enter Tryd.func72, Tryd.ntmps72
  go_wp2
  refine wp_scope_here 0 (ListJ a w) ListM ?_ ?_ ?_
  · rfl
  · exact ⟨a, .slice none 0 0, [], _, _, _, _, _, _, _, _, _, _, _, _, rfl, a0, a1, rfl, World.ownsRow_nil _ _ _ _, Below.refl _ _⟩
  · rintro a' w1 ⟨r, v, s, u3, u4, u5, u6, u7, u8, u9, u10, u11, u12, u13, u14, rfl, r0, r1, hs, hv, hb⟩
    have Hs := Lib.hid hs
    clear hs
    have hT1 := Tab.below hT hb
    by_cases hr : r = 0
    · subst hr
      go_wp2
      simp only [Exit.jump]
      go_ret
      have e : bitsL a = s := by rw [Hs.out, bitsL_zero, List.append_nil]
      exact ⟨v, rfl, by rw [e]; exact hv, hb⟩
    · have hne : (r != 0) = true := by simpa using hr
      have Hc := Lib.hid (bitsL_cons r (by omega) r1)
      have hml := Lib.hid (and_pred_lt r.toNat (by omega))
      have hbits := Lib.hid (u32_and r (r - 1) r0 (by omega) (by omega) (by omega))
      have hlen : s.length ≤ 32 := by
        have h1 := length_bitsL a
        rw [Hs.out, List.length_append] at h1
        omega
      go_wp2_with (first
        | (go_at_call 67; refine (low_any _ _ r0 r1 hT1).mono ?_; rintro e w2 ⟨rfl, rfl⟩)
        | (at_builtin; apply stop))
      refine Stop.go ?_
      refine wpList_append_own _ rfl (.tmp 5) (.tmp 8) 22 rfl w.heap.size 3 i0 (.int .i64 0) 1 8 Tryd.underlying22 hi hz0 hz1 hz2 rfl (by decide) v s.length (s.map (Value.int .i64)) rfl (hv.alloc _) ⟨w2.heap.size, 0, none⟩ 1 1 [.int .i64 (lowI r)] rfl (by simp) (cell_one_new _ _ _) (by simp [Value.oneCell']) (by unfold maxLen; omega) (by omega) (by have := hb.size; simp; omega) ?_
      intro v3 w3 hown3 hgr3 _
      have hb3 := below_append' hb hb.size hv hgr3
      clear hi hgr3
      go_wp2
      go_step3
      have e1 : (r - 1).toNat = r.toNat - 1 := by omega
      have hb4 := hbits.out
      rw [e1] at hb4
      have hlt := hml.out
      refine ⟨rfl, ⟨_, v3, s ++ [lowI r], _, _, _, _, _, _, _, _, _, _, _, _, rfl, ?_, ?_, ?_, ?_, hb3⟩, ?_⟩
      · rw [hb4]; omega
      · rw [hb4]; omega
      · rw [hb4, Hs.out, Hc.out, List.append_assoc]; rfl
      · exact ⟨by simp, by have := hown3.2; simpa using this⟩
      · show (bits BinOp.and IntKind.u32 r (r - 1)).toNat < r.toNat
        rw [hb4]
        omega

theorem Iv.shape {w : World} {base : Nat} {v : Value} {s : List Int} (h : Iv w base v s) : ∃ a c, v = .slice a s.length c ∧ s.length ≤ c ∧ c ≤ maxLen ∧ (0 < s.length → ∃ g, a = some ⟨g, 0, none⟩ ∧ base ≤ g ∧ g < w.heap.size ∧ ∀ i, i < s.length → w.cell? ⟨g, i, none⟩ = some (.int .i64 (s.getD i 0))) := by
  rcases h.2 with ⟨rfl, hn⟩ | ⟨g, cap, cur, rfl, hb, hg, hn, hc, hs, ht⟩
  · exact ⟨none, 0, by rw [hn], by omega, by simp, fun hp => by omega⟩
  · refine ⟨_, cap, rfl, hn, hc, fun _ => ⟨g, rfl, hb, (h.lt g rfl).2, fun i hi => ?_⟩⟩
    have := h.cells (g := g) rfl i (.int .i64 (s.getD i 0)) (by simp [hi])
    rwa [Addr.add_mid, Nat.zero_add] at this

end Go.Proofs.YtbbnackahgcegaaDoor
