/- The contracts of task's Note, Clear, Go and Wake. -/
import Derived.Test.YtbbnackahgcegaaDoorTask
namespace Go.Proofs.YtbbnackahgcegaaDoor
open Go.RowKit
set_option linter.all false

/-- two words, taken together -/
def orI (a x : Int) : Int := ((a.toNat ||| x.toNat : Nat) : Int)
theorem orI_bd {a x : Int} (a0 : 0 ≤ a) (a1 : a ≤ 4294967295) (x0 : 0 ≤ x) (x1 : x ≤ 4294967295) : 0 ≤ orI a x ∧ orI a x ≤ 4294967295 := by
  have : a.toNat ||| x.toNat < 2 ^ 32 := Nat.or_lt_two_pow (by omega) (by omega)
  unfold orI
  omega
theorem orI_bits {a x : Int} (a0 : 0 ≤ a) (a1 : a ≤ 4294967295) (x0 : 0 ≤ x) (x1 : x ≤ 4294967295) : bits .or .u32 a x = orI a x := u32_or a x a0 (by omega) x0 (by omega)
theorem putT_nat (a i : Nat) (hi : i < 32) : putT (a : Int) (i : Int) = ((a ||| 2 ^ i : Nat) : Int) := by
  rw [putT_in _ _ (by omega) (by omega)]
  simp
theorem foldl_or : ∀ (f i w acc : Nat), i + f ≤ 32 → w < 2 ^ f → (bitsFrom f i w).foldl putT (acc : Int) = ((acc ||| 2 ^ i * w : Nat) : Int)
  | 0, i, w, acc, _, h => by
    have : w = 0 := by simpa using h
    simp [bitsFrom, this]
  | f + 1, i, w, acc, hi, h => by
    have hp : 2 ^ (f + 1) = 2 * 2 ^ f := by rw [Nat.pow_succ]; omega
    have hq : 2 ^ (i + 1) = 2 ^ i * 2 := by rw [Nat.pow_succ]
    unfold bitsFrom
    by_cases h2 : w % 2 = 1
    · rw [if_pos h2, List.foldl_cons, putT_nat _ _ (by omega), foldl_or f (i + 1) (w / 2) _ (by omega) (by omega)]
      congr 1
      have hlt : 2 ^ i < 2 ^ (i + 1) := by rw [hq]; have := Nat.two_pow_pos i; omega
      have e := Nat.two_pow_add_eq_or_of_lt hlt (w / 2)
      rw [Nat.or_assoc, Nat.or_comm (2 ^ i), ← e, hq]
      congr 1
      have hw : w = 2 * (w / 2) + 1 := by omega
      calc 2 ^ i * 2 * (w / 2) + 2 ^ i = 2 ^ i * (2 * (w / 2) + 1) := by rw [Nat.mul_add, Nat.mul_one, Nat.mul_assoc]
        _ = 2 ^ i * w := by rw [← hw]
    · rw [if_neg h2, foldl_or f (i + 1) (w / 2) _ (by omega) (by omega), hq]
      congr 1
      have hw : w = 2 * (w / 2) := by omega
      rw [Nat.mul_assoc, ← hw]
theorem foldl_bitsL {a x : Int} (a0 : 0 ≤ a) (x0 : 0 ≤ x) (x1 : x ≤ 4294967295) : (bitsL x).foldl putT a = orI a x := by
  obtain ⟨n, rfl⟩ := Int.eq_ofNat_of_zero_le a0
  have := foldl_or 32 0 x.toNat n (by omega) (by omega)
  unfold bitsL orI
  rw [this]
  simp

theorem Iv.cells' {w : World} {base : Nat} {v : Value} {s : List Int} (h : Iv w base v s) : ∃ a c, v = .slice a s.length c ∧ (0 < s.length → ∃ g, a = some ⟨g, 0, none⟩ ∧ ∀ i, i < s.length → w.cell? ⟨g, i, none⟩ = some (.int .i64 (s.getD i 0))) := by
  obtain ⟨a, c, hv, _, _, hp⟩ := h.shape
  exact ⟨a, c, hv, fun h0 => by obtain ⟨g, hg, _, _, hc⟩ := hp h0; exact ⟨g, hg, hc⟩⟩

theorem foldl_take_succ (l : List Int) (a : Int) (k : Nat) (h : k < l.length) : (l.take (k + 1)).foldl putT a = putT ((l.take k).foldl putT a) (l.getD k 0) := by
  rw [List.take_succ_eq_append_getElem h, List.foldl_append]
  simp [h]

set_option maxRecDepth 10000 in
set_option maxHeartbeats 1000000 in
theorem note_fn (a x : Int) (g : Nat) (w : World) (a0 : 0 ≤ a) (a1 : a ≤ 4294967295) (x0 : 0 ≤ x) (x1 : x ≤ 4294967295) (hT : Tab w) (hx : w.cell? ⟨g, 0, none⟩ = some (.int .u32 x)) :
    Calls Tryd.prog 71 #[.int .u32 a, .pointer (some ⟨g, 0, none⟩)] w fun e w' => e = .returned (.int .u32 (orI a x)) ∧ Below w.heap.size w w' := by
  have hl := fun W hT => list32_any x W x0 x1 hT
  have hlen := length_bitsL x
  have hf := Lib.hid (foldl_bitsL (a := a) (x := x) a0 x0 x1)
  go_enter Tryd.func71, Tryd.ntmps71
  go_wp2_with (go_at_call 72; refine (hl _ hT).mono ?_; rintro e w1 ⟨v, rfl, hv, hb1⟩; obtain ⟨p, c, rfl, hp⟩ := hv.cells')
  have Hp := Lib.hid hp
  clear hp hl hv hx
  generalize bitsL x = l at *
  go_loopw [0, 9] (fun was i wr => ∃ k : Nat, k ≤ l.length ∧ i = .int .i64 k ∧ was = .int .u32 ((l.take k).foldl putT a) ∧ wr = w1) (fun _ i _ => l.length - (intOf i).toNat)
  case atStart => exact ⟨0, Nat.zero_le _, rfl, rfl, by first | rfl | trivial⟩
  case round =>
    obtain ⟨k, hk, rfl, rfl, rfl⟩ := hrel
    by_cases hlt : k < l.length
    · obtain ⟨g1, rfl, hc⟩ := Hp.out (by omega)
      have hck := hc k hlt
      have hbd := foldl_putT_bd (l.take k) a a0 a1
      have hs := Lib.hid (foldl_take_succ l a k hlt)
      clear hc
      generalize l.getD k 0 = z at *
      have hwi := fun W => with_any ((l.take k).foldl putT a) z W hbd.1 hbd.2
      go_wp2_with (go_at_call 66; refine (hwi _).mono ?_; rintro e w2 ⟨rfl, rfl⟩)
      go_roundw
      case rel => exact ⟨k + 1, by omega, by go_num, by rw [hs.out], by first | rfl | trivial⟩
      case measure => simp [intOf]; omega
    · obtain rfl : k = l.length := by omega
      go_wp2
      go_ret
      exact ⟨by rw [List.take_length, hf.out]; rfl, hb1⟩

set_option maxHeartbeats 400000 in
theorem clear_fn (a : Int) (w : World) : Calls Tryd.prog 74 #[.int .u32 a] w fun e w' => e = .returned (.int .u32 0) ∧ w' = w := by
  go_enter Tryd.func74, Tryd.ntmps74
  go_wp2
  go_ret
  exact ⟨rfl, rfl⟩

set_option maxHeartbeats 1000000 in
theorem change_note (B g : Nat) (st b x : Int) (A : Option (Bool × Int × Int)) (w : World) (h : TaskAt w B st b A) (hst : st ≠ 0) (x0 : 0 ≤ x) (x1 : x ≤ 4294967295) (hT : Tab w) (hx : w.cell? ⟨g, 0, none⟩ = some (.int .u32 x)) :
    Calls Tryd.prog 70 #[.pointer (some ⟨B, 0, none⟩), .func (Fn.func 71) #[] #[.pointer (some ⟨g, 0, none⟩)]] w fun e w' => e = .returned (.int .u32 b) ∧ TaskAt w' B st (orI b x) A ∧ w.grownBy w' (some B) := by
  have hb := h.cb
  have hf := h.f1
  have hm := fun W h => made_any B st b A W h
  rw [decide_eq_true hst] at hm
  have hbd := orI_bd h.lo h.hi x0 x1
  go_enter Tryd.func70, Tryd.ntmps70
  go_wp2_with (first
    | (go_at_call 73; refine (hm _ h).mono ?_; rintro e w1 ⟨rfl, rfl⟩)
    | (go_at_call 71; refine (note_fn b x g _ h.lo h.hi x0 x1 hT hx).mono ?_; rintro e w2 ⟨rfl, hb2⟩; have st2 := h.up hb2; have hb' := st2.cb; have hf' := st2.f1))
  go_ret
  exact ⟨rfl, st2.setb hbd.1 hbd.2, only_set (only_of_below hb2 _) _⟩

set_option maxHeartbeats 1000000 in
theorem change_clear (B : Nat) (st b : Int) (A : Option (Bool × Int × Int)) (w : World) (h : TaskAt w B st b A) (hst : st ≠ 0) :
    Calls Tryd.prog 70 #[.pointer (some ⟨B, 0, none⟩), .func (Fn.func 74) #[] #[]] w fun e w' => e = .returned (.int .u32 b) ∧ TaskAt w' B st 0 A ∧ w.grownBy w' (some B) := by
  have hb := h.cb
  have hf := h.f1
  have hm := fun W h => made_any B st b A W h
  rw [decide_eq_true hst] at hm
  go_enter Tryd.func70, Tryd.ntmps70
  go_wp2_with (first
    | (go_at_call 73; refine (hm _ h).mono ?_; rintro e w1 ⟨rfl, rfl⟩)
    | (go_at_call 74; refine (clear_fn b _).mono ?_; rintro e w2 ⟨rfl, rfl⟩))
  go_ret
  exact ⟨rfl, h.setb (by omega) (by omega), only_set (only_refl _ _) _⟩

set_option maxHeartbeats 1000000 in
theorem note_any (B : Nat) (st b x : Int) (A : Option (Bool × Int × Int)) (w : World) (h : TaskAt w B st b A) (hst : st ≠ 0) (x0 : 0 ≤ x) (x1 : x ≤ 4294967295) (hT : Tab w) :
    Calls Tryd.prog 26 #[.pointer (some ⟨B, 0, none⟩), .int .u32 x] w fun e w' => e = .returned (.int .u32 (orI b x)) ∧ TaskAt w' B st (orI b x) A ∧ w.grownBy w' (some B) := by
  have hmf : ∀ (fn : Fn) (first cap : Array Value) (w : World), (Instr.makeFunc fn first cap).run Tryd.prog w = .ok (.func fn first cap) w := fun _ _ _ _ => rfl
  have hB := h.lt
  have st0 := h.up (below_one w (.cells #[.int .u32 x] 25))
  have hT0 := hT.below (below_one w (.cells #[.int .u32 x] 25))
  go_enter Tryd.func26, Tryd.ntmps26
  go_wp2_with (first
    | (go_at_call 70; refine (change_note B _ st b x A _ st0 hst x0 x1 hT0 (by simp)).mono ?_; rintro e w1 ⟨rfl, st1, hg1⟩)
    | (go_at_call 30; refine (tbits_any B st _ A _ st1).mono ?_; rintro e w2 ⟨rfl, rfl⟩))
  go_ret
  exact ⟨rfl, st1, only_trans (only_alloc (only_refl _ _) _) hg1⟩

set_option maxHeartbeats 1000000 in
theorem clear_any (B : Nat) (st b : Int) (A : Option (Bool × Int × Int)) (w : World) (h : TaskAt w B st b A) (hst : st ≠ 0) :
    Calls Tryd.prog 29 #[.pointer (some ⟨B, 0, none⟩)] w fun e w' => e = .returned (.int .u32 b) ∧ TaskAt w' B st 0 A ∧ w.grownBy w' (some B) := by
  go_enter Tryd.func29, Tryd.ntmps29
  go_wp2_with (go_at_call 70; refine (change_clear B st b A _ h hst).mono ?_; rintro e w1 ⟨rfl, st1, hg1⟩)
  go_ret
  exact ⟨rfl, st1, hg1⟩

/-- the states that Go goes to -/
def goB (st s : Int) : Bool := decide (st = 1 ∧ (s = 2 ∨ s = 3 ∨ s = 4))
set_option maxHeartbeats 1000000 in
theorem go_no (B : Nat) (st b s : Int) (A : Option (Bool × Int × Int)) (w : World) (h : TaskAt w B st b A) (hs : st ≠ 1) :
    Calls Tryd.prog 33 #[.pointer (some ⟨B, 0, none⟩), .int .i64 s] w fun e w' => e = .returned (.bool false) ∧ w' = w := by
  go_enter Tryd.func33, Tryd.ntmps33
  go_wp2_with (go_at_call 31; refine (state_any B st b A _ h).mono ?_; rintro e w1 ⟨rfl, rfl⟩)
  go_ret
  exact ⟨rfl, rfl⟩
set_option maxHeartbeats 1000000 in
theorem go_yes (B : Nat) (b s : Int) (A : Option (Bool × Int × Int)) (w : World) (h : TaskAt w B 1 b A) (hs : s = 2 ∨ s = 3 ∨ s = 4) :
    Calls Tryd.prog 33 #[.pointer (some ⟨B, 0, none⟩), .int .i64 s] w fun e w' => e = .returned (.bool true) ∧ TaskAt w' B s b A ∧ w.grownBy w' (some B) := by
  have hc := h.cs
  have hf := h.f0
  rcases hs with rfl | rfl | rfl <;>
  · go_enter Tryd.func33, Tryd.ntmps33
    go_wp2_with (go_at_call 31; refine (state_any B 1 b A _ h).mono ?_; rintro e w1 ⟨rfl, rfl⟩)
    go_ret
    exact ⟨rfl, h.sets, only_set (only_refl _ _) _⟩

set_option maxHeartbeats 1000000 in
theorem wake_no (B : Nat) (st b : Int) (A : Option (Bool × Int × Int)) (x : Bool) (y z : Int) (w : World) (h : TaskAt w B st b A) (hs : st ≠ 2) (hs3 : st ≠ 3) :
    Calls Tryd.prog 34 #[.pointer (some ⟨B, 0, none⟩), ansV x y z] w fun e w' => e = .returned (.bool false) ∧ Below w.heap.size w w' := by
  have st0 := h.up (below_one w (.cells #[.bool x, .int .u32 y, .int .u32 z] 48))
  go_enter Tryd.func34, Tryd.ntmps34
  go_wp2_with (go_at_call 31; refine (state_any B st b A _ st0).mono ?_; rintro e w1 ⟨rfl, rfl⟩)
  go_ret
  exact ⟨rfl, below_one _ _⟩
end Go.Proofs.YtbbnackahgcegaaDoor
