/- WordMade: a word is made of its list of bits, counts as many bits as the list is long, a bit that is put is there, and what has counted on fewer than 2^31 times is not before its start. -/
import Derived.Test.YtebhojbllhjkeaaDoorWordB
import Derived.Test.YtebhojbllhjkeaaDoorRounds
import Derived.BigQuiet
import Derived.Lib.Tables
import Derived.Test.YtebhojbllhjkeaaDoorCards
import Derived.Test.YtebhojbllhjkeaaDoorTie
import Derived.WalkKit
import Derived.ProofKit
import Derived.OpenShut
import Derived.ShutString
import Derived.ChangeOld
import Derived.Below
import Derived.Deep.DeepHandedRow
import Derived.Lib.LaidTab
namespace Go.Proofs.YtebhojbllhjkeaaDoor.wordMade
open Go.ChangeShapes Go.WideShapes Go.ChangeAt Go.RowKit
set_option linter.unusedVariables false

theorem and_255 (y : Int) (h0 : 0 ≤ y) (h1 : y ≤ 4294967295) : bits .and .u32 y 255 = y % 256 := by
  rw [u32_and y 255 h0 (by omega) (by omega) (by omega)]
  have h := Nat.and_two_pow_sub_one_eq_mod y.toNat 8
  have e : (255 : Int).toNat = 2 ^ 8 - 1 := rfl
  rw [e, h]
  omega

theorem popAux_add : ∀ (f g x : Nat), Lib.popAux (f + g) x = Lib.popAux f x + Lib.popAux g (x / 2 ^ f)
  | 0, g, x => by simp [Lib.popAux]
  | f + 1, g, x => by
    rw [show f + 1 + g = (f + g) + 1 by omega, Lib.popAux, Lib.popAux, popAux_add f g (x / 2), Nat.div_div_eq_div_mul, Nat.pow_succ, Nat.mul_comm (2 ^ f) 2]
    omega
theorem popAux_mod : ∀ (f x : Nat), Lib.popAux f (x % 2 ^ f) = Lib.popAux f x
  | 0, x => rfl
  | f + 1, x => by
    have hp : 2 ^ (f + 1) = 2 * 2 ^ f := by rw [Nat.pow_succ]; omega
    rw [Lib.popAux, Lib.popAux, ← popAux_mod f (x / 2)]
    have h1 : x % 2 ^ (f + 1) % 2 = x % 2 := by rw [hp]; exact Nat.mod_mul_right_mod ..
    have h2 : x % 2 ^ (f + 1) / 2 = x / 2 % 2 ^ f := by rw [hp, Nat.mod_mul_right_div_self]
    rw [h1, h2]
theorem popAux_zero : ∀ f, Lib.popAux f 0 = 0
  | 0 => rfl
  | f + 1 => by simp [Lib.popAux, popAux_zero f]
theorem length_bitsFrom_pop : ∀ (f i x : Nat), (bitsFrom f i x).length = Lib.popAux f x
  | 0, _, _ => rfl
  | f + 1, i, x => by
    rw [bitsFrom, Lib.popAux, ← length_bitsFrom_pop f (i + 1) (x / 2)]
    split
    · rw [List.length_cons]; omega
    · omega
theorem pop8_pop (y : Nat) (h : y < 256) : Lib.pop8 (y : Int) = (Lib.popAux 8 y : Int) := by
  have := Lib.pop8_eq ⟨y, h⟩
  simp only at this
  rw [this, Lib.onesCount, show 64 = 8 + 56 from rfl, popAux_add, Nat.div_eq_of_lt h, popAux_zero]
  rfl
theorem pop8_le (y : Nat) (h : y < 256) : Lib.popAux 8 y ≤ 8 := by
  rw [← length_bitsFrom_pop 8 0 y]
  exact length_bitsFrom 8 0 y

theorem pop32 (n : Nat) (h : n < 4294967296) : Lib.pop8 ((n : Int) / 16777216) + Lib.pop8 ((n : Int) / 65536 % 256) + Lib.pop8 ((n : Int) / 256 % 256) + Lib.pop8 ((n : Int) % 256) = ((bitsL (n : Int)).length : Int) ∧
    0 ≤ Lib.pop8 ((n : Int) / 16777216) ∧ Lib.pop8 ((n : Int) / 16777216) ≤ 8 ∧ 0 ≤ Lib.pop8 ((n : Int) / 65536 % 256) ∧ Lib.pop8 ((n : Int) / 65536 % 256) ≤ 8 ∧ 0 ≤ Lib.pop8 ((n : Int) / 256 % 256) ∧ Lib.pop8 ((n : Int) / 256 % 256) ≤ 8 ∧ 0 ≤ Lib.pop8 ((n : Int) % 256) ∧ Lib.pop8 ((n : Int) % 256) ≤ 8 := by
  have e1 : (n : Int) / 16777216 = ((n / 16777216 : Nat) : Int) := by omega
  have e2 : (n : Int) / 65536 % 256 = ((n / 65536 % 256 : Nat) : Int) := by omega
  have e3 : (n : Int) / 256 % 256 = ((n / 256 % 256 : Nat) : Int) := by omega
  have e4 : (n : Int) % 256 = ((n % 256 : Nat) : Int) := by omega
  rw [e1, e2, e3, e4, pop8_pop _ (by omega), pop8_pop _ (by omega), pop8_pop _ (by omega), pop8_pop _ (by omega)]
  have l1 := pop8_le (n / 16777216) (by omega)
  have l2 := pop8_le (n / 65536 % 256) (by omega)
  have l3 := pop8_le (n / 256 % 256) (by omega)
  have l4 := pop8_le (n % 256) (by omega)
  have hb : (bitsL (n : Int)).length = Lib.popAux 8 (n % 256) + (Lib.popAux 8 (n / 256 % 256) + (Lib.popAux 8 (n / 65536 % 256) + Lib.popAux 8 (n / 16777216))) := by
    unfold bitsL
    rw [length_bitsFrom_pop, Int.toNat_natCast, show 32 = 8 + (8 + (8 + 8)) from rfl, popAux_add 8, popAux_add 8, popAux_add 8]
    have m1 := popAux_mod 8 n
    have m2 := popAux_mod 8 (n / 2 ^ 8)
    have m3 := popAux_mod 8 (n / 2 ^ 8 / 2 ^ 8)
    rw [← m1, ← m2, ← m3]
    simp only [Nat.div_div_eq_div_mul]
  rw [hb]
  omega

set_option maxRecDepth 100000 in
set_option maxHeartbeats 1000000 in
theorem ones_any (x : Int) (w : World) (h0 : 0 ≤ x) (h1 : x ≤ 4294967295) :
    Calls Tryd.prog 16 #[.int .u32 x] w fun e w' => e = .returned (.int .i64 ((bitsL x).length : Int)) ∧ ∃ n, w' = w.drewN n := by
  obtain ⟨n, rfl⟩ := Int.eq_ofNat_of_zero_le h0
  have a1 := and_255 ((n : Int) / 65536) (by omega) (by omega)
  have a2 := and_255 ((n : Int) / 256) (by omega) (by omega)
  have a3 := and_255 (n : Int) (by omega) (by omega)
  have b0 : 0 ≤ (n : Int) / 16777216 := by omega
  have c0 : (n : Int) / 16777216 ≤ 255 := by omega
  have b1 : 0 ≤ (n : Int) / 65536 % 256 := by omega
  have c1 : (n : Int) / 65536 % 256 ≤ 255 := by omega
  have b2 : 0 ≤ (n : Int) / 256 % 256 := by omega
  have c2 : (n : Int) / 256 % 256 ≤ 255 := by omega
  have b3 : 0 ≤ (n : Int) % 256 := by omega
  have c3 : (n : Int) % 256 ≤ 255 := by omega
  obtain ⟨hp, p0, q0, p1, q1, p2, q2, p3, q3⟩ := pop32 n (by omega)
  have Hp := Lib.hid hp
  clear hp
  go_enter Tryd.func16, Tryd.ntmps16
  go_wp2
  simp only [List.append_eq, List.cons_append, List.nil_append, Lib.fold_pop8tab]
  go_quiet (fail)
  go_wp2
  go_ret
  exact ⟨ret_int Hp.out, _, rfl⟩

set_option maxHeartbeats 400000 in
theorem count_any (x : Int) (w : World) (h0 : 0 ≤ x) (h1 : x ≤ 4294967295) :
    Calls Tryd.prog 6 #[.int .u32 x] w fun e w' => e = .returned (.int .i64 ((bitsL x).length : Int)) ∧ Below w.heap.size w w' := by
  go_enter Tryd.func6, Tryd.ntmps6
  go_wp2_with (go_at_call 16; refine (ones_any _ _ h0 h1).mono ?_; rintro e w' ⟨rfl, n, rfl⟩)
  go_ret
  exact ⟨rfl, below_drewN (Below.refl _ _) _⟩

/-- the word of the lowest n bits -/
def maskI (n : Int) : Int := ((2 ^ n.toNat - 1 : Nat) : Int)

theorem maskI_val (n : Int) (h0 : 0 ≤ n) (h1 : n ≤ 32) : IntKind.u64.wrap (IntKind.u64.wrap (2 ^ (max (min n 32) 0).toNat) - 1) % 4294967296 = maskI n := by
  obtain ⟨k, rfl⟩ := Int.eq_ofNat_of_zero_le h0
  have e : (max (min (k : Int) 32) 0).toNat = k := by omega
  rw [e]
  have hk : ∀ k : Nat, k < 33 → IntKind.u64.wrap (IntKind.u64.wrap (2 ^ k) - 1) % 4294967296 = maskI k := by decide +kernel
  exact hk k (by omega)
theorem low_mask_val (n : Int) (h0 : 0 ≤ n) (h1 : n < 32) : lowI ((4294967295 - maskI n) % 4294967296) = n := by
  obtain ⟨k, rfl⟩ := Int.eq_ofNat_of_zero_le h0
  have hk : ∀ k : Nat, k < 32 → lowI ((4294967295 - maskI k) % 4294967296) = k := by decide +kernel
  exact hk k (by omega)

set_option maxHeartbeats 400000 in
theorem mask_in (n : Int) (w : World) (h0 : 0 ≤ n) (h1 : n ≤ 32) :
    Calls Tryd.prog 11 #[.int .i64 n] w fun e w' => e = .returned (.int .u32 (maskI n)) ∧ w = w' := by
  have hm := Lib.hid (maskI_val n h0 h1)
  go_enter Tryd.func11, Tryd.ntmps11
  go_wp2
  go_ret
  exact ⟨ret_int hm.out, rfl⟩
theorem mask_32 (w : World) : Calls Tryd.prog 11 #[.int .i64 32] w fun e w' => e = .returned (.int .u32 4294967295) ∧ w = w' :=
  (mask_in 32 w (by omega) (by omega)).mono fun _ _ ⟨h, hw⟩ => ⟨h.trans (ret_int (by decide)), hw⟩

theorem hasB_putT (a i : Int) (h0 : 0 ≤ i) (h1 : i < 32) : hasB (putT a i) i = true := by
  rw [hasB_in _ _ h0 h1, putT_in _ _ h0 h1]
  simp [Nat.testBit_or, Nat.testBit_two_pow_self]
theorem hasB_putF (a i : Int) (h0 : 0 ≤ i) (h1 : i < 32) : hasB (putF a i) i = false := by
  rw [hasB_in _ _ h0 h1, putF_in _ _ h0 h1]
  have hp := two_pow_lt (i := i.toNat) (by omega)
  have e : 4294967295 - 2 ^ i.toNat = 2 ^ 32 - (2 ^ i.toNat + 1) := by omega
  simp only [Int.toNat_natCast, Nat.testBit_and, e]
  rw [Nat.testBit_two_pow_sub_succ (by omega), Nat.testBit_two_pow_self]
  simp

/-- the first part: the word is made of its list -/
def inside (i : Int) : Bool := decide (0 ≤ i) && decide (i < 32)

theorem hasT (a i : Int) (w : World) (a0 : 0 ≤ a) (a1 : a ≤ 4294967295) (i0 : 0 ≤ i) (i1 : i < 32) :
    Calls Tryd.prog 7 #[.int .u32 (putT a i), .int .i64 i] w fun e w' => e = .returned (.bool true) ∧ w = w' :=
  (has_any (putT a i) i w (putT_bd a i a0 a1).1 (putT_bd a i a0 a1).2).mono fun _ _ ⟨h, hw⟩ => ⟨h.trans (ret_bool (hasB_putT a i i0 i1)), hw⟩
theorem hasF (a i : Int) (w : World) (a0 : 0 ≤ a) (a1 : a ≤ 4294967295) (i0 : 0 ≤ i) (i1 : i < 32) :
    Calls Tryd.prog 7 #[.int .u32 (putF a i), .int .i64 i] w fun e w' => e = .returned (.bool false) ∧ w = w' :=
  (has_any (putF a i) i w (putF_bd a i a0 a1).1 (putF_bd a i a0 a1).2).mono fun _ _ ⟨h, hw⟩ => ⟨h.trans (ret_bool (hasB_putF a i i0 i1)), hw⟩
theorem lowM (i : Int) (w : World) (i0 : 0 ≤ i) (i1 : i < 32) (hT : Tab w) :
    Calls Tryd.prog 10 #[.int .u32 ((4294967295 - maskI i) % 4294967296)] w fun e w' => e = .returned (.int .i64 i) ∧ w' = w :=
  (low_any _ w (by omega) (by omega) hT).mono fun _ _ ⟨h, hw⟩ => ⟨h.trans (ret_int (low_mask_val i i0 i1)), hw⟩
theorem aheadS (a by_ : Int) (w : World) (b0 : 0 ≤ by_) (b1 : by_ ≤ 4294967295) :
    Calls Tryd.prog 12 #[.int .u32 ((a + by_) % 4294967296), .int .u32 a] w fun e w' => e = .returned (.int .u32 by_) ∧ w = w' :=
  (ahead_any _ _ w).mono fun _ _ ⟨h, hw⟩ => ⟨h.trans (ret_int (by omega)), hw⟩
theorem beforeS (a by_ : Int) (w : World) (b0 : 0 ≤ by_) (b1 : by_ ≤ 4294967295) :
    Calls Tryd.prog 13 #[.int .u32 ((a + by_) % 4294967296), .int .u32 a] w fun e w' => e = .returned (.bool (decide (2147483648 ≤ by_))) ∧ w = w' :=
  (before_any _ _ w).mono fun _ _ ⟨h, hw⟩ => ⟨h.trans (ret_bool (by rw [show ((a + by_) % 4294967296 - a) % 4294967296 = by_ by omega])), hw⟩
theorem beforeT (a by_ : Int) (w : World) (b0 : 0 < by_) (b1 : by_ < 2147483648) :
    Calls Tryd.prog 13 #[.int .u32 a, .int .u32 ((a + by_) % 4294967296)] w fun e w' => e = .returned (.bool true) ∧ w = w' :=
  (before_any _ _ w).mono fun _ _ ⟨h, hw⟩ => ⟨h.trans (ret_bool (by rw [show (a - (a + by_) % 4294967296) % 4294967296 = 4294967296 - by_ by omega]; simp; omega)), hw⟩

theorem aheadZ (a : Int) (w : World) : Calls Tryd.prog 12 #[.int .u32 a, .int .u32 a] w fun e w' => e = .returned (.int .u32 0) ∧ w = w' :=
  (ahead_any _ _ w).mono fun _ _ ⟨h, hw⟩ => ⟨h.trans (ret_int (by omega)), hw⟩
theorem beforeZ (a : Int) (w : World) : Calls Tryd.prog 13 #[.int .u32 a, .int .u32 a] w fun e w' => e = .returned (.bool false) ∧ w = w' :=
  (before_any _ _ w).mono fun _ _ ⟨h, hw⟩ => ⟨h.trans (ret_bool (by rw [Int.sub_self]; decide)), hw⟩

/-- Of the list that was made of a word: the word -/
theorem ofW (base : Nat) (v : Value) (a : Int) (w : World) (a0 : 0 ≤ a) (a1 : a ≤ 4294967295) (h : Iv w base v (bitsL a)) :
    Calls Tryd.prog 4 #[v] w fun e w' => e = .returned (.int .u32 a) ∧ Below w.heap.size w w' :=
  (of_iv base v _ w h (length_bitsL a)).mono fun _ _ ⟨he, hw⟩ => ⟨he.trans (ret_int (ofL_bitsL a a0 a1)), hw⟩

/-- what the middle's calls return for a place in the word: three words, named by what they answer -/
theorem named (a i : Int) (a0 : 0 ≤ a) (a1 : a ≤ 4294967295) (i0 : 0 ≤ i) (i1 : i < 32) : ∃ t f m : Int,
    (∀ w, Calls Tryd.prog 8 #[.int .u32 a, .int .i64 i] w fun e w' => e = .returned (.int .u32 t) ∧ w = w') ∧
    (∀ w, Calls Tryd.prog 7 #[.int .u32 t, .int .i64 i] w fun e w' => e = .returned (.bool true) ∧ w = w') ∧
    (∀ w, Calls Tryd.prog 9 #[.int .u32 a, .int .i64 i] w fun e w' => e = .returned (.int .u32 f) ∧ w = w') ∧
    (∀ w, Calls Tryd.prog 7 #[.int .u32 f, .int .i64 i] w fun e w' => e = .returned (.bool false) ∧ w = w') ∧
    (∀ w, Calls Tryd.prog 11 #[.int .i64 i] w fun e w' => e = .returned (.int .u32 m) ∧ w = w') ∧
    (∀ w, Tab w → Calls Tryd.prog 10 #[.int .u32 ((4294967295 - m) % 4294967296)] w fun e w' => e = .returned (.int .i64 i) ∧ w' = w) :=
  ⟨putT a i, putF a i, maskI i, fun w => with_any a i w a0 a1, fun w => hasT a i w a0 a1 i0 i1, fun w => without_any a i w a0 a1, fun w => hasF a i w a0 a1 i0 i1, fun w => mask_in i w i0 (Int.le_of_lt i1), fun w => lowM i w i0 i1⟩

set_option maxHeartbeats 8000000 in
theorem walk (a i b : Int) (w0 : (Lit.int .u32 a).wf = true) (w1 : (Lit.int .i64 i).wf = true) (w2 : (Lit.int .u32 b).wf = true) (w : World) (hT : Tab w) :
    Calls Tryd.prog 3 #[.int .u32 a, .int .i64 i, .int .u32 b] w fun e w' => e = .returned (.bool true) ∧ Below w.heap.size w w' := by
  obtain ⟨a0, a1⟩ := bounds_u32 w0
  obtain ⟨b0, b1⟩ := bounds_u32 w2
  clear w0 w1 w2
  by_cases hi : 0 ≤ i ∧ i < 32
  · obtain ⟨i0, i1⟩ := hi
    obtain ⟨t, f, m, nT, nHT, nF, nHF, nM, nL⟩ := named a i a0 a1 i0 i1
    by_cases hz : b = 0
    · subst hz
      go_enter Tryd.func3, Tryd.ntmps3
      go_wp2_with (first
        | (go_at_call 5; refine (list32_any _ _ a0 a1 (hT.below hb)).mono ?_; rintro e w' ⟨v, rfl, hv, hb2⟩; have hb := below_trans hb hb2; obtain ⟨p, c, rfl, hc1, hc2, hcp⟩ := hv.shape)
        | (go_at_call 5; refine (list32_any _ _ a0 a1 hT).mono ?_; rintro e w' ⟨v, rfl, hv, hb⟩)
        | (go_at_call 4; refine (ofW _ _ a _ a0 a1 hv).mono ?_; rintro e w' ⟨rfl, hb2⟩; have hb := below_trans hb hb2)
        | (go_at_call 6; refine (count_any _ _ a0 a1).mono ?_; rintro e w' ⟨rfl, hb2⟩; have hb := below_trans hb hb2)
        | (go_at_call 7; with_reducible refine (nHT _).mono ?_; rintro e w' ⟨rfl, rfl⟩)
        | (go_at_call 7; with_reducible refine (nHF _).mono ?_; rintro e w' ⟨rfl, rfl⟩)
        | (go_at_call 8; refine (nT _).mono ?_; rintro e w' ⟨rfl, rfl⟩)
        | (go_at_call 9; refine (nF _).mono ?_; rintro e w' ⟨rfl, rfl⟩)
        | (go_at_call 11; with_reducible refine (mask_32 _).mono ?_; rintro e w' ⟨rfl, rfl⟩)
        | (go_at_call 11; with_reducible refine (nM _).mono ?_; rintro e w' ⟨rfl, rfl⟩)
        | (go_at_call 10; refine (nL _ (hT.below hb)).mono ?_; rintro e w' ⟨rfl, rfl⟩)
        | (go_at_call 12; with_reducible refine (aheadZ a _).mono ?_; rintro e w' ⟨rfl, rfl⟩)
        | (go_at_call 13; with_reducible refine (beforeZ a _).mono ?_; rintro e w' ⟨rfl, rfl⟩)
        | (go_at_call 12; with_reducible refine (aheadS a _ _ b0 b1).mono ?_; rintro e w' ⟨rfl, rfl⟩)
        | (go_at_call 13; with_reducible refine (beforeS a _ _ b0 b1).mono ?_; rintro e w' ⟨rfl, rfl⟩)
        | (go_at_call 13; with_reducible refine (beforeT a b _ (by omega) (by omega)).mono ?_; rintro e w' ⟨rfl, rfl⟩)
        | (go_at_call 14; refine (alive02 _).mono ?_; rintro e w' ⟨rfl, hb2⟩; have hb := below_trans hb hb2))
      go_ret
      exact ⟨rfl, hb⟩
    · have hz' : (b == 0) = false := by simpa using hz
      by_cases hg : 2147483648 ≤ b
      · go_enter Tryd.func3, Tryd.ntmps3
        go_wp2_with (first
          | (go_at_call 5; refine (list32_any _ _ a0 a1 (hT.below hb)).mono ?_; rintro e w' ⟨v, rfl, hv, hb2⟩; have hb := below_trans hb hb2; obtain ⟨p, c, rfl, hc1, hc2, hcp⟩ := hv.shape)
          | (go_at_call 5; refine (list32_any _ _ a0 a1 hT).mono ?_; rintro e w' ⟨v, rfl, hv, hb⟩)
          | (go_at_call 4; refine (ofW _ _ a _ a0 a1 hv).mono ?_; rintro e w' ⟨rfl, hb2⟩; have hb := below_trans hb hb2)
          | (go_at_call 6; refine (count_any _ _ a0 a1).mono ?_; rintro e w' ⟨rfl, hb2⟩; have hb := below_trans hb hb2)
          | (go_at_call 7; with_reducible refine (nHT _).mono ?_; rintro e w' ⟨rfl, rfl⟩)
          | (go_at_call 7; with_reducible refine (nHF _).mono ?_; rintro e w' ⟨rfl, rfl⟩)
          | (go_at_call 8; refine (nT _).mono ?_; rintro e w' ⟨rfl, rfl⟩)
          | (go_at_call 9; refine (nF _).mono ?_; rintro e w' ⟨rfl, rfl⟩)
          | (go_at_call 11; with_reducible refine (mask_32 _).mono ?_; rintro e w' ⟨rfl, rfl⟩)
          | (go_at_call 11; with_reducible refine (nM _).mono ?_; rintro e w' ⟨rfl, rfl⟩)
          | (go_at_call 10; refine (nL _ (hT.below hb)).mono ?_; rintro e w' ⟨rfl, rfl⟩)
          | (go_at_call 12; with_reducible refine (aheadZ a _).mono ?_; rintro e w' ⟨rfl, rfl⟩)
          | (go_at_call 13; with_reducible refine (beforeZ a _).mono ?_; rintro e w' ⟨rfl, rfl⟩)
          | (go_at_call 12; with_reducible refine (aheadS a _ _ b0 b1).mono ?_; rintro e w' ⟨rfl, rfl⟩)
          | (go_at_call 13; with_reducible refine (beforeS a _ _ b0 b1).mono ?_; rintro e w' ⟨rfl, rfl⟩)
          | (go_at_call 13; with_reducible refine (beforeT a b _ (by omega) (by omega)).mono ?_; rintro e w' ⟨rfl, rfl⟩)
          | (go_at_call 14; refine (alive02 _).mono ?_; rintro e w' ⟨rfl, hb2⟩; have hb := below_trans hb hb2))
        go_ret
        exact ⟨rfl, hb⟩
      · have hg' : b < 2147483648 := by omega
        go_enter Tryd.func3, Tryd.ntmps3
        go_wp2_with (first
          | (go_at_call 5; refine (list32_any _ _ a0 a1 (hT.below hb)).mono ?_; rintro e w' ⟨v, rfl, hv, hb2⟩; have hb := below_trans hb hb2; obtain ⟨p, c, rfl, hc1, hc2, hcp⟩ := hv.shape)
          | (go_at_call 5; refine (list32_any _ _ a0 a1 hT).mono ?_; rintro e w' ⟨v, rfl, hv, hb⟩)
          | (go_at_call 4; refine (ofW _ _ a _ a0 a1 hv).mono ?_; rintro e w' ⟨rfl, hb2⟩; have hb := below_trans hb hb2)
          | (go_at_call 6; refine (count_any _ _ a0 a1).mono ?_; rintro e w' ⟨rfl, hb2⟩; have hb := below_trans hb hb2)
          | (go_at_call 7; with_reducible refine (nHT _).mono ?_; rintro e w' ⟨rfl, rfl⟩)
          | (go_at_call 7; with_reducible refine (nHF _).mono ?_; rintro e w' ⟨rfl, rfl⟩)
          | (go_at_call 8; refine (nT _).mono ?_; rintro e w' ⟨rfl, rfl⟩)
          | (go_at_call 9; refine (nF _).mono ?_; rintro e w' ⟨rfl, rfl⟩)
          | (go_at_call 11; with_reducible refine (mask_32 _).mono ?_; rintro e w' ⟨rfl, rfl⟩)
          | (go_at_call 11; with_reducible refine (nM _).mono ?_; rintro e w' ⟨rfl, rfl⟩)
          | (go_at_call 10; refine (nL _ (hT.below hb)).mono ?_; rintro e w' ⟨rfl, rfl⟩)
          | (go_at_call 12; with_reducible refine (aheadZ a _).mono ?_; rintro e w' ⟨rfl, rfl⟩)
          | (go_at_call 13; with_reducible refine (beforeZ a _).mono ?_; rintro e w' ⟨rfl, rfl⟩)
          | (go_at_call 12; with_reducible refine (aheadS a _ _ b0 b1).mono ?_; rintro e w' ⟨rfl, rfl⟩)
          | (go_at_call 13; with_reducible refine (beforeS a _ _ b0 b1).mono ?_; rintro e w' ⟨rfl, rfl⟩)
          | (go_at_call 13; with_reducible refine (beforeT a b _ (by omega) (by omega)).mono ?_; rintro e w' ⟨rfl, rfl⟩)
          | (go_at_call 14; refine (alive02 _).mono ?_; rintro e w' ⟨rfl, hb2⟩; have hb := below_trans hb hb2))
        go_ret
        exact ⟨rfl, hb⟩
  · by_cases ho : i < 0
    · by_cases hz : b = 0
      · subst hz
        go_enter Tryd.func3, Tryd.ntmps3
        go_wp2_with (first
          | (go_at_call 5; refine (list32_any _ _ a0 a1 (hT.below hb)).mono ?_; rintro e w' ⟨v, rfl, hv, hb2⟩; have hb := below_trans hb hb2; obtain ⟨p, c, rfl, hc1, hc2, hcp⟩ := hv.shape)
          | (go_at_call 5; refine (list32_any _ _ a0 a1 hT).mono ?_; rintro e w' ⟨v, rfl, hv, hb⟩)
          | (go_at_call 4; refine (ofW _ _ a _ a0 a1 hv).mono ?_; rintro e w' ⟨rfl, hb2⟩; have hb := below_trans hb hb2)
          | (go_at_call 6; refine (count_any _ _ a0 a1).mono ?_; rintro e w' ⟨rfl, hb2⟩; have hb := below_trans hb hb2)
          | (go_at_call 12; with_reducible refine (aheadZ a _).mono ?_; rintro e w' ⟨rfl, rfl⟩)
          | (go_at_call 13; with_reducible refine (beforeZ a _).mono ?_; rintro e w' ⟨rfl, rfl⟩)
          | (go_at_call 12; with_reducible refine (aheadS a _ _ b0 b1).mono ?_; rintro e w' ⟨rfl, rfl⟩)
          | (go_at_call 13; with_reducible refine (beforeS a _ _ b0 b1).mono ?_; rintro e w' ⟨rfl, rfl⟩)
          | (go_at_call 13; with_reducible refine (beforeT a b _ (by omega) (by omega)).mono ?_; rintro e w' ⟨rfl, rfl⟩)
          | (go_at_call 14; refine (alive02 _).mono ?_; rintro e w' ⟨rfl, hb2⟩; have hb := below_trans hb hb2))
        go_ret
        exact ⟨rfl, hb⟩
      · have hz' : (b == 0) = false := by simpa using hz
        by_cases hg : 2147483648 ≤ b
        · go_enter Tryd.func3, Tryd.ntmps3
          go_wp2_with (first
            | (go_at_call 5; refine (list32_any _ _ a0 a1 (hT.below hb)).mono ?_; rintro e w' ⟨v, rfl, hv, hb2⟩; have hb := below_trans hb hb2; obtain ⟨p, c, rfl, hc1, hc2, hcp⟩ := hv.shape)
            | (go_at_call 5; refine (list32_any _ _ a0 a1 hT).mono ?_; rintro e w' ⟨v, rfl, hv, hb⟩)
            | (go_at_call 4; refine (ofW _ _ a _ a0 a1 hv).mono ?_; rintro e w' ⟨rfl, hb2⟩; have hb := below_trans hb hb2)
            | (go_at_call 6; refine (count_any _ _ a0 a1).mono ?_; rintro e w' ⟨rfl, hb2⟩; have hb := below_trans hb hb2)
            | (go_at_call 12; with_reducible refine (aheadZ a _).mono ?_; rintro e w' ⟨rfl, rfl⟩)
            | (go_at_call 13; with_reducible refine (beforeZ a _).mono ?_; rintro e w' ⟨rfl, rfl⟩)
            | (go_at_call 12; with_reducible refine (aheadS a _ _ b0 b1).mono ?_; rintro e w' ⟨rfl, rfl⟩)
            | (go_at_call 13; with_reducible refine (beforeS a _ _ b0 b1).mono ?_; rintro e w' ⟨rfl, rfl⟩)
            | (go_at_call 13; with_reducible refine (beforeT a b _ (by omega) (by omega)).mono ?_; rintro e w' ⟨rfl, rfl⟩)
            | (go_at_call 14; refine (alive02 _).mono ?_; rintro e w' ⟨rfl, hb2⟩; have hb := below_trans hb hb2))
          go_ret
          exact ⟨rfl, hb⟩
        · have hg' : b < 2147483648 := by omega
          go_enter Tryd.func3, Tryd.ntmps3
          go_wp2_with (first
            | (go_at_call 5; refine (list32_any _ _ a0 a1 (hT.below hb)).mono ?_; rintro e w' ⟨v, rfl, hv, hb2⟩; have hb := below_trans hb hb2; obtain ⟨p, c, rfl, hc1, hc2, hcp⟩ := hv.shape)
            | (go_at_call 5; refine (list32_any _ _ a0 a1 hT).mono ?_; rintro e w' ⟨v, rfl, hv, hb⟩)
            | (go_at_call 4; refine (ofW _ _ a _ a0 a1 hv).mono ?_; rintro e w' ⟨rfl, hb2⟩; have hb := below_trans hb hb2)
            | (go_at_call 6; refine (count_any _ _ a0 a1).mono ?_; rintro e w' ⟨rfl, hb2⟩; have hb := below_trans hb hb2)
            | (go_at_call 12; with_reducible refine (aheadZ a _).mono ?_; rintro e w' ⟨rfl, rfl⟩)
            | (go_at_call 13; with_reducible refine (beforeZ a _).mono ?_; rintro e w' ⟨rfl, rfl⟩)
            | (go_at_call 12; with_reducible refine (aheadS a _ _ b0 b1).mono ?_; rintro e w' ⟨rfl, rfl⟩)
            | (go_at_call 13; with_reducible refine (beforeS a _ _ b0 b1).mono ?_; rintro e w' ⟨rfl, rfl⟩)
            | (go_at_call 13; with_reducible refine (beforeT a b _ (by omega) (by omega)).mono ?_; rintro e w' ⟨rfl, rfl⟩)
            | (go_at_call 14; refine (alive02 _).mono ?_; rintro e w' ⟨rfl, hb2⟩; have hb := below_trans hb hb2))
          go_ret
          exact ⟨rfl, hb⟩
    · have ho' : 32 ≤ i := by omega
      by_cases hz : b = 0
      · subst hz
        go_enter Tryd.func3, Tryd.ntmps3
        go_wp2_with (first
          | (go_at_call 5; refine (list32_any _ _ a0 a1 (hT.below hb)).mono ?_; rintro e w' ⟨v, rfl, hv, hb2⟩; have hb := below_trans hb hb2; obtain ⟨p, c, rfl, hc1, hc2, hcp⟩ := hv.shape)
          | (go_at_call 5; refine (list32_any _ _ a0 a1 hT).mono ?_; rintro e w' ⟨v, rfl, hv, hb⟩)
          | (go_at_call 4; refine (ofW _ _ a _ a0 a1 hv).mono ?_; rintro e w' ⟨rfl, hb2⟩; have hb := below_trans hb hb2)
          | (go_at_call 6; refine (count_any _ _ a0 a1).mono ?_; rintro e w' ⟨rfl, hb2⟩; have hb := below_trans hb hb2)
          | (go_at_call 12; with_reducible refine (aheadZ a _).mono ?_; rintro e w' ⟨rfl, rfl⟩)
          | (go_at_call 13; with_reducible refine (beforeZ a _).mono ?_; rintro e w' ⟨rfl, rfl⟩)
          | (go_at_call 12; with_reducible refine (aheadS a _ _ b0 b1).mono ?_; rintro e w' ⟨rfl, rfl⟩)
          | (go_at_call 13; with_reducible refine (beforeS a _ _ b0 b1).mono ?_; rintro e w' ⟨rfl, rfl⟩)
          | (go_at_call 13; with_reducible refine (beforeT a b _ (by omega) (by omega)).mono ?_; rintro e w' ⟨rfl, rfl⟩)
          | (go_at_call 14; refine (alive02 _).mono ?_; rintro e w' ⟨rfl, hb2⟩; have hb := below_trans hb hb2))
        go_ret
        exact ⟨rfl, hb⟩
      · have hz' : (b == 0) = false := by simpa using hz
        by_cases hg : 2147483648 ≤ b
        · go_enter Tryd.func3, Tryd.ntmps3
          go_wp2_with (first
            | (go_at_call 5; refine (list32_any _ _ a0 a1 (hT.below hb)).mono ?_; rintro e w' ⟨v, rfl, hv, hb2⟩; have hb := below_trans hb hb2; obtain ⟨p, c, rfl, hc1, hc2, hcp⟩ := hv.shape)
            | (go_at_call 5; refine (list32_any _ _ a0 a1 hT).mono ?_; rintro e w' ⟨v, rfl, hv, hb⟩)
            | (go_at_call 4; refine (ofW _ _ a _ a0 a1 hv).mono ?_; rintro e w' ⟨rfl, hb2⟩; have hb := below_trans hb hb2)
            | (go_at_call 6; refine (count_any _ _ a0 a1).mono ?_; rintro e w' ⟨rfl, hb2⟩; have hb := below_trans hb hb2)
            | (go_at_call 12; with_reducible refine (aheadZ a _).mono ?_; rintro e w' ⟨rfl, rfl⟩)
            | (go_at_call 13; with_reducible refine (beforeZ a _).mono ?_; rintro e w' ⟨rfl, rfl⟩)
            | (go_at_call 12; with_reducible refine (aheadS a _ _ b0 b1).mono ?_; rintro e w' ⟨rfl, rfl⟩)
            | (go_at_call 13; with_reducible refine (beforeS a _ _ b0 b1).mono ?_; rintro e w' ⟨rfl, rfl⟩)
            | (go_at_call 13; with_reducible refine (beforeT a b _ (by omega) (by omega)).mono ?_; rintro e w' ⟨rfl, rfl⟩)
            | (go_at_call 14; refine (alive02 _).mono ?_; rintro e w' ⟨rfl, hb2⟩; have hb := below_trans hb hb2))
          go_ret
          exact ⟨rfl, hb⟩
        · have hg' : b < 2147483648 := by omega
          go_enter Tryd.func3, Tryd.ntmps3
          go_wp2_with (first
            | (go_at_call 5; refine (list32_any _ _ a0 a1 (hT.below hb)).mono ?_; rintro e w' ⟨v, rfl, hv, hb2⟩; have hb := below_trans hb hb2; obtain ⟨p, c, rfl, hc1, hc2, hcp⟩ := hv.shape)
            | (go_at_call 5; refine (list32_any _ _ a0 a1 hT).mono ?_; rintro e w' ⟨v, rfl, hv, hb⟩)
            | (go_at_call 4; refine (ofW _ _ a _ a0 a1 hv).mono ?_; rintro e w' ⟨rfl, hb2⟩; have hb := below_trans hb hb2)
            | (go_at_call 6; refine (count_any _ _ a0 a1).mono ?_; rintro e w' ⟨rfl, hb2⟩; have hb := below_trans hb hb2)
            | (go_at_call 12; with_reducible refine (aheadZ a _).mono ?_; rintro e w' ⟨rfl, rfl⟩)
            | (go_at_call 13; with_reducible refine (beforeZ a _).mono ?_; rintro e w' ⟨rfl, rfl⟩)
            | (go_at_call 12; with_reducible refine (aheadS a _ _ b0 b1).mono ?_; rintro e w' ⟨rfl, rfl⟩)
            | (go_at_call 13; with_reducible refine (beforeS a _ _ b0 b1).mono ?_; rintro e w' ⟨rfl, rfl⟩)
            | (go_at_call 13; with_reducible refine (beforeT a b _ (by omega) (by omega)).mono ?_; rintro e w' ⟨rfl, rfl⟩)
            | (go_at_call 14; refine (alive02 _).mono ?_; rintro e w' ⟨rfl, hb2⟩; have hb := below_trans hb hb2))
          go_ret
          exact ⟨rfl, hb⟩

end Go.Proofs.YtebhojbllhjkeaaDoor.wordMade
