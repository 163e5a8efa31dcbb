/- WordRounds: for any two words and any number, Ahead, Before, More and Power answer as the document defines them. -/
import Derived.Test.YtebhojbllhjkeaaRounds
import Derived.ProofKit
import Derived.OpenShut
import Derived.ShutString
import Derived.ChangeOld
import Derived.Below
namespace Go.Proofs.Ytebhojbllhjkeaa.wordRounds
open Go.ChangeShapes Go.WideShapes Go.ChangeAt Go.RowKit
set_option linter.unusedVariables false

set_option maxHeartbeats 400000 in
theorem refAhead_any (a b : Int) (w : World) (a0 : 0 ≤ a) (a1 : a ≤ 4294967295) (b0 : 0 ≤ b) (b1 : b ≤ 4294967295) :
    Calls Try.prog 12 #[.int .u32 a, .int .u32 b] w fun e w' => e = .returned (.int .u32 ((a - b) % 4294967296)) ∧ w = w' := by
  go_enter Try.func12, Try.ntmps12
  go_wp2
  go_ret
  exact ⟨ret_int (by omega), rfl⟩

set_option maxHeartbeats 400000 in
theorem refBefore_any (a b : Int) (w : World) (a0 : 0 ≤ a) (a1 : a ≤ 4294967295) (b0 : 0 ≤ b) (b1 : b ≤ 4294967295) :
    Calls Try.prog 14 #[.int .u32 a, .int .u32 b] w fun e w' => e = .returned (.bool (decide (2147483648 ≤ (a - b) % 4294967296))) ∧ w = w' := by
  go_enter Try.func14, Try.ntmps14
  go_wp2_with (go_at_call 12; refine (refAhead_any _ _ _ a0 a1 b0 b1).mono ?_; rintro e w' ⟨rfl, rfl⟩)
  go_ret
  exact ⟨rfl, rfl⟩

/-- one more, the greatest stays -/
def moreI (a : Int) : Int := if a = 4294967295 then a else a + 1

set_option maxHeartbeats 400000 in
theorem refMore_any (a : Int) (w : World) (a0 : 0 ≤ a) (a1 : a ≤ 4294967295) :
    Calls Try.prog 16 #[.int .u32 a] w fun e w' => e = .returned (.int .u32 (moreI a)) ∧ w = w' := by
  by_cases h : a = 4294967295
  · subst h
    go_enter Try.func16, Try.ntmps16
    go_wp2
    go_ret
    exact ⟨ret_int (by decide), rfl⟩
  · have hb : (a == 4294967295) = false := by simpa using h
    go_enter Try.func16, Try.ntmps16
    go_wp2
    go_ret
    exact ⟨ret_int (by rw [moreI, if_neg h]), rfl⟩

theorem xor_max (a : Int) (a0 : 0 ≤ a) (a1 : a ≤ 4294967295) : bits .xor .u32 IntKind.u32.max a = 4294967295 - a := by
  have e : IntKind.u32.max = 4294967295 := rfl
  rw [e, u32_xor _ a (by omega) (by omega) a0 (by omega)]
  have h : (4294967295 : Int).toNat ^^^ a.toNat = 4294967295 - a.toNat := by
    have h1 : (4294967295 : Int).toNat = 2 ^ 32 - 1 := rfl
    rw [h1]
    apply Nat.eq_of_testBit_eq
    intro i
    rw [Nat.testBit_xor, Nat.testBit_two_pow_sub_one]
    have h2 : 4294967295 - a.toNat = 2 ^ 32 - (a.toNat + 1) := by omega
    rw [h2, Nat.testBit_two_pow_sub_succ (by omega)]
    by_cases hi : i < 32
    · simp [hi]
    · have : a.toNat.testBit i = false := Nat.testBit_lt_two_pow (Nat.lt_of_lt_of_le (by omega : a.toNat < 2 ^ 32) (Nat.pow_le_pow_right (by omega) (by omega)))
      simp [hi, this]
  rw [h]
  omega

set_option maxHeartbeats 400000 in
theorem more_any (a : Int) (w : World) (a0 : 0 ≤ a) (a1 : a ≤ 4294967295) :
    Calls Try.prog 15 #[.int .u32 a] w fun e w' => e = .returned (.int .u32 (moreI a)) ∧ w = w' := by
  have hx := Lib.hid (xor_max a a0 a1)
  have hb := bitLen_bd (4294967295 - a).toNat (by omega)
  go_enter Try.func15, Try.ntmps15
  go_wp2_with (go_at_call 64; simp only [show (if IntKind.u32.signed = true then (-1 : Int) else IntKind.u32.max) = IntKind.u32.max from rfl]; rw [hx.out]; refine (Try.bits_Len32 _ _ (by omega) (by omega)).mono ?_; rintro e w' ⟨rfl, rfl⟩)
  go_ret
  refine ⟨ret_int ?_, rfl⟩
  unfold moreI
  by_cases h : a = 4294967295
  · subst h
    rw [if_pos rfl]
    have : Lib.bitLen ((4294967295 : Int) - 4294967295).toNat = 0 := by decide
    rw [this]
    omega
  · rw [if_neg h]
    have := bitLen_pos (4294967295 - a).toNat (by omega) (by omega)
    omega

/-- is n one of 2^0 .. 2^31? -/
def powB (n : Int) : Bool := (List.range 32).any fun k => n == ((2 ^ k : Nat) : Int)

theorem powB_iff (n : Int) : powB n = true ↔ ∃ k, k < 32 ∧ n = ((2 ^ k : Nat) : Int) := by
  simp [powB]

theorem and_pred_pow (n : Nat) : 0 < n → n &&& (n - 1) = 0 → ∃ k, n = 2 ^ k := by
  induction n using Nat.strongRecOn with
  | ind n ih =>
    intro h0 h
    have hd : (n / 2) &&& ((n - 1) / 2) = 0 := by
      have := Nat.shiftRight_and_distrib (a := n) (b := n - 1) (i := 1)
      rw [h] at this
      simpa [Nat.shiftRight_eq_div_pow] using this.symm
    by_cases h2 : n % 2 = 0
    · have e : (n - 1) / 2 = n / 2 - 1 := by omega
      rw [e] at hd
      obtain ⟨k, hk⟩ := ih (n / 2) (by omega) (by omega) hd
      exact ⟨k + 1, by rw [Nat.pow_succ]; omega⟩
    · have e : (n - 1) / 2 = n / 2 := by omega
      rw [e, Nat.and_self] at hd
      exact ⟨0, by omega⟩

theorem pow_and_pred (k : Nat) : 2 ^ k &&& (2 ^ k - 1) = 0 := by
  apply Nat.eq_of_testBit_eq
  intro i
  rw [Nat.testBit_and, Nat.testBit_two_pow_sub_one, Nat.testBit_two_pow]
  by_cases h : k = i <;> simp [h]

theorem i64_and_nat (a b : Nat) (ha : a < 9223372036854775808) (hb : b < 9223372036854775808) : bits .and .i64 (a : Int) (b : Int) = ((a &&& b : Nat) : Int) := by
  have ofInt_i64 : ∀ a : Nat, a < 9223372036854775808 → (BitVec.ofInt 64 (a : Int)).toNat = a := fun a ha => by
    rw [BitVec.ofInt_natCast, BitVec.toNat_ofNat]; exact Nat.mod_eq_of_lt (by omega)
  have hx : a &&& b < 2 ^ 63 := Nat.and_lt_two_pow _ (by omega)
  show IntKind.i64.wrap ((BitVec.ofInt 64 (a : Int) &&& BitVec.ofInt 64 (b : Int)).toNat : Int) = _
  rw [BitVec.toNat_and, ofInt_i64 a ha, ofInt_i64 b hb, IntKind.wrap_i64]
  omega

theorem pow_test (n : Int) (h0 : 0 < n) (h1 : n ≤ 2147483648) : (bits .and .i64 n (n - 1) == 0) = powB n := by
  obtain ⟨m, rfl⟩ := Int.eq_ofNat_of_zero_le (Int.le_of_lt h0)
  have e : ((m : Int) - 1) = ((m - 1 : Nat) : Int) := by omega
  rw [e, i64_and_nat _ _ (by omega) (by omega), Bool.eq_iff_iff, powB_iff]
  simp only [beq_iff_eq]
  constructor
  · intro h
    obtain ⟨k, hk⟩ := and_pred_pow m (by omega) (by omega)
    refine ⟨k, ?_, by omega⟩
    apply Decidable.byContradiction
    intro hn
    have : 2 ^ 32 ≤ 2 ^ k := Nat.pow_le_pow_right (by omega) (by omega)
    omega
  · rintro ⟨k, hk, hm⟩
    have hm' : m = 2 ^ k := by omega
    rw [hm', pow_and_pred]
    rfl

theorem powB_no (n : Int) (h : ¬ (0 < n ∧ n ≤ 2147483648)) : powB n = false := by
  rw [Bool.eq_false_iff, Ne, powB_iff]
  rintro ⟨k, hk, rfl⟩
  apply h
  have h1 : 0 < 2 ^ k := Nat.two_pow_pos k
  have h2 : 2 ^ k ≤ 2 ^ 31 := Nat.pow_le_pow_right (by omega) (by omega)
  generalize 2 ^ k = m at *
  omega

set_option maxHeartbeats 400000 in
theorem power_any (n : Int) (w : World) :
    Calls Try.prog 17 #[.int .i64 n] w fun e w' => e = .returned (.bool (powB n)) ∧ w = w' := by
  by_cases h0 : 0 < n
  · by_cases h1 : n ≤ 2147483648
    · have hp := Lib.hid (pow_test n h0 h1)
      go_enter Try.func17, Try.ntmps17
      go_wp2
      go_ret
      exact ⟨ret_bool hp.out, rfl⟩
    · have hp := Lib.hid (powB_no n (by omega))
      have h2 : 2147483648 < n := by omega
      go_enter Try.func17, Try.ntmps17
      go_wp2
      go_ret
      exact ⟨ret_bool hp.out.symm, rfl⟩
  · have hp := Lib.hid (powB_no n (by omega))
    have h2 : n ≤ 0 := by omega
    go_enter Try.func17, Try.ntmps17
    go_wp2
    go_ret
    exact ⟨ret_bool hp.out.symm, rfl⟩

theorem powB_of (n : Int) (k : Nat) (hk : k < 32) (h : n = ((2 ^ k : Nat) : Int)) : powB n = true := (powB_iff n).2 ⟨k, hk, h⟩
theorem powB_none (n : Int) (h : ∀ k, k < 32 → n ≠ ((2 ^ k : Nat) : Int)) : powB n = false := by
  rw [Bool.eq_false_iff, Ne, powB_iff]
  rintro ⟨k, hk, e⟩
  exact h k hk e

set_option maxHeartbeats 400000 in
theorem refPower_any (n : Int) (w : World) :
    Calls Try.prog 18 #[.int .i64 n] w fun e w' => e = .returned (.bool (powB n)) ∧ w = w' := by
  go_enter Try.func18, Try.ntmps18
  go_wp2
  go_loop [3] (fun i => ∃ k : Nat, k ≤ 32 ∧ i = .int .i64 ((2 ^ k : Nat) : Int) ∧ ∀ j, j < k → n ≠ ((2 ^ j : Nat) : Int)) (fun i => (4294967297 - (intOf i)).toNat)
  case atStart => exact ⟨0, by omega, rfl, fun j hj => by omega⟩
  case round =>
    obtain ⟨k, hk, rfl, hn⟩ := hrel
    have hn' := Lib.hid hn
    clear hn
    by_cases hlt : k < 32
    · have hp : 0 < 2 ^ k := Nat.two_pow_pos k
      have hq : 2 ^ k ≤ 2 ^ 31 := Nat.pow_le_pow_right (by omega) (by omega)
      have hs := Lib.hid (Nat.pow_succ (n := 2) (m := k))
      generalize hm : 2 ^ k = m at *
      have Hm := Lib.hid hm
      clear hm
      by_cases he : n = (m : Int)
      · subst he
        go_wp2
        go_ret
        exact ⟨ret_bool (powB_of _ k hlt (by rw [Hm.out])).symm, rfl⟩
      · go_wp2
        go_round
        case rel => exact ⟨k + 1, by omega, by rw [hs.out]; go_num, fun j hj => by
          by_cases hjk : j < k
          · exact hn'.out j hjk
          · obtain rfl : j = k := by omega
            rw [Hm.out]
            exact he⟩
        case measure => simp [intOf]; omega
    · obtain rfl : k = 32 := by omega
      go_wp2
      go_ret
      exact ⟨ret_bool (powB_none n hn'.out).symm, rfl⟩

theorem own : ownKnob Try.prog.godebug = none := by kernel_rfl

set_option maxHeartbeats 800000 in
theorem walk (a0 : Int) (a1 : Int) (a2 : Int) (w0 : (Lit.int .u32 a0).wf = true) (w1 : (Lit.int .u32 a1).wf = true) (w2 : (Lit.int .i64 a2).wf = true) (w : World) :
    Calls Try.prog 3 #[.int .u32 a0, .int .u32 a1, .int .i64 a2] w fun e w' => e = .returned (.bool true) ∧ Below w.heap.size w w' := by
  have b0 := bounds_u32 w0
  have b1 := bounds_u32 w1
  obtain ⟨p0, p1⟩ := b0
  obtain ⟨q0, q1⟩ := b1
  go_enter Try.func3, Try.ntmps3
  go_wp2_with (first
    | (go_at_call 11; refine (ahead_any _ _ _).mono ?_; rintro e w' ⟨rfl, rfl⟩)
    | (go_at_call 12; refine (refAhead_any _ _ _ p0 p1 q0 q1).mono ?_; rintro e w' ⟨rfl, rfl⟩)
    | (go_at_call 13; refine (before_any _ _ _).mono ?_; rintro e w' ⟨rfl, rfl⟩)
    | (go_at_call 14; refine (refBefore_any _ _ _ p0 p1 q0 q1).mono ?_; rintro e w' ⟨rfl, rfl⟩)
    | (go_at_call 15; refine (more_any _ _ p0 p1).mono ?_; rintro e w' ⟨rfl, rfl⟩)
    | (go_at_call 16; refine (refMore_any _ _ p0 p1).mono ?_; rintro e w' ⟨rfl, rfl⟩)
    | (go_at_call 17; refine (power_any _ _).mono ?_; rintro e w' ⟨rfl, rfl⟩)
    | (go_at_call 18; refine (refPower_any _ _).mono ?_; rintro e w' ⟨rfl, rfl⟩)
    | (go_at_call 19; refine (alive02 _).mono ?_; rintro e w' ⟨rfl, hb⟩))
  go_ret
  exact ⟨rfl, hb⟩

set_option maxRecDepth 100000 in
theorem lifted (os : Os) (started : os.Started) (H : Type) (enc : TypeId × Value → H) :
    ReturnsInHanded {} Try.checked os 3 .any (Rows.wordRoundsSpec.pre6 enc Try.prog Try.f3 Rows.wordRoundsRow.domain false) (Rows.wordRoundsSpec.post enc Try.prog Try.f3 false true false false) := by
  refine returnsInHanded_of_change (C := Try.checked) own started (by kernel_rfl) Try.func3
    (ChangeSpec.witness6 (enc := enc) (C := Try.checked) false ⟨#[], #[.int .u32 0, .int .u32 0, .int .i64 0], []⟩ 8 (by kernel_rfl) (by kernel_rfl) (by kernel_rfl) (by kernel_rfl)) ?_
  intro W base args ds gs before hval0 hW hcnd _
  have hval : ∀ (j : Nat) t v, Try.f3.params[j]? = some t → args[j]? = some v → Value.okWide Try.prog W .any base t v := hval0
  have hW' := hW
  obtain ⟨p, q, hA0, hV, rfl, hfz, hnd⟩ := hW
  have hA : DataW.TrodAll enc Try.prog W 0 (fun _ => true) true Try.f3.params.toList args.toList ds p := hA0
  rw [Try.params3] at hA hval
  obtain ⟨v0, vs0, d0, ds0, p0, q0, hargs, rfl, rfl, h0, r0⟩ := trodAll_cons hA
  obtain ⟨v1, vs1, d1, ds1, p1, q1, rfl, rfl, rfl, h1, r1⟩ := trodAll_cons r0
  obtain ⟨v2, vs2, d2, ds2, p2, q2, rfl, rfl, rfl, h2, r2⟩ := trodAll_cons r1
  obtain ⟨rfl, rfl, rfl⟩ := trodAll_nil r2
  obtain rfl : args = #[v0, v1, v2] := by cases args; simp_all
  obtain ⟨rfl, rfl⟩ := trodVars_none hV
  obtain ⟨a0, rfl, rfl, rfl, w0⟩ := open_int Try.underlying22 (hval 0 22 v0 rfl rfl) h0
  obtain ⟨a1, rfl, rfl, rfl, w1⟩ := open_int Try.underlying22 (hval 1 22 v1 rfl rfl) h1
  obtain ⟨a2, rfl, rfl, rfl, w2⟩ := open_int Try.underlying3 (hval 2 3 v2 rfl rfl) h2
  clear hA0 hval0
  refine (walk a0 a1 a2 w0 w1 w2 W).mono fun e W' ⟨he, bel⟩ => ?_
  subst he
  exact ⟨_, rfl, _, _, _, [], _, [], hW', trodAll_mk1 (shut_bool Try.underlying4 _), (trodAll_cons_mk (shut_int Try.underlying22 w0) (trodAll_cons_mk (shut_int Try.underlying22 w1) (trodAll_cons_mk (shut_int Try.underlying3 w2) trodAll_mk0))), rfl, bel.frame _, fun h => by cases h⟩

theorem over : Rows.wordRoundsRow.holds Try.pinned (OpenSpec.ofChange Rows.wordRoundsSpec) :=
  OpenClaim.holds_of_wide 3 Try.f3 rfl rfl rfl rfl rfl rfl rfl ⟨rfl, rfl, rfl, rfl, rfl⟩ rfl rfl rfl rfl rfl (by kernel_rfl) Try.func3 (by kernel_rfl)
    (of_decide_eq_true (by kernel_rfl)) (by unfold Func.isWrapper; first | (rw [if_pos (by decide +kernel)]; kernel_rfl) | (rw [if_neg (by decide +kernel)]; exact ⟨rfl, rfl⟩))
    (fun os started H enc _ => lifted os started H enc)

theorem proved : Rows.WordRoundsSaid := over
#print axioms proved
end Go.Proofs.Ytebhojbllhjkeaa.wordRounds
