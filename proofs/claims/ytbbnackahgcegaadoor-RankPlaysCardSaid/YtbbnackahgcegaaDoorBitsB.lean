/- Plain facts on the list of a word's bits, from the lowest on; no program in sight. -/
import Derived.Test.YtbbnackahgcegaaDoorBits
import Derived.Lib.TrailingZeros
namespace Go.Proofs.YtbbnackahgcegaaDoor

/-- the bits of w, from place i on, f places -/
def bitsFrom : Nat → Nat → Nat → List Int
  | 0, _, _ => []
  | f + 1, i, w => if w % 2 = 1 then (i : Int) :: bitsFrom f (i + 1) (w / 2) else bitsFrom f (i + 1) (w / 2)

/-- the bits of a word -/
def bitsL (w : Int) : List Int := bitsFrom 32 0 w.toNat

theorem bitsFrom_zero : ∀ (f i : Nat), bitsFrom f i 0 = []
  | 0, _ => rfl
  | f + 1, i => by simp [bitsFrom, bitsFrom_zero f]

theorem half_and_pred (n : Nat) : (n &&& (n - 1)) / 2 = (n / 2) &&& ((n - 1) / 2) := by
  have := Nat.shiftRight_and_distrib (a := n) (b := n - 1) (i := 1)
  simpa [Nat.shiftRight_eq_div_pow] using this

theorem and_pred_mod (n : Nat) (_h : n ≠ 0) : (n &&& (n - 1)) % 2 = 0 := by
  have e := Nat.and_mod_two_pow (a := n) (b := n - 1) (n := 1)
  simp only [Nat.pow_one] at e
  rw [e]
  rcases Nat.mod_two_eq_zero_or_one n with h2 | h2
  · rw [h2, Nat.zero_and]
  · have h3 : (n - 1) % 2 = 0 := by omega
    rw [h3, Nat.and_zero]

theorem bitsFrom_cons : ∀ (f i w : Nat), w ≠ 0 → w < 2 ^ f → bitsFrom f i w = ((i + Lib.ctzFrom f w : Nat) : Int) :: bitsFrom f i (w &&& (w - 1))
  | 0, _, w, h0, h => by simp at h; omega
  | f + 1, i, w, h0, h => by
    have hm := and_pred_mod w h0
    have hh := half_and_pred w
    have hp : 2 ^ (f + 1) = 2 * 2 ^ f := by rw [Nat.pow_succ]; omega
    by_cases h2 : w % 2 = 1
    · have e : (w - 1) / 2 = w / 2 := by omega
      rw [e, Nat.and_self] at hh
      simp only [bitsFrom, Lib.ctzFrom, h2, if_true, hm, hh, Nat.add_zero]
      simp
    · have e : (w - 1) / 2 = w / 2 - 1 := by omega
      rw [e] at hh
      have ih := bitsFrom_cons f (i + 1) (w / 2) (by omega) (by omega)
      simp only [bitsFrom, Lib.ctzFrom, h2, if_false, hm, hh, ih]
      simp
      omega

theorem ctz_lt {w : Nat} (h0 : w ≠ 0) (h : w < 4294967296) : Lib.ctz 32 w < 32 := by
  unfold Lib.ctz
  rw [if_neg h0]
  obtain ⟨_, _, h2⟩ := Lib.ctzFrom_spec 32 w (by omega) (by omega)
  exact h2

/-- the lowest bit; -1: none -/
def lowI (w : Int) : Int := if w = 0 then -1 else (Lib.ctz 32 w.toNat : Int)

theorem bitsL_cons (w : Int) (h0 : 0 < w) (h1 : w ≤ 4294967295) : bitsL w = lowI w :: bitsL ((w.toNat &&& (w.toNat - 1) : Nat) : Int) := by
  unfold bitsL lowI
  rw [if_neg (by omega), bitsFrom_cons 32 0 w.toNat (by omega) (by omega)]
  simp only [Lib.ctz, if_neg (show ¬ w.toNat = 0 by omega)]
  simp

theorem bitsL_zero : bitsL 0 = [] := bitsFrom_zero 32 0

theorem and_pred_lt (n : Nat) (h : n ≠ 0) : n &&& (n - 1) < n := Nat.lt_of_le_of_lt Nat.and_le_right (by omega)

theorem length_bitsFrom : ∀ (f i w : Nat), (bitsFrom f i w).length ≤ f
  | 0, _, _ => by simp [bitsFrom]
  | f + 1, i, w => by
    have := length_bitsFrom f (i + 1) (w / 2)
    unfold bitsFrom
    split <;> simp <;> omega
theorem length_bitsL (w : Int) : (bitsL w).length ≤ 32 := length_bitsFrom 32 0 _

theorem bitsFrom_range : ∀ (f i w : Nat), ∀ x ∈ bitsFrom f i w, (i : Int) ≤ x ∧ x < ((i + f : Nat) : Int)
  | 0, _, _ => by simp [bitsFrom]
  | f + 1, i, w => by
    intro x hx
    have ih := bitsFrom_range f (i + 1) (w / 2)
    unfold bitsFrom at hx
    split at hx
    · rcases List.mem_cons.1 hx with rfl | hx
      · omega
      · have := ih x hx; omega
    · have := ih x hx; omega
theorem bitsL_range (w : Int) : ∀ x ∈ bitsL w, 0 ≤ x ∧ x < 32 := fun x hx => by
  have := bitsFrom_range 32 0 _ x hx
  omega

/-- what is put, bit by bit, is the word -/
theorem foldl_bitsFrom : ∀ (f i w acc : Nat), i + f ≤ 32 → w < 2 ^ f → acc < 2 ^ i → (bitsFrom f i w).foldl putT (acc : Int) = ((acc + 2 ^ i * w : Nat) : Int)
  | 0, i, w, acc, _, h, _ => by
    have : w = 0 := by simpa using h
    simp [bitsFrom, this]
  | f + 1, i, w, acc, hi, h, ha => by
    have hp : 2 ^ (f + 1) = 2 * 2 ^ f := by rw [Nat.pow_succ]; omega
    have hq : 2 ^ (i + 1) = 2 * 2 ^ i := by rw [Nat.pow_succ]; omega
    unfold bitsFrom
    by_cases h2 : w % 2 = 1
    · rw [if_pos h2, List.foldl_cons]
      have e : putT (acc : Int) (i : Int) = ((acc + 2 ^ i : Nat) : Int) := by
        rw [putT_in _ _ (by omega) (by omega)]
        simp only [Int.toNat_natCast]
        have := Nat.two_pow_add_eq_or_of_lt ha 1
        rw [Nat.mul_one] at this
        rw [Nat.or_comm, ← this, Nat.add_comm]
      rw [e, foldl_bitsFrom f (i + 1) (w / 2) _ (by omega) (by omega) (by omega), hq]
      congr 1
      have hw : w = 2 * (w / 2) + 1 := by omega
      rw [hw, Nat.mul_add, Nat.mul_one, show (2 * (w / 2) + 1) / 2 = w / 2 by omega, ← Nat.mul_assoc, Nat.mul_comm (2 ^ i) 2]
      omega
    · rw [if_neg h2, foldl_bitsFrom f (i + 1) (w / 2) _ (by omega) (by omega) (by omega), hq]
      congr 1
      have hw : w = 2 * (w / 2) := by omega
      rw [hw, show (2 * (w / 2)) / 2 = w / 2 by omega, ← Nat.mul_assoc, Nat.mul_comm (2 ^ i) 2]

theorem ofL_bitsL (w : Int) (h0 : 0 ≤ w) (h1 : w ≤ 4294967295) : ofL (bitsL w) = w := by
  unfold ofL bitsL
  have := foldl_bitsFrom 32 0 w.toNat 0 (by omega) (by omega) (by simp)
  simp only [Nat.pow_zero, Nat.one_mul, Nat.zero_add] at this
  have h : ((0 : Nat) : Int) = (0 : Int) := rfl
  rw [h] at this
  rw [this]
  omega

end Go.Proofs.YtbbnackahgcegaaDoor
