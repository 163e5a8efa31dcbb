/- Plain facts on the bits of words below 2^32; no program in sight. -/
import Derived.Laws.BitsAllLaws
import Derived.Laws.BitsLemmas
import Derived.Lib.BitFns
import Derived.Lib.ItoaNum
namespace Go.Proofs.YtbbnackahgcegaaDoor

/-- is bit i of w set? -/
def hasB (w i : Int) : Bool := decide (0 ≤ i) && (decide (i < 32) && w.toNat.testBit i.toNat)
/-- w with bit i. -/
def putT (w i : Int) : Int := if 0 ≤ i ∧ i < 32 then ((w.toNat ||| 2 ^ i.toNat : Nat) : Int) else w
/-- w without bit i. -/
def putF (w i : Int) : Int := if 0 ≤ i ∧ i < 32 then ((w.toNat &&& (4294967295 - 2 ^ i.toNat) : Nat) : Int) else w

theorem hasB_no (w i : Int) (h : ¬ (0 ≤ i ∧ i < 32)) : hasB w i = false := by
  unfold hasB
  by_cases h0 : 0 ≤ i
  · have h1 : ¬ i < 32 := fun h1 => h ⟨h0, h1⟩
    simp [h1]
  · simp [h0]
theorem hasB_in (w i : Int) (h0 : 0 ≤ i) (h1 : i < 32) : hasB w i = w.toNat.testBit i.toNat := by simp [hasB, h0, h1]
theorem putT_no (w i : Int) (h : ¬ (0 ≤ i ∧ i < 32)) : putT w i = w := if_neg h
theorem putF_no (w i : Int) (h : ¬ (0 ≤ i ∧ i < 32)) : putF w i = w := if_neg h
theorem putT_in (w i : Int) (h0 : 0 ≤ i) (h1 : i < 32) : putT w i = ((w.toNat ||| 2 ^ i.toNat : Nat) : Int) := if_pos ⟨h0, h1⟩
theorem putF_in (w i : Int) (h0 : 0 ≤ i) (h1 : i < 32) : putF w i = ((w.toNat &&& (4294967295 - 2 ^ i.toNat) : Nat) : Int) := if_pos ⟨h0, h1⟩

theorem two_pow_lt {i : Nat} (h : i < 32) : 2 ^ i < 4294967296 := by
  have : 2 ^ i < 2 ^ 32 := Nat.pow_lt_pow_right (by omega) h
  simpa using this

theorem putT_bd (w i : Int) (h0 : 0 ≤ w) (h1 : w ≤ 4294967295) : 0 ≤ putT w i ∧ putT w i ≤ 4294967295 := by
  unfold putT
  split
  · rename_i h
    have a : w.toNat ||| 2 ^ i.toNat < 2 ^ 32 := Nat.or_lt_two_pow (by omega) (Nat.pow_lt_pow_right (by omega) (by omega))
    omega
  · omega

theorem putF_bd (w i : Int) (h0 : 0 ≤ w) (h1 : w ≤ 4294967295) : 0 ≤ putF w i ∧ putF w i ≤ 4294967295 := by
  unfold putF
  split
  · have a : w.toNat &&& (4294967295 - 2 ^ i.toNat) ≤ w.toNat := Nat.and_le_left
    omega
  · omega

/-- what Go's 'w >> i & 1 == 1' comes to -/
theorem shr_and_one (a i : Int) (a0 : 0 ≤ a) (a1 : a ≤ 4294967295) : (bits .and .u32 (a / 2 ^ i.toNat) 1 == 1) = a.toNat.testBit i.toNat := by
  obtain ⟨n, rfl⟩ := Int.eq_ofNat_of_zero_le a0
  have hle : n / 2 ^ i.toNat ≤ n := Nat.div_le_self _ _
  have e : ((n : Int) / 2 ^ i.toNat) = ((n / 2 ^ i.toNat : Nat) : Int) := by
    rw [Int.natCast_ediv]; simp
  rw [e]
  have h := u32_and_nat (n / 2 ^ i.toNat) 1 (by omega) (by omega)
  simp only [Int.natCast_one] at h
  rw [h, Nat.and_one_is_mod, Nat.testBit_eq_decide_div_mod_eq]
  simp only [Int.toNat_natCast]
  rw [Bool.eq_iff_iff]
  simp only [beq_iff_eq, decide_eq_true_eq]
  omega

theorem pow_int (k : Nat) (h : k < 32) : (2 : Int) ^ k % 4294967296 = ((2 ^ k : Nat) : Int) := by
  have hp := two_pow_lt h
  have e : (2 : Int) ^ k = ((2 ^ k : Nat) : Int) := by simp
  rw [e]
  generalize (2 ^ k : Nat) = m at hp ⊢
  omega

theorem or_pow (a i : Int) (a0 : 0 ≤ a) (a1 : a ≤ 4294967295) (i0 : 0 ≤ i) (i1 : i < 32) : bits .or .u32 a (2 ^ i.toNat % 4294967296) = ((a.toNat ||| 2 ^ i.toNat : Nat) : Int) := by
  have hp := two_pow_lt (i := i.toNat) (by omega)
  rw [pow_int _ (by omega)]
  generalize (2 ^ i.toNat : Nat) = m at hp ⊢
  rw [u32_or a _ a0 (by omega) (by omega) (by omega), Int.toNat_natCast]

theorem andNot_pow (a i : Int) (a0 : 0 ≤ a) (a1 : a ≤ 4294967295) (i0 : 0 ≤ i) (i1 : i < 32) : bits .andNot .u32 a (2 ^ i.toNat % 4294967296) = ((a.toNat &&& (4294967295 - 2 ^ i.toNat) : Nat) : Int) := by
  have hp := two_pow_lt (i := i.toNat) (by omega)
  rw [pow_int _ (by omega)]
  generalize (2 ^ i.toNat : Nat) = m at hp ⊢
  rw [u32_andNot a _ a0 (by omega) (by omega) (by omega), Int.toNat_natCast]

/-- the word that a list of bits makes -/
def ofL (l : List Int) : Int := l.foldl putT 0

theorem foldl_putT_bd (l : List Int) : ∀ w : Int, 0 ≤ w → w ≤ 4294967295 → 0 ≤ l.foldl putT w ∧ l.foldl putT w ≤ 4294967295 := by
  induction l with
  | nil => intro w h0 h1; exact ⟨h0, h1⟩
  | cons x r ih =>
    intro w h0 h1
    have h := putT_bd w x h0 h1
    exact ih _ h.1 h.2

theorem ofL_bd (l : List Int) : 0 ≤ ofL l ∧ ofL l ≤ 4294967295 := foldl_putT_bd l 0 (by omega) (by omega)

theorem ofL_take_succ (l : List Int) (k : Nat) (h : k < l.length) : ofL (l.take (k + 1)) = putT (ofL (l.take k)) (l.getD k 0) := by
  unfold ofL
  rw [List.take_succ_eq_append_getElem h, List.foldl_append]
  simp [List.getD_eq_getElem?_getD, h]

theorem bitLen_bd (n : Nat) (h : n < 4294967296) : Lib.bitLen n ≤ 32 := Lib.bitLen_le n 32 (by omega) (by omega)
theorem bitLen_pos (n : Nat) (h : n < 4294967296) (h0 : n ≠ 0) : 1 ≤ Lib.bitLen n := by
  have h1 := Lib.bitLenAux_bounds 64 n (by omega) h0
  exact h1.1

end Go.Proofs.YtbbnackahgcegaaDoor
