/- Plain facts on a word's bits, one by one: its greatest bit; the word without a bit. No program in sight. -/
import Derived.Test.YtbbnackahgcegaaDoorBits
import Derived.Test.YtbbnackahgcegaaDoorBitsB
import Derived.Lib.TrailingZeros
namespace Go.Proofs.YtbbnackahgcegaaDoor
set_option linter.all false

theorem tb_putF {w k : Int} (h0 : 0 ≤ w) (h1 : w ≤ 4294967295) (k0 : 0 ≤ k) (k1 : k < 32) (j : Nat) : (putF w k).toNat.testBit j = (w.toNat.testBit j && decide (j ≠ k.toNat)) := by
  rw [putF_in _ _ k0 k1]
  show (w.toNat &&& (4294967295 - 2 ^ k.toNat)).testBit j = _
  have hk : k.toNat < 32 := by omega
  have hp : 2 ^ k.toNat < 2 ^ 32 := Nat.pow_lt_pow_right (by omega) hk
  rw [Nat.testBit_and, show 4294967295 - 2 ^ k.toNat = 2 ^ 32 - (2 ^ k.toNat + 1) by omega, Nat.testBit_two_pow_sub_succ hp, Nat.testBit_two_pow]
  by_cases hj : j < 32
  · simp [hj, eq_comm]
  · have : w.toNat.testBit j = false := Nat.testBit_lt_two_pow (Nat.lt_of_lt_of_le (show w.toNat < 2 ^ 32 by omega) (Nat.pow_le_pow_right (by omega) (by omega)))
    simp [this]
theorem tb_putT {w k : Int} (h0 : 0 ≤ w) (k0 : 0 ≤ k) (k1 : k < 32) (j : Nat) : (putT w k).toNat.testBit j = (w.toNat.testBit j || decide (j = k.toNat)) := by
  rw [putT_in _ _ k0 k1]
  show (w.toNat ||| 2 ^ k.toNat).testBit j = _
  rw [Nat.testBit_or, Nat.testBit_two_pow]
  simp [eq_comm]

theorem lt_of_tb {w c : Nat} (h : ∀ j, c ≤ j → w.testBit j = false) : w < 2 ^ c := Nat.lt_pow_two_of_testBit w h
theorem ge_of_tb {w c : Nat} (h : w.testBit c = true) : 2 ^ c ≤ w := Nat.ge_two_pow_of_testBit h
theorem tb_high {w j : Nat} (h : w < 4294967296) (hj : 32 ≤ j) : w.testBit j = false :=
  Nat.testBit_lt_two_pow (Nat.lt_of_lt_of_le (show w < 2 ^ 32 by omega) (Nat.pow_le_pow_right (by omega) hj))

/-- the greatest bit; -1: there is none -/
def hiI (w : Int) : Int := (Lib.bitLen w.toNat : Int) - 1
theorem hiI_zero : hiI 0 = -1 := by decide
theorem bitLen_is {w c : Nat} (hw : w < 4294967296) (h : ∀ j, c ≤ j → w.testBit j = false) (h1 : c = 0 ∨ w.testBit (c - 1) = true) : Lib.bitLen w = c := by
  have hlt := lt_of_tb h
  rcases Nat.eq_zero_or_pos w with h0 | h0
  · subst h0
    rcases h1 with rfl | h1
    · decide
    · simp at h1
  · have hb := Lib.bitLenAux_bounds 64 w (by omega) (by omega)
    have hc : 0 < c := by
      rcases Nat.eq_zero_or_pos c with rfl | h
      · simp at hlt; omega
      · exact h
    have h1 : w.testBit (c - 1) = true := h1.resolve_left (by omega)
    have hge := ge_of_tb h1
    have e : Lib.bitLen w = Lib.bitLenAux 64 w := rfl
    rw [e]
    have a1 : Lib.bitLenAux 64 w - 1 < c := (Nat.pow_lt_pow_iff_right (by omega : 1 < 2)).1 (Nat.lt_of_le_of_lt hb.2.1 hlt)
    have a2 : c - 1 < Lib.bitLenAux 64 w := (Nat.pow_lt_pow_iff_right (by omega : 1 < 2)).1 (Nat.lt_of_le_of_lt hge hb.2.2)
    omega
theorem bitLen_tb {w : Nat} (hw : w < 4294967296) (h0 : w ≠ 0) : w.testBit (Lib.bitLen w - 1) = true ∧ (∀ j, Lib.bitLen w ≤ j → w.testBit j = false) ∧ 0 < Lib.bitLen w ∧ Lib.bitLen w ≤ 32 := by
  have hb := Lib.bitLenAux_bounds 64 w (by omega) h0
  have e : Lib.bitLen w = Lib.bitLenAux 64 w := rfl
  rw [← e] at hb
  refine ⟨?_, fun j hj => Nat.testBit_lt_two_pow (Nat.lt_of_lt_of_le hb.2.2 (Nat.pow_le_pow_right (by omega) hj)), by omega, bitLen_bd _ hw⟩
  have hd : w / 2 ^ (Lib.bitLen w - 1) = 1 := by
    apply Nat.div_eq_of_lt_le
    · omega
    · rw [Nat.add_mul, Nat.one_mul]
      have : 2 ^ Lib.bitLen w = 2 ^ (Lib.bitLen w - 1) * 2 := by rw [← Nat.pow_succ]; congr 1; omega
      omega
  rw [Nat.testBit_eq_decide_div_mod_eq, hd]
  rfl

theorem hiI_bd {w : Int} (h0 : 0 ≤ w) (h1 : w ≤ 4294967295) : -1 ≤ hiI w ∧ hiI w ≤ 31 := by
  have := bitLen_bd w.toNat (by omega)
  unfold hiI
  omega
theorem hiI_neg {w : Int} (h0 : 0 ≤ w) (h1 : w ≤ 4294967295) : hiI w < 0 ↔ w = 0 := by
  constructor
  · intro h
    apply Decidable.byContradiction
    intro hne
    have := bitLen_tb (w := w.toNat) (by omega) (by omega)
    unfold hiI at h
    omega
  · rintro rfl
    decide
/-- who is greatest is there; who is taken is not, nor is anybody above -/
theorem hiI_has {w : Int} (h0 : 0 ≤ w) (h1 : w ≤ 4294967295) (h : 0 ≤ hiI w) : hasB w (hiI w) = true := by
  have hne : w ≠ 0 := fun e => by rw [e, hiI_zero] at h; omega
  have hb := bitLen_tb (w := w.toNat) (by omega) (by omega)
  rw [hasB_in _ _ h (by have := hiI_bd h0 h1; omega)]
  have e : (hiI w).toNat = Lib.bitLen w.toNat - 1 := by unfold hiI; omega
  rw [e]
  exact hb.1
theorem hiI_less {w : Int} (h0 : 0 ≤ w) (h1 : w ≤ 4294967295) (h : 0 ≤ hiI w) : hiI (putF w (hiI w)) < hiI w := by
  have hne : w ≠ 0 := fun e => by rw [e, hiI_zero] at h; omega
  have hb := bitLen_tb (w := w.toNat) (by omega) (by omega)
  have e : (hiI w).toNat = Lib.bitLen w.toNat - 1 := by unfold hiI; omega
  have hbd := hiI_bd h0 h1
  have hp := putF_bd w (hiI w) h0 h1
  have hlt : (putF w (hiI w)).toNat < 2 ^ (Lib.bitLen w.toNat - 1) := lt_of_tb fun j hj => by
    rw [tb_putF h0 h1 h (by omega)]
    by_cases hj2 : j = Lib.bitLen w.toNat - 1
    · simp [hj2, e]
    · rw [hb.2.1 j (by omega)]; rfl
  have : Lib.bitLen (putF w (hiI w)).toNat ≤ Lib.bitLen w.toNat - 1 := Lib.bitLen_le _ _ (by omega) hlt
  unfold hiI at *
  omega

/-- the least bit of a word that is not 0 -/
theorem low_tb {r : Nat} (h0 : r ≠ 0) (h : r < 4294967296) : r.testBit (Lib.ctz 32 r) = true ∧ (∀ j, j < Lib.ctz 32 r → r.testBit j = false) ∧ Lib.ctz 32 r < 32 := by
  obtain ⟨m, hm, hlt⟩ := Lib.ctzFrom_spec 32 r (by omega) h
  have e : Lib.ctz 32 r = Lib.ctzFrom 32 r := by unfold Lib.ctz; rw [if_neg h0]
  rw [e]
  generalize Lib.ctzFrom 32 r = l at *
  refine ⟨?_, fun j hj => ?_, hlt⟩
  · rw [hm, Nat.testBit_two_pow_mul]; simp
  · rw [hm, Nat.testBit_two_pow_mul]; simp; omega
end Go.Proofs.YtbbnackahgcegaaDoor
