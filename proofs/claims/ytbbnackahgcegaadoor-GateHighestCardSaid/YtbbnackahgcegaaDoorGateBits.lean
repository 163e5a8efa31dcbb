/- Plain facts for GateHighest: how many bits of a word are set; a word and its greatest bit; levels served. No program in sight. -/
import Derived.Test.YtbbnackahgcegaaDoorPendBits
namespace Go.Proofs.YtbbnackahgcegaaDoor
set_option linter.all false

/-- how many of the lowest f bits are set -/
def pcN : Nat → Nat → Nat
  | 0, _ => 0
  | f + 1, w => w % 2 + pcN f (w / 2)
def pc (b : Int) : Int := (pcN 32 b.toNat : Int)

theorem mod_two (w : Nat) : w % 2 = if w.testBit 0 = true then 1 else 0 := by
  rw [Nat.testBit_zero]
  split
  · rename_i h; simpa using h
  · rename_i h
    simp at h
    omega
theorem pcN_or : ∀ (f w k : Nat), k < f → w.testBit k = false → pcN f (w ||| 2 ^ k) = pcN f w + 1
  | 0, _, _, h, _ => by omega
  | f + 1, w, 0, _, h => by
    unfold pcN
    have h1 : (w ||| 2 ^ 0) % 2 = 1 := by rw [mod_two]; simp
    have h2 : w % 2 = 0 := by rw [mod_two, h]; simp
    have h3 : (w ||| 2 ^ 0) / 2 = w / 2 := by
      apply Nat.eq_of_testBit_eq
      intro i
      rw [Nat.testBit_div_two, Nat.testBit_div_two, Nat.testBit_or, Nat.testBit_two_pow]
      simp
    rw [h1, h2, h3]
    omega
  | f + 1, w, k + 1, hk, h => by
    unfold pcN
    have h1 : (w ||| 2 ^ (k + 1)) % 2 = w % 2 := by
      rw [mod_two, mod_two w, Nat.testBit_or, Nat.testBit_two_pow]
      simp
    have h3 : (w ||| 2 ^ (k + 1)) / 2 = w / 2 ||| 2 ^ k := by
      apply Nat.eq_of_testBit_eq
      intro i
      rw [Nat.testBit_div_two, Nat.testBit_or, Nat.testBit_or, Nat.testBit_div_two, Nat.testBit_two_pow, Nat.testBit_two_pow]
      simp
    rw [h1, h3, pcN_or f (w / 2) k (by omega) (by rw [Nat.testBit_div_two]; exact h)]
    omega
theorem pcN_more : ∀ (f w : Nat), w < 2 ^ f → pcN (f + 1) w = pcN f w
  | 0, w, h => by
    obtain rfl : w = 0 := by simpa using h
    rfl
  | f + 1, w, h => by
    have hp : 2 ^ (f + 1) = 2 * 2 ^ f := by rw [Nat.pow_succ]; omega
    have := pcN_more f (w / 2) (by omega)
    rw [show pcN (f + 1 + 1) w = w % 2 + pcN (f + 1) (w / 2) from rfl, this]
    rfl
theorem pc_half {w : Int} (h0 : 0 ≤ w) (h1 : w ≤ 4294967295) : pc w = w % 2 + pc (w / 2) := by
  unfold pc
  have e : (w / 2).toNat = w.toNat / 2 := by omega
  have e2 : pcN 32 (w.toNat / 2) = pcN 31 (w.toNat / 2) := pcN_more 31 _ (by omega)
  rw [e, e2, show pcN 32 w.toNat = w.toNat % 2 + pcN 31 (w.toNat / 2) from rfl]
  omega
theorem pc_zero : pc 0 = 0 := by decide
theorem pc_bd (w : Int) : 0 ≤ pc w ∧ pc w ≤ 32 := by
  have : ∀ f n, pcN f n ≤ f := by
    intro f
    induction f with
    | zero => intro n; exact Nat.le_refl 0
    | succ f ih => intro n; have := ih (n / 2); unfold pcN; omega
  have := this 32 w.toNat
  unfold pc
  omega
theorem pc_putT {b k : Int} (h0 : 0 ≤ b) (k0 : 0 ≤ k) (k1 : k < 32) (h : hasB b k = false) : pc (putT b k) = pc b + 1 := by
  rw [hasB_in _ _ k0 k1] at h
  unfold pc
  rw [putT_in _ _ k0 k1]
  have := pcN_or 32 b.toNat k.toNat (by omega) h
  rw [Int.toNat_natCast, this]
  omega
theorem putT_putF {b k : Int} (h0 : 0 ≤ b) (h1 : b ≤ 4294967295) (k0 : 0 ≤ k) (k1 : k < 32) (h : hasB b k = true) : putT (putF b k) k = b := by
  rw [hasB_in _ _ k0 k1] at h
  have hp := putF_bd b k h0 h1
  have hq := putT_bd (putF b k) k hp.1 hp.2
  have : (putT (putF b k) k).toNat = b.toNat := by
    apply Nat.eq_of_testBit_eq
    intro j
    rw [tb_putT hp.1 k0 k1, tb_putF h0 h1 k0 k1]
    by_cases hj : j = k.toNat
    · rw [hj, h]; simp
    · simp [hj]
  omega
theorem pc_putF {b k : Int} (h0 : 0 ≤ b) (h1 : b ≤ 4294967295) (k0 : 0 ≤ k) (k1 : k < 32) (h : hasB b k = true) : pc b = pc (putF b k) + 1 := by
  have hp := putF_bd b k h0 h1
  have hn : hasB (putF b k) k = false := by
    rw [hasB_in _ _ k0 k1, tb_putF h0 h1 k0 k1]
    simp
  have := pc_putT hp.1 k0 k1 hn
  rw [putT_putF h0 h1 k0 k1 h] at this
  exact this

/-- a word with a greatest bit: that bit, and what is below it -/
theorem hi_split {b : Int} (h0 : 0 ≤ b) (h1 : b ≤ 4294967295) (h : 0 ≤ hiI b) :
    b = ((2 ^ (hiI b).toNat : Nat) : Int) + putF b (hiI b) ∧ putF b (hiI b) < ((2 ^ (hiI b).toNat : Nat) : Int) ∧ hiI b ≤ 31 := by
  have hbd := hiI_bd h0 h1
  have hp := putF_bd b (hiI b) h0 h1
  have hhas := hiI_has h0 h1 h
  have hless := hiI_less h0 h1 h
  have hlt : (putF b (hiI b)).toNat < 2 ^ (hiI b).toNat := by
    apply lt_of_tb
    intro j hj
    rw [tb_putF h0 h1 h (by omega)]
    by_cases e : j = (hiI b).toNat
    · simp [e]
    · have hne : b ≠ 0 := fun e => by rw [e, hiI_zero] at h; omega
      have hb := (bitLen_tb (w := b.toNat) (by omega) (by omega)).2.1 j (by unfold hiI at hj e h; omega)
      rw [hb]
      rfl
  have e := putT_putF h0 h1 h (by omega) hhas
  rw [putT_in _ _ h (by omega), Nat.or_comm] at e
  have e2 := Nat.two_pow_add_eq_or_of_lt hlt 1
  rw [Nat.mul_one] at e2
  rw [← e2] at e
  omega
theorem hi_shr {b : Int} (h0 : 0 ≤ b) (h1 : b ≤ 4294967295) (h : 0 ≤ hiI b) : b / 2 ^ (hiI b).toNat = 1 := by
  obtain ⟨e1, e2, _⟩ := hi_split h0 h1 h
  have hp := putF_bd b (hiI b) h0 h1
  have hpos : 0 < 2 ^ (hiI b).toNat := Nat.two_pow_pos _
  have e : (2 : Int) ^ (hiI b).toNat = ((2 ^ (hiI b).toNat : Nat) : Int) := by simp
  rw [e]
  generalize (2 ^ (hiI b).toNat : Nat) = m at *
  rw [e1]
  rw [show (m : Int) + putF b (hiI b) = putF b (hiI b) + m * 1 by omega, Int.add_mul_ediv_left _ _ (by omega), Int.ediv_eq_zero_of_lt hp.1 e2]
  rfl
theorem hi_sub {b : Int} (h0 : 0 ≤ b) (h1 : b ≤ 4294967295) (h : 0 ≤ hiI b) : b - 2 ^ (hiI b).toNat % 4294967296 = putF b (hiI b) := by
  obtain ⟨e1, e2, e3⟩ := hi_split h0 h1 h
  rw [pow_int _ (by omega)]
  omega
theorem shr_zero {b l : Int} (h0 : 0 ≤ b) (h1 : b ≤ 4294967295) (hl : -1 ≤ l) (h : hiI b ≤ l) : b / 2 ^ (l + 1).toNat = 0 := by
  have hlt : b.toNat < 2 ^ (l + 1).toNat := by
    by_cases hz : b = 0
    · rw [hz]; exact Nat.two_pow_pos _
    · have hb := (bitLen_tb (w := b.toNat) (by omega) (by omega)).2.1
      exact lt_of_tb fun j hj => hb j (by unfold hiI at h; omega)
  have e : (2 : Int) ^ (l + 1).toNat = ((2 ^ (l + 1).toNat : Nat) : Int) := by simp
  rw [e]
  exact Int.ediv_eq_zero_of_lt h0 (by omega)

/-- the last level; the levels that are served, each at least its place -/
def Rise (s : List Int) : Prop := ∀ i, i < s.length → (i : Int) ≤ s.getD i 0 ∧ s.getD i 0 ≤ 31
theorem Rise.nil : Rise [] := fun i hi => by simp at hi
theorem Rise.push {s : List Int} {k : Int} (h : Rise s) (h0 : (s.length : Int) ≤ k) (h1 : k ≤ 31) : Rise (s ++ [k]) := fun i hi => by
  simp at hi
  by_cases e : i = s.length
  · subst e
    simp
    omega
  · have := h i (by omega)
    rw [show (s ++ [k]).getD i 0 = s.getD i 0 by simp [List.getElem?_append_left (show i < s.length by omega)]]
    exact this
theorem Rise.pop {s : List Int} {k : Int} (h : Rise (s ++ [k])) : Rise s := fun i hi => by
  have := h i (by simp; omega)
  rwa [show (s ++ [k]).getD i 0 = s.getD i 0 by simp [List.getElem?_append_left hi]] at this
end Go.Proofs.YtbbnackahgcegaaDoor
