/- Whole numbers below 2^53 as the model's floats (float64): sums, differences, products and conversions are exact. No program in sight. -/
import Derived.Laws.FloatArith
import Derived.Laws.ComplexArith
namespace Go.Proofs.Ytebhojbllhjkeaa
open Ieee

/-- the datum stands for the whole number n -/
def Val (d : Datum) (n : Int) : Prop := ∃ s m e, d = .number s m e ∧ e ≤ 0 ∧ m = n.natAbs * 2 ^ (-e).toNat ∧ (n < 0 → s = true) ∧ (0 < n → s = false)
/-- the bits stand for the whole number n -/
def Fl (b : Nat) (n : Int) : Prop := Val (double.read b) n

theorem signed_val {s : Bool} {m up k : Nat} {n : Int} (h : m <<< up = n.natAbs * 2 ^ k) (h1 : n < 0 → s = true) (h2 : 0 < n → s = false) : signed s m up = n * ((2 ^ k : Nat) : Int) := by
  unfold signed
  rw [h]
  rcases Int.lt_trichotomy n 0 with hn | hn | hn
  · rw [h1 hn, if_pos rfl]
    have : n = -(n.natAbs : Int) := by omega
    rw [Int.natCast_mul]
    generalize ((2 ^ k : Nat) : Int) = x
    rw [← Int.neg_mul, ← this]
  · subst hn; simp
  · rw [h2 hn, if_neg (by simp)]
    have : n = (n.natAbs : Int) := by omega
    rw [Int.natCast_mul, ← this]

theorem log2_mul (a k : Nat) (h : a ≠ 0) : (a * 2 ^ k).log2 = a.log2 + k := by
  have h0 : a * 2 ^ k ≠ 0 := Nat.mul_ne_zero h (by have := Nat.two_pow_pos k; omega)
  rw [Nat.log2_eq_iff h0]
  have h1 := Nat.log2_self_le h
  have h2 := Nat.lt_log2_self (n := a)
  constructor
  · rw [Nat.pow_add]; exact Nat.mul_le_mul_right _ h1
  · rw [show a.log2 + k + 1 = (a.log2 + 1) + k by omega, Nat.pow_add]
    exact Nat.mul_lt_mul_of_pos_right h2 (Nat.two_pow_pos k)

theorem cut_exact (way : Toward) (neg : Bool) (a drop : Nat) (h : a ≠ 0) : way.cut neg (a * 2 ^ drop) drop = a := by
  have hp := Nat.two_pow_pos drop
  have hm : min drop ((a * 2 ^ drop).log2 + 2) = drop := by rw [log2_mul a drop h]; omega
  unfold Toward.cut
  simp only [hm, Nat.one_shiftLeft, Nat.mul_div_cancel _ hp, Nat.mul_mod_left]
  cases way <;> simp <;> omega

theorem read_word (s : Bool) (rung : Nat) (h1 : 4503599627370496 ≤ rung) (h2 : rung < 9218868437227405312) :
    double.read (double.word s rung) = .number s (4503599627370496 + rung % 4503599627370496) (-1074 + ((rung / 4503599627370496 - 1 : Nat) : Int)) := by
  have eb : double.binade = 4503599627370496 := by decide
  have ei : double.infRung = 9218868437227405312 := by decide
  have ew : double.signWeight = 9223372036854775808 := by decide
  have el : double.leastPlace = -1074 := by decide
  unfold Format.read Format.word
  simp only [eb, ei, ew, el]
  cases s
  · have e1 : (rung / 9223372036854775808 % 2 == 1) = false := by simp; omega
    have e2 : rung % 9223372036854775808 = rung := by omega
    simp only [Bool.false_eq_true, if_false, e1, e2]
    rw [if_neg (by omega), if_pos h2]
  · have e1 : ((9223372036854775808 + rung) / 9223372036854775808 % 2 == 1) = true := by simp; omega
    have e2 : (9223372036854775808 + rung) % 9223372036854775808 = rung := by omega
    simp only [if_true, e1, e2]
    rw [if_neg (by omega), if_pos h2]

theorem read_zero (s : Bool) : double.read (double.word s 0) = .number s 0 (-1074) := by cases s <;> decide

/-- WHAT IS WRITTEN IS READ: a whole number below 2^53 is exact. -/
theorem val_write {d : Datum} {n : Int} (h : Val d n) (hn : n.natAbs < 9007199254740992) : Fl (double.write d) n := by
  obtain ⟨s, m, e, rfl, he, hm, h1, h2⟩ := h
  unfold Fl
  unfold Format.write Format.nearest
  have eb : double.binade = 4503599627370496 := by decide
  have ei : double.infRung = 9218868437227405312 := by decide
  have el : double.leastPlace = -1074 := by decide
  have ef : double.fractionBits = 52 := by decide
  by_cases h0 : m = 0
  · have hp := Nat.two_pow_pos (-e).toNat
    have hz : n.natAbs = 0 := by
      rcases Nat.eq_zero_or_pos n.natAbs with hz | hz
      · exact hz
      · have := Nat.mul_pos hz hp; omega
    simp only [h0, if_true]
    rw [read_zero]
    exact ⟨s, 0, -1074, rfl, by omega, by rw [hz, Nat.zero_mul], h1, h2⟩
  · simp only [h0, if_false, eb, ei, el, ef]
    have hz : n.natAbs ≠ 0 := by rintro hz; rw [hz] at hm; simp at hm; exact h0 hm
    have hl := log2_mul n.natAbs (-e).toNat hz
    rw [← hm] at hl
    have hlt : n.natAbs.log2 < 53 := (Nat.log2_lt hz).2 (by simpa using hn)
    have hlo := Nat.log2_self_le hz
    have hhi := Nat.lt_log2_self (n := n.natAbs)
    generalize hL : n.natAbs.log2 = L at *
    have hlast : max (e + (m.log2 : Int) - (52 : Nat)) (-1074) = (L : Int) - 52 := by rw [hl]; omega
    rw [hlast]
    have hkept : Toward.even.cut s (m <<< (e - ((L : Int) - 52)).toNat) (((L : Int) - 52) - e).toNat = n.natAbs * 2 ^ (52 - L) := by
      by_cases hc : (L : Int) - 52 ≤ e
      · have e0 : (((L : Int) - 52) - e).toNat = 0 := by omega
        have e1 : m <<< (e - ((L : Int) - 52)).toNat = n.natAbs * 2 ^ (52 - L) := by
          rw [Nat.shiftLeft_eq, hm, Nat.mul_assoc, ← Nat.pow_add]
          congr 2
          omega
        rw [e0, e1]
        have := cut_exact .even s (n.natAbs * 2 ^ (52 - L)) 0 (Nat.mul_ne_zero hz (by have := Nat.two_pow_pos (52 - L); omega))
        simpa using this
      · have e0 : (e - ((L : Int) - 52)).toNat = 0 := by omega
        rw [e0, Nat.shiftLeft_zero]
        have e1 : m = (n.natAbs * 2 ^ (52 - L)) * 2 ^ (((L : Int) - 52) - e).toNat := by
          rw [hm, Nat.mul_assoc, ← Nat.pow_add]
          congr 2
          omega
        rw [e1]
        exact cut_exact .even s _ _ (Nat.mul_ne_zero hz (by have := Nat.two_pow_pos (52 - L); omega))
    rw [hkept]
    have k0 : 4503599627370496 ≤ n.natAbs * 2 ^ (52 - L) := by
      have : 2 ^ L * 2 ^ (52 - L) ≤ n.natAbs * 2 ^ (52 - L) := Nat.mul_le_mul_right _ hlo
      rw [← Nat.pow_add, show L + (52 - L) = 52 by omega] at this
      exact this
    have k1 : n.natAbs * 2 ^ (52 - L) < 9007199254740992 := by
      have : n.natAbs * 2 ^ (52 - L) < 2 ^ (L + 1) * 2 ^ (52 - L) := Nat.mul_lt_mul_of_pos_right hhi (Nat.two_pow_pos _)
      rw [← Nat.pow_add, show L + 1 + (52 - L) = 53 by omega] at this
      exact this
    have et : ((L : Int) - 52 - -1074).toNat = L + 1022 := by omega
    rw [et]
    generalize hK : n.natAbs * 2 ^ (52 - L) = K at *
    rw [Nat.min_eq_left (by omega), read_word _ _ (by omega) (by omega)]
    refine ⟨s, K, (L : Int) - 52, ?_, by omega, ?_, h1, h2⟩
    · congr 1
      · omega
      · omega
    · rw [← hK]
      congr 2
      omega

theorem val_int (n : Int) : Val (.number (n < 0) n.natAbs 0) n := ⟨_, _, _, rfl, by omega, by simp, by simp, by simp; omega⟩
theorem fl_ofInt (n : Int) (hn : n.natAbs < 9007199254740992) : Fl (floatOfInt .f64 n) n := val_write (val_int n) hn

theorem val_opposite {d : Datum} {n : Int} (h : Val d n) : Val d.opposite (-n) := by
  obtain ⟨s, m, e, rfl, he, hm, h1, h2⟩ := h
  exact ⟨!s, m, e, rfl, he, by rw [Int.natAbs_neg]; exact hm, fun h => by rw [h2 (by omega)]; rfl, fun h => by rw [h1 (by omega)]; rfl⟩

theorem val_sum {d d' : Datum} {a b : Int} (h : Val d a) (h' : Val d' b) : ∃ r, d.sum d' = some r ∧ Val r (a + b) := by
  obtain ⟨s, m, i, rfl, hi, hm, h1, h2⟩ := h
  obtain ⟨t, k, j, rfl, hj, hk, h3, h4⟩ := h'
  have e1 : signed s m (i - min i j).toNat = a * ((2 ^ (-(min i j)).toNat : Nat) : Int) := signed_val (by
    rw [Nat.shiftLeft_eq, hm, Nat.mul_assoc, ← Nat.pow_add]; congr 2; omega) h1 h2
  have e2 : signed t k (j - min i j).toNat = b * ((2 ^ (-(min i j)).toNat : Nat) : Int) := signed_val (by
    rw [Nat.shiftLeft_eq, hk, Nat.mul_assoc, ← Nat.pow_add]; congr 2; omega) h3 h4
  refine ⟨_, rfl, _, _, _, rfl, by omega, ?_, ?_, ?_⟩
  · rw [e1, e2, ← Int.add_mul, Int.natAbs_mul, Int.natAbs_natCast]
  · intro hn
    have hp : (0 : Int) < ((2 ^ (-(min i j)).toNat : Nat) : Int) := by have := Nat.two_pow_pos (-(min i j)).toNat; omega
    have : (a + b) * ((2 ^ (-(min i j)).toNat : Nat) : Int) < 0 := Int.mul_neg_of_neg_of_pos hn hp
    rw [e1, e2, ← Int.add_mul, if_neg (by omega)]
    exact decide_eq_true this
  · intro hn
    have hp : (0 : Int) < ((2 ^ (-(min i j)).toNat : Nat) : Int) := by have := Nat.two_pow_pos (-(min i j)).toNat; omega
    have : 0 < (a + b) * ((2 ^ (-(min i j)).toNat : Nat) : Int) := Int.mul_pos hn hp
    rw [e1, e2, ← Int.add_mul, if_neg (by omega)]
    exact decide_eq_false (by omega)

theorem val_product {d d' : Datum} {a b : Int} (h : Val d a) (h' : Val d' b) : ∃ r, d.product d' = some r ∧ Val r (a * b) := by
  obtain ⟨s, m, i, rfl, hi, hm, h1, h2⟩ := h
  obtain ⟨t, k, j, rfl, hj, hk, h3, h4⟩ := h'
  refine ⟨_, rfl, _, _, _, rfl, by omega, ?_, ?_, ?_⟩
  · rw [hm, hk, Int.natAbs_mul, show (-(i + j)).toNat = (-i).toNat + (-j).toNat by omega, Nat.pow_add]
    simp only [Nat.mul_assoc, Nat.mul_left_comm]
  · intro hn
    rcases Int.lt_trichotomy a 0 with ha | ha | ha <;> rcases Int.lt_trichotomy b 0 with hb | hb | hb
    · have := Int.mul_pos_of_neg_of_neg ha hb; omega
    · subst hb; simp at hn
    · rw [h1 ha, h4 hb]; rfl
    · subst ha; simp at hn
    · subst ha; simp at hn
    · subst ha; simp at hn
    · rw [h2 ha, h3 hb]; rfl
    · subst hb; simp at hn
    · have := Int.mul_pos ha hb; omega
  · intro hn
    rcases Int.lt_trichotomy a 0 with ha | ha | ha <;> rcases Int.lt_trichotomy b 0 with hb | hb | hb
    · rw [h1 ha, h3 hb]; rfl
    · subst hb; simp at hn
    · have := Int.mul_neg_of_neg_of_pos ha hb; omega
    · subst ha; simp at hn
    · subst ha; simp at hn
    · subst ha; simp at hn
    · have := Int.mul_neg_of_pos_of_neg ha hb; omega
    · subst hb; simp at hn
    · rw [h2 ha, h4 hb]; rfl

theorem fl_add {x y : Nat} {a b : Int} (hx : Fl x a) (hy : Fl y b) (hn : (a + b).natAbs < 9007199254740992) : ∃ r, floatBits .add .f64 x y = some r ∧ Fl r (a + b) := by
  obtain ⟨r, h, hv⟩ := val_sum hx hy
  exact ⟨_, by show ((double.read x).sum (double.read y)).map double.write = _; rw [h]; rfl, val_write hv hn⟩
theorem fl_sub {x y : Nat} {a b : Int} (hx : Fl x a) (hy : Fl y b) (hn : (a - b).natAbs < 9007199254740992) : ∃ r, floatBits .sub .f64 x y = some r ∧ Fl r (a - b) := by
  obtain ⟨r, h, hv⟩ := val_sum hx (val_opposite hy)
  rw [← Int.sub_eq_add_neg] at hv
  exact ⟨_, by show ((double.read x).sum (double.read y).opposite).map double.write = _; rw [h]; rfl, val_write hv hn⟩
theorem fl_mul {x y : Nat} {a b : Int} (hx : Fl x a) (hy : Fl y b) (hn : (a * b).natAbs < 9007199254740992) : ∃ r, floatBits .mul .f64 x y = some r ∧ Fl r (a * b) := by
  obtain ⟨r, h, hv⟩ := val_product hx hy
  exact ⟨_, by show ((double.read x).product (double.read y)).map double.write = _; rw [h]; rfl, val_write hv hn⟩

theorem toInt_val {d : Datum} {n : Int} (h : Val d n) : d.toInt .zero = some n := by
  obtain ⟨s, m, e, rfl, he, hm, h1, h2⟩ := h
  unfold Datum.toInt Datum.integral
  have e0 : e.toNat = 0 := by omega
  simp only [e0, Nat.shiftLeft_zero]
  congr 1
  by_cases hz : n.natAbs = 0
  · have hm0 : m = 0 := by rw [hm, hz, Nat.zero_mul]
    have hn : n = 0 := by omega
    subst hm0 hn
    have : Toward.zero.cut s 0 (-e).toNat = 0 := by unfold Toward.cut; simp
    rw [this]
    unfold signed
    simp
  · rw [hm, cut_exact _ _ _ _ hz]
    have := signed_val (s := s) (m := n.natAbs) (up := 0) (k := 0) (n := n) (by simp) h1 h2
    simpa using this
theorem fl_toInt {b : Nat} {n : Int} (h : Fl b n) (h0 : -9223372036854775808 ≤ n) (h1 : n ≤ 9223372036854775807) : floatToIntVal .f64 b .i64 = some n := by
  have e : (FloatKind.f64.decode b).toInt .zero = some n := toInt_val h
  unfold floatToIntVal
  rw [e]
  exact if_pos ⟨h0, h1⟩

theorem read_neg (b : Nat) : double.read (Op.negFloat .f64 b) = (double.read b).opposite := by
  have ew : double.signWeight = 2 ^ 63 := by decide
  have en : Op.negFloat .f64 b = b ^^^ 2 ^ 63 := rfl
  have e1 : (b ^^^ 2 ^ 63) % 2 ^ 63 = b % 2 ^ 63 := by rw [Nat.xor_mod_two_pow, Nat.mod_self, Nat.xor_zero]
  have e2 : (b ^^^ 2 ^ 63) / 2 ^ 63 = (b / 2 ^ 63) ^^^ 1 := by rw [Nat.xor_div_two_pow, Nat.div_self (Nat.two_pow_pos 63)]
  have e3 : ((b ^^^ 2 ^ 63) / 2 ^ 63 % 2 == 1) = !(b / 2 ^ 63 % 2 == 1) := by
    rw [e2]
    have h := Nat.xor_mod_two_pow (a := b / 2 ^ 63) (b := 1) (n := 1)
    simp only [Nat.pow_one] at h
    rw [h]
    rcases Nat.mod_two_eq_zero_or_one (b / 2 ^ 63) with h2 | h2 <;> rw [h2] <;> rfl
  rw [en]
  unfold Format.read
  simp only [ew, e1, e3]
  split
  · rfl
  · split
    · rfl
    · split <;> rfl
theorem fl_neg {b : Nat} {n : Int} (h : Fl b n) : Fl (Op.negFloat .f64 b) (-n) := by
  unfold Fl
  rw [read_neg]
  exact val_opposite h

/-- complex sums, differences and products -/
theorem fl_csum (op : BinOp) (hop : op = .add ∨ op = .sub) {a b c d : Nat} {i j k l : Int} (ha : Fl a i) (hb : Fl b j) (hc : Fl c k) (hd : Fl d l)
    (h1 : i.natAbs + k.natAbs < 9007199254740992) (h2 : j.natAbs + l.natAbs < 9007199254740992) :
    ∃ re im, cSumBits op .f64 a b c d = some (re, im) ∧ Fl re (if op = .add then i + k else i - k) ∧ Fl im (if op = .add then j + l else j - l) := by
  rcases hop with rfl | rfl
  · obtain ⟨x, hx, vx⟩ := fl_add ha hc (by omega)
    obtain ⟨y, hy, vy⟩ := fl_add hb hd (by omega)
    exact ⟨x, y, by simp [cSumBits, hx, hy], vx, vy⟩
  · obtain ⟨x, hx, vx⟩ := fl_sub ha hc (by omega)
    obtain ⟨y, hy, vy⟩ := fl_sub hb hd (by omega)
    exact ⟨x, y, by simp [cSumBits, hx, hy], by rw [if_neg (by decide)]; exact vx, by rw [if_neg (by decide)]; exact vy⟩
theorem fl_cmul {a b c d : Nat} {i j k l : Int} (ha : Fl a i) (hb : Fl b j) (hc : Fl c k) (hd : Fl d l)
    (h1 : (i * k).natAbs + (j * l).natAbs < 9007199254740992) (h2 : (i * l).natAbs + (j * k).natAbs < 9007199254740992) :
    ∃ re im, cMulBits a b c d = some (re, im) ∧ Fl re (i * k - j * l) ∧ Fl im (i * l + j * k) := by
  obtain ⟨x1, e1, v1⟩ := fl_mul ha hc (by omega)
  obtain ⟨x2, e2, v2⟩ := fl_mul hb hd (by omega)
  obtain ⟨x3, e3, v3⟩ := fl_sub v1 v2 (by omega)
  obtain ⟨x4, e4, v4⟩ := fl_mul ha hd (by omega)
  obtain ⟨x5, e5, v5⟩ := fl_mul hb hc (by omega)
  obtain ⟨x6, e6, v6⟩ := fl_add v4 v5 (by omega)
  exact ⟨x3, x6, by simp [cMulBits, e1, e2, e3, e4, e5, e6], v3, v6⟩

end Go.Proofs.Ytebhojbllhjkeaa
