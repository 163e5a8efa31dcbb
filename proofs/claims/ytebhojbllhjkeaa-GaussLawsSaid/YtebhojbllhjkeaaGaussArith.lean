/- Of whole complex numbers, no program in sight: a rest is small; who divides whom; quarter turns. -/
import Derived.Test.YtebhojbllhjkeaaGaussDiv
namespace Go.Proofs.Ytebhojbllhjkeaa
set_option linter.all false

/-- (a, b) divides (c, d) -/
def Dv (a b c d : Int) : Prop := ∃ u v, c = a * u - b * v ∧ d = a * v + b * u

theorem Dv.refl (a b : Int) : Dv a b a b := ⟨1, 0, by omega, by omega⟩
theorem Dv.zero (a b : Int) : Dv a b 0 0 := ⟨0, 0, by omega, by omega⟩
theorem dv_of_zero {c d : Int} (h : Dv 0 0 c d) : c = 0 ∧ d = 0 := by
  obtain ⟨u, v, h1, h2⟩ := h
  exact ⟨by rw [h1]; omega, by rw [h2]; omega⟩
theorem Dv.lin {z w a b c d : Int} (q0 q1 : Int) (h : Dv z w a b) (k : Dv z w c d) : Dv z w (a - (q0 * c - q1 * d)) (b - (q0 * d + q1 * c)) := by
  obtain ⟨u, v, rfl, rfl⟩ := h
  obtain ⟨s, t, rfl, rfl⟩ := k
  exact ⟨u - (q0 * s - q1 * t), v - (q0 * t + q1 * s), by grind, by grind⟩
theorem Dv.lin_back {z w a b c d : Int} (q0 q1 : Int) (h : Dv z w (a - (q0 * c - q1 * d)) (b - (q0 * d + q1 * c))) (k : Dv z w c d) : Dv z w a b := by
  obtain ⟨u, v, h1, h2⟩ := h
  obtain ⟨s, t, rfl, rfl⟩ := k
  exact ⟨u + (q0 * s - q1 * t), v + (q0 * t + q1 * s), by grind, by grind⟩
theorem Dv.turn {z w a b : Int} : Dv z w (-b) a ↔ Dv z w a b := by
  constructor
  · rintro ⟨u, v, h1, h2⟩
    exact ⟨v, -u, by grind, by grind⟩
  · rintro ⟨u, v, h1, h2⟩
    exact ⟨-v, u, by grind, by grind⟩
theorem Dv.trans {z w a b c d : Int} (h : Dv z w a b) (k : Dv a b c d) : Dv z w c d := by
  obtain ⟨u, v, rfl, rfl⟩ := h
  obtain ⟨s, t, rfl, rfl⟩ := k
  exact ⟨u * s - v * t, u * t + v * s, by grind, by grind⟩

theorem near_two (n e : Int) (he : 0 < e) : -e ≤ 2 * (n - nearI n e * e) ∧ 2 * (n - nearI n e * e) ≤ e := by
  have h1 : 2 * e * ((2 * n + e) / (2 * e)) ≤ 2 * n + e := Int.mul_ediv_self_le (by omega)
  have h2 : 2 * n + e < 2 * e * ((2 * n + e) / (2 * e)) + 2 * e := Int.lt_mul_ediv_self_add (by omega)
  have h3 : 2 * e * ((2 * n + e) / (2 * e)) = 2 * (nearI n e * e) := by unfold nearI; rw [Int.mul_assoc, Int.mul_comm e]
  omega
theorem near_exact (k e : Int) (he : 0 < e) : nearI (k * e) e = k := by
  unfold nearI
  rw [show 2 * (k * e) + e = e + 2 * e * k by grind, Int.add_mul_ediv_left _ _ (by omega)]
  rw [show e / (2 * e) = 0 by exact Int.ediv_eq_zero_of_lt (by omega) (by omega)]
  omega

theorem sq_le {s e : Int} (h1 : -e ≤ 2 * s) (h2 : 2 * s ≤ e) : 4 * (s * s) ≤ e * e := by
  have h : (2 * s).natAbs * (2 * s).natAbs ≤ e.natAbs * e.natAbs := Nat.mul_le_mul (by omega) (by omega)
  have e1 : ((2 * s).natAbs * (2 * s).natAbs : Int) = (2 * s) * (2 * s) := by
    have := Int.natAbs_mul_self (a := 2 * s)
    exact_mod_cast this
  have e2 : (e.natAbs * e.natAbs : Int) = e * e := by
    have := Int.natAbs_mul_self (a := e)
    exact_mod_cast this
  have h' : ((2 * s).natAbs * (2 * s).natAbs : Int) ≤ (e.natAbs * e.natAbs : Int) := by exact_mod_cast h
  rw [e1, e2] at h'
  grind

/-- a rest is small -/
theorem rest_small (a b c d e : Int) (he : e = c * c + d * d) (hp : 0 < e) (q0 q1 : Int) (h0 : q0 = nearI (a * c - b * (-d)) e) (h1 : q1 = nearI (a * (-d) + b * c) e) :
    2 * ((a - (q0 * c - q1 * d)) * (a - (q0 * c - q1 * d)) + (b - (q0 * d + q1 * c)) * (b - (q0 * d + q1 * c))) ≤ e := by
  have n0 := near_two (a * c - b * (-d)) e hp
  have n1 := near_two (a * (-d) + b * c) e hp
  rw [← h0] at n0
  rw [← h1] at n1
  have s0 := sq_le n0.1 n0.2
  have s1 := sq_le n1.1 n1.2
  have key : ((a - (q0 * c - q1 * d)) * (a - (q0 * c - q1 * d)) + (b - (q0 * d + q1 * c)) * (b - (q0 * d + q1 * c))) * e =
      (a * c - b * (-d) - q0 * e) * (a * c - b * (-d) - q0 * e) + (a * (-d) + b * c - q1 * e) * (a * (-d) + b * c - q1 * e) := by grind
  generalize (a - (q0 * c - q1 * d)) * (a - (q0 * c - q1 * d)) + (b - (q0 * d + q1 * c)) * (b - (q0 * d + q1 * c)) = N at *
  have h4 : (2 * N) * e ≤ e * e := by
    have : 4 * (N * e) ≤ 2 * (e * e) := by omega
    grind
  exact Int.le_of_mul_le_mul_right h4 hp

theorem le_of_sq {x M : Int} (hM : 0 ≤ M) (h : x * x ≤ M * M) : -M ≤ x ∧ x ≤ M := by
  have e1 : ((x.natAbs * x.natAbs : Nat) : Int) = x * x := Int.natAbs_mul_self
  have e2 : ((M.natAbs * M.natAbs : Nat) : Int) = M * M := Int.natAbs_mul_self
  have h' : x.natAbs * x.natAbs ≤ M.natAbs * M.natAbs := by omega
  have := Nat.mul_self_le_mul_self_iff.1 h'
  omega

theorem right_of {a b : Int} (h : a * a + b * b ≤ 1099511627776) : rightB a b = true := by
  have h1 := sq_pos a
  have h2 := sq_pos b
  have l1 := le_of_sq (x := a) (M := 1048576) (by omega) (by omega)
  have l2 := le_of_sq (x := b) (M := 1048576) (by omega) (by omega)
  simp [rightB, wiB, l1, l2]

theorem norm_is {a b : Int} (h : rightB a b = true) : normI a b = a * a + b * b := if_pos h
theorem norm_neg {a b : Int} (h : rightB a b = false) : normI a b = -1 := if_neg (by simp [h])
theorem norm_zero {a b : Int} (h : a * a + b * b = 0) : a = 0 ∧ b = 0 := by
  have h1 := sq_pos a
  have h2 := sq_pos b
  exact ⟨(Int.mul_eq_zero.1 (show a * a = 0 by omega)).elim id id, (Int.mul_eq_zero.1 (show b * b = 0 by omega)).elim id id⟩
theorem norm_up {a b : Int} (h : a ≠ 0 ∨ b ≠ 0) : 0 < a * a + b * b := by
  have h1 := sq_pos a
  have h2 := sq_pos b
  rcases Int.lt_or_eq_of_le (show 0 ≤ a * a + b * b by omega) with h3 | h3
  · exact h3
  · have := norm_zero h3.symm
    omega

/-- Div's answer, where there is one -/
theorem div_ok {a b c d : Int} (h1 : rightB a b = true) (h2 : rightB c d = true) (h : c ≠ 0 ∨ d ≠ 0) : divB a b c d = true := by
  unfold divB
  rw [h1, norm_is h2, decide_eq_true (norm_up h)]
  rfl
theorem divB_iff {a b c d : Int} (h : divB a b c d = true) : rightB a b = true ∧ rightB c d = true ∧ 0 < c * c + d * d := by
  unfold divB at h
  rw [Bool.and_eq_true, decide_eq_true_eq] at h
  by_cases hr : rightB c d = true
  · rw [norm_is hr] at h
    exact ⟨h.1, hr, h.2⟩
  · rw [norm_neg (eq_false_of_ne_true hr)] at h
    omega
theorem div_small {a b c d : Int} (h : divB a b c d = true) : 2 * ((divR a b c d).1 * (divR a b c d).1 + (divR a b c d).2 * (divR a b c d).2) ≤ c * c + d * d := by
  obtain ⟨_, h2, h3⟩ := divB_iff h
  exact rest_small a b c d _ rfl h3 _ _ (by unfold divQ; rw [norm_is h2]) (by unfold divQ; rw [norm_is h2])
theorem sq_bd {a : Int} (h : -1048576 ≤ a ∧ a ≤ 1048576) : a * a ≤ 1099511627776 := (mul_bd h h).2
theorem norm_bd {a b : Int} (h : rightB a b = true) : a * a + b * b ≤ 2199023255552 := by
  obtain ⟨p, q⟩ := of_rightB h
  have := sq_bd p
  have := sq_bd q
  omega
theorem div_right {a b c d : Int} (h : divB a b c d = true) : rightB (divR a b c d).1 (divR a b c d).2 = true := by
  have h1 := div_small h
  have h2 := norm_bd (divB_iff h).2.1
  exact right_of (by omega)

/-- Div's rest is none where, and only where, the one divides the other -/
theorem div_exact {a b c d : Int} (h : divB a b c d = true) : (divR a b c d = (0, 0)) ↔ Dv c d a b := by
  obtain ⟨_, h2, h3⟩ := divB_iff h
  constructor
  · intro h0
    have e1 : (divR a b c d).1 = 0 := by rw [h0]
    have e2 : (divR a b c d).2 = 0 := by rw [h0]
    unfold divR at e1 e2
    simp only at e1 e2
    exact ⟨(divQ a b c d).1, (divQ a b c d).2, by grind, by grind⟩
  · rintro ⟨u, v, rfl, rfl⟩
    have q0 : (divQ (c * u - d * v) (c * v + d * u) c d).1 = u := by
      show nearI _ _ = _
      rw [norm_is h2, show (c * u - d * v) * c - (c * v + d * u) * (-d) = u * (c * c + d * d) by grind]
      exact near_exact _ _ h3
    have q1 : (divQ (c * u - d * v) (c * v + d * u) c d).2 = v := by
      show nearI _ _ = _
      rw [norm_is h2, show (c * u - d * v) * (-d) + (c * v + d * u) * c = v * (c * c + d * d) by grind]
      exact near_exact _ _ h3
    unfold divR
    rw [q0, q1]
    exact Prod.ext (by grind) (by grind)

/-- how many quarter turns bring (a, b) to where it belongs -/
def quad (a b : Int) : Nat := if a = 0 ∧ b = 0 then 0 else if 0 < a ∧ 0 ≤ b then 0 else if 0 ≤ a ∧ b < 0 then 1 else if a < 0 ∧ b ≤ 0 then 2 else 3
theorem quad_turn {a b : Int} (h : a ≠ 0 ∨ b ≠ 0) (k : a ≤ 0 ∨ b < 0) : quad (-b) a < quad a b := by
  unfold quad
  grind

/-- Div's numbers stay far below a word's bounds -/
theorem div_bds {a b c d : Int} (h : divB a b c d = true) : (-8796093022208 ≤ (divQ a b c d).1 * c ∧ (divQ a b c d).1 * c ≤ 8796093022208) ∧ (-8796093022208 ≤ (divQ a b c d).1 * d ∧ (divQ a b c d).1 * d ≤ 8796093022208) ∧
    (-8796093022208 ≤ (divQ a b c d).2 * c ∧ (divQ a b c d).2 * c ≤ 8796093022208) ∧ (-8796093022208 ≤ (divQ a b c d).2 * d ∧ (divQ a b c d).2 * d ≤ 8796093022208) := by
  obtain ⟨h1, h2, he⟩ := divB_iff h
  have hn := norm_is h2
  obtain ⟨p, q⟩ := of_rightB h1
  obtain ⟨r, s⟩ := of_rightB h2
  have m1 := mul_bd p r
  have m2 := mul_bd q s
  have m3 := mul_bd p s
  have m4 := mul_bd q r
  have m5 := mul_bd r r
  have m6 := mul_bd s s
  have n1 : b * -d = -(b * d) := Int.mul_neg _ _
  have n2 : a * -d = -(a * d) := Int.mul_neg _ _
  have k1 := abs_sq c
  have k2 := abs_sq d
  have k3 := sq_pos c
  have k4 := sq_pos d
  have e1 : (divQ a b c d).1 = nearI (a * c - b * -d) (c * c + d * d) := by unfold divQ; rw [hn]
  have e2 : (divQ a b c d).2 = nearI (a * -d + b * c) (c * c + d * d) := by unfold divQ; rw [hn]
  rw [e1, e2]
  exact ⟨near_bd _ _ c 4398046511104 he (by omega) (by omega) (by omega), near_bd _ _ d 4398046511104 he (by omega) (by omega) (by omega), near_bd _ _ c 4398046511104 he (by omega) (by omega) (by omega), near_bd _ _ d 4398046511104 he (by omega) (by omega) (by omega)⟩
theorem norm_mul (a b c d : Int) : (a * c - b * d) * (a * c - b * d) + (a * d + b * c) * (a * d + b * c) = (a * a + b * b) * (c * c + d * d) := by grind
end Go.Proofs.Ytebhojbllhjkeaa
