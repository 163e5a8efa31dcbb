/- Rotors in plain integers: a turn modulo p, turns put together, and the orbit of a point: its tail and its loop. No program in sight. -/
namespace Go.Proofs.Ytebhojbllhjkeaa
set_option linter.all false

abbrev Pt := Int × Int

/-- z times a, and c, modulo p -/
def ap (a c : Pt) (p : Int) (z : Pt) : Pt := ((z.1 * a.1 - z.2 * a.2 + c.1) % p, (z.1 * a.2 + z.2 * a.1 + c.2) % p)
/-- a turn behind another one -/
def thenA (a u : Pt) (p : Int) : Pt := ((a.1 * u.1 - a.2 * u.2) % p, (a.1 * u.2 + a.2 * u.1) % p)

theorem emod_same {p x y k : Int} (h : x - y = p * k) : x % p = y % p :=
  Int.emod_eq_emod_iff_emod_sub_eq_zero.2 (Int.emod_eq_zero_of_dvd ⟨k, h⟩)

theorem ap_then (a c u v : Pt) (p : Int) (z : Pt) : ap (thenA a u p) (ap u v p c) p z = ap u v p (ap a c p z) := by
  obtain ⟨a1, a2⟩ := a
  obtain ⟨c1, c2⟩ := c
  obtain ⟨u1, u2⟩ := u
  obtain ⟨v1, v2⟩ := v
  obtain ⟨z1, z2⟩ := z
  unfold ap thenA
  simp only
  have h1 := Int.emod_def (a1 * u1 - a2 * u2) p
  have h2 := Int.emod_def (a1 * u2 + a2 * u1) p
  have h3 := Int.emod_def (c1 * u1 - c2 * u2 + v1) p
  have h4 := Int.emod_def (c1 * u2 + c2 * u1 + v2) p
  have h5 := Int.emod_def (z1 * a1 - z2 * a2 + c1) p
  have h6 := Int.emod_def (z1 * a2 + z2 * a1 + c2) p
  rw [h1, h2, h3, h4, h5, h6]
  generalize (a1 * u1 - a2 * u2) / p = q1
  generalize (a1 * u2 + a2 * u1) / p = q2
  generalize (c1 * u1 - c2 * u2 + v1) / p = q3
  generalize (c1 * u2 + c2 * u1 + v2) / p = q4
  generalize (z1 * a1 - z2 * a2 + c1) / p = q5
  generalize (z1 * a2 + z2 * a1 + c2) / p = q6
  refine Prod.ext ?_ ?_
  · refine emod_same (k := -(z1 * q1) + z2 * q2 - q3 + q5 * u1 - q6 * u2) ?_
    grind
  · refine emod_same (k := -(z1 * q2) - z2 * q1 - q4 + q5 * u2 + q6 * u1) ?_
    grind

/-- n times -/
def it {α : Type} (f : α → α) : Nat → α → α
  | 0, z => z
  | n + 1, z => it f n (f z)
theorem it_add {α : Type} (f : α → α) (m n : Nat) (z : α) : it f (m + n) z = it f n (it f m z) := by
  induction m generalizing z with
  | zero => rw [Nat.zero_add]; rfl
  | succ m ih => rw [Nat.succ_add]; exact ih (f z)
theorem it_succ {α : Type} (f : α → α) (n : Nat) (z : α) : it f (n + 1) z = f (it f n z) := it_add f n 1 z
theorem it_two {α : Type} {f g : α → α} (h : ∀ z, g z = f (f z)) (n : Nat) (z : α) : it g n z = it f (2 * n) z := by
  induction n generalizing z with
  | zero => rfl
  | succ n ih =>
    rw [show 2 * (n + 1) = (2 * n) + 1 + 1 by omega]
    show it g n (g z) = it f (2 * n) (f (f z))
    rw [h, ih]

/-- the tail and the loop of a sequence -/
def Orbit {α : Type} (x : Nat → α) (t l : Nat) : Prop := 1 ≤ l ∧ ∀ i j, i < j → (x i = x j ↔ t ≤ i ∧ l ∣ (j - i))

theorem pigeon (M : Nat) : ∀ f : Nat → Nat, (∀ i, i ≤ M → f i < M) → ∃ i j, i < j ∧ j ≤ M ∧ f i = f j := by
  induction M with
  | zero => intro f h; exact absurd (h 0 (Nat.le_refl 0)) (by omega)
  | succ M ih =>
    intro f h
    by_cases hc : ∃ i, i ≤ M ∧ f i = f (M + 1)
    · obtain ⟨i, hi, he⟩ := hc
      exact ⟨i, M + 1, by omega, by omega, he⟩
    · have hne : ∀ i, i ≤ M → f i ≠ f (M + 1) := fun i hi he => hc ⟨i, hi, he⟩
      have hv := h (M + 1) (by omega)
      obtain ⟨i, j, hij, hj, he⟩ := ih (fun i => if f (M + 1) < f i then f i - 1 else f i) (fun i hi => by
        have h1 := h i (by omega)
        have h2 := hne i hi
        split <;> omega)
      refine ⟨i, j, hij, by omega, ?_⟩
      have h1 := hne i (by omega)
      have h2 := hne j hj
      split at he <;> split at he <;> omega

theorem first_twice {α : Type} (x : Nat → α) (M : Nat) : (∃ N, N ≤ M ∧ (∃ i, i < N ∧ x i = x N) ∧ ∀ j, j < N → ∀ i, i < j → x i ≠ x j) ∨ (∀ j, j ≤ M → ∀ i, i < j → x i ≠ x j) := by
  induction M with
  | zero => exact .inr fun j hj i hi => by omega
  | succ M ih =>
    rcases ih with ⟨N, h1, h2, h3⟩ | h
    · exact .inl ⟨N, by omega, h2, h3⟩
    · by_cases hc : ∃ i, i < M + 1 ∧ x i = x (M + 1)
      · exact .inl ⟨M + 1, by omega, hc, fun j hj => h j (by omega)⟩
      · refine .inr fun j hj i hi he => ?_
        by_cases e : j = M + 1
        · subst e; exact hc ⟨i, hi, he⟩
        · exact h j (by omega) i hi he

/-- a sequence that goes on by a function has a tail and a loop, if it stays among M things -/
theorem orbit_of {α : Type} (f : α → α) (z : α) (M : Nat) (code : α → Nat) (hc : ∀ i, code (it f i z) < M) (hi : ∀ i j, code (it f i z) = code (it f j z) → it f i z = it f j z) :
    ∃ t l, t + l ≤ M ∧ Orbit (fun n => it f n z) t l := by
  obtain ⟨N, hN, ⟨t, ht, he⟩, hd⟩ : ∃ N, N ≤ M ∧ (∃ i, i < N ∧ it f i z = it f N z) ∧ ∀ j, j < N → ∀ i, i < j → it f i z ≠ it f j z := by
    rcases first_twice (fun n => it f n z) M with h | h
    · exact h
    · obtain ⟨i, j, hij, hj, e⟩ := pigeon M (fun i => code (it f i z)) (fun i _ => hc i)
      exact absurd (hi _ _ e) (h j hj i hij)
  refine ⟨t, N - t, by omega, by omega, ?_⟩
  obtain ⟨l, rfl⟩ : ∃ l, N = t + l := ⟨N - t, by omega⟩
  rw [show t + l - t = l by omega]
  have hl : 1 ≤ l := by omega
  have per1 : ∀ k, it f (t + k + l) z = it f (t + k) z := fun k => by
    rw [show t + k + l = t + l + k by omega, it_add f (t + l) k, it_add f t k, he]
  have per : ∀ m k, it f (t + k + m * l) z = it f (t + k) z := fun m => by
    induction m with
    | zero => intro k; rw [Nat.zero_mul, Nat.add_zero]
    | succ m ih => intro k; rw [Nat.succ_mul, show t + k + (m * l + l) = t + (k + m * l) + l by omega, per1, show t + (k + m * l) = t + k + m * l by omega, ih]
  have red : ∀ k, it f (t + k) z = it f (t + k % l) z := fun k => by
    have := per (k / l) (k % l)
    rw [show t + k % l + k / l * l = t + k by have := Nat.mod_add_div k l; rw [Nat.mul_comm] at this; omega] at this
    exact this
  have diff : ∀ i j, i < t + l → j < t + l → it f i z = it f j z → i = j := fun i j hi hj h => by
    rcases Nat.lt_trichotomy i j with hlt | heq | hgt
    · exact absurd h (hd j hj i hlt)
    · exact heq
    · exact absurd h.symm (hd i hi j hgt)
  intro i j hij
  show it f i z = it f j z ↔ _
  constructor
  · intro h
    have hr : ∀ k, t ≤ k → it f k z = it f (t + (k - t) % l) z ∧ t + (k - t) % l < t + l := fun k hk => by
      have h1 := red (k - t)
      have h2 := Nat.mod_lt (k - t) (show 0 < l by omega)
      rw [show t + (k - t) = k by omega] at h1
      exact ⟨h1, by omega⟩
    have hti : t ≤ i := by
      rcases Nat.lt_or_ge i t with hlt | hge
      · rcases Nat.lt_or_ge j t with hj | hj
        · have := diff i j (by omega) (by omega) h; omega
        · obtain ⟨r1, r2⟩ := hr j hj
          have := diff i _ (by omega) r2 (h.trans r1)
          omega
      · exact hge
    refine ⟨hti, ?_⟩
    obtain ⟨r1, r2⟩ := hr i hti
    obtain ⟨r3, r4⟩ := hr j (by omega)
    have e := diff _ _ r2 r4 (r1.symm.trans (h.trans r3))
    have e2 : (i - t) % l = (j - t) % l := by omega
    have := Nat.sub_mod_eq_zero_of_mod_eq e2.symm
    rw [show j - t - (i - t) = j - i by omega] at this
    exact Nat.dvd_of_mod_eq_zero this
  · rintro ⟨h1, k, hk⟩
    have := per k (i - t)
    rw [show t + (i - t) = i by omega, show i + k * l = j by rw [Nat.mul_comm]; omega] at this
    exact this.symm

/-- a point's number -/
def codeP (p : Int) (z : Pt) : Nat := (z.1 * p + z.2).toNat
def inP (p : Int) (z : Pt) : Prop := 0 ≤ z.1 ∧ z.1 < p ∧ 0 ≤ z.2 ∧ z.2 < p
theorem inP.ap {p : Int} (hp : 2 ≤ p) (a c z : Pt) : inP p (ap a c p z) :=
  ⟨Int.emod_nonneg _ (by omega), Int.emod_lt_of_pos _ (by omega), Int.emod_nonneg _ (by omega), Int.emod_lt_of_pos _ (by omega)⟩
theorem inP.it {p : Int} (hp : 2 ≤ p) (a c : Pt) {z : Pt} (hz : inP p z) (n : Nat) : inP p (it (Go.Proofs.Ytebhojbllhjkeaa.ap a c p) n z) := by
  induction n generalizing z with
  | zero => exact hz
  | succ n ih => exact ih (inP.ap hp a c z)
theorem codeP_lt {p : Int} {z : Pt} (h : inP p z) : (codeP p z : Int) = z.1 * p + z.2 ∧ z.1 * p + z.2 < p * p ∧ 0 ≤ z.1 * p + z.2 := by
  obtain ⟨h1, h2, h3, h4⟩ := h
  have e : (z.1 + 1) * p ≤ p * p := Int.mul_le_mul_of_nonneg_right (by omega) (by omega)
  rw [Int.add_mul, Int.one_mul] at e
  have e2 : 0 ≤ z.1 * p := Int.mul_nonneg h1 (by omega)
  unfold codeP
  omega
theorem codeP_inj {p : Int} {y z : Pt} (hy : inP p y) (hz : inP p z) (h : codeP p y = codeP p z) : y = z := by
  have e1 := (codeP_lt hy).1
  have e2 := (codeP_lt hz).1
  rw [h, e2] at e1
  obtain ⟨h1, h2, h3, h4⟩ := hy
  obtain ⟨h5, h6, h7, h8⟩ := hz
  have q : ∀ a b : Int, 0 ≤ b → b < p → (a * p + b) / p = a := fun a b hb1 hb2 => by
    rw [Int.add_comm, Int.add_mul_ediv_right _ _ (by omega), Int.ediv_eq_zero_of_lt hb1 hb2]
    omega
  have : y.1 = z.1 := by rw [← q y.1 y.2 h3 h4, ← e1, q z.1 z.2 h7 h8]
  refine Prod.ext this ?_
  rw [this] at e1
  omega
theorem orbit_rotor {p : Int} (hp : 2 ≤ p) (a c : Pt) {z : Pt} (hz : inP p z) : ∃ t l : Nat, (t : Int) + l ≤ p * p ∧ Orbit (fun n => it (ap a c p) n z) t l := by
  have hin := fun n => inP.it hp a c hz n
  have hpp : 0 ≤ p * p := Int.mul_nonneg (by omega) (by omega)
  obtain ⟨t, l, h1, h2⟩ := orbit_of (ap a c p) z (p * p).toNat (codeP p) (fun i => by
    have := codeP_lt (hin i)
    omega) (fun i j h => codeP_inj (hin i) (hin j) h)
  exact ⟨t, l, by omega, h2⟩

/-- where a hare, twice as fast, meets: by then at the latest -/
theorem Orbit.meets {α : Type} {x : Nat → α} {t l k : Nat} (h : Orbit x t l) (hk : 1 ≤ k) : x k = x (2 * k) ↔ t ≤ k ∧ l ∣ k := by
  have := h.2 k (2 * k) (by omega)
  rwa [show 2 * k - k = k by omega] at this
end Go.Proofs.Ytebhojbllhjkeaa
