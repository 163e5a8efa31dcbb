/- The contracts of rotor's inner functions: within, Right, rest, of, num. -/
import Derived.Test.YtebhojbllhjkeaaRows
import Derived.Test.YtebhojbllhjkeaaKit
import Derived.Test.YtebhojbllhjkeaaFloat
import Derived.Test.YtebhojbllhjkeaaOrbit
import Derived.WalkKit
import Derived.WalkSpells
import Derived.WalkLawsBesides
import Derived.Lib.Hide
import Derived.Deep.QuietTactic
import Derived.BigQuiet
import Derived.Deep.DeepCutAuto
import Derived.Deep.RegionHeld3
namespace Go.Proofs.Ytebhojbllhjkeaa
open Go.RowKit
set_option linter.all false

abbrev ptV (z : Pt) : Value := .agg #[.int .i64 z.1, .int .i64 z.2]
abbrev rotV (z a c : Pt) (p : Int) : Value := .agg #[.int .i64 z.1, .int .i64 z.2, .int .i64 a.1, .int .i64 a.2, .int .i64 c.1, .int .i64 c.2, .int .i64 p]
/-- the bits of a whole number -/
def fr (n : Int) : Nat := floatOfInt .f64 n
theorem fr_fl (n : Int) (h : n.natAbs < 9007199254740992) : Fl (fr n) n := fl_ofInt n h
abbrev cxV (z : Pt) : Value := .complex .f64 (fr z.1) (fr z.2)
abbrev turnV (a c : Pt) : Value := .agg #[.complex .f64 (fr a.1) (fr a.2), .complex .f64 (fr c.1) (fr c.2)]

def wrB (n lo hi : Int) : Bool := decide (lo ≤ n) && decide (n ≤ hi)
theorem wrB_yes {n lo hi : Int} (h : lo ≤ n ∧ n ≤ hi) : wrB n lo hi = true := by simp [wrB, h]
theorem of_wrB {n lo hi : Int} (h : wrB n lo hi = true) : lo ≤ n ∧ n ≤ hi := by simpa [wrB] using h

set_option maxHeartbeats 400000 in
theorem rwithin_any (n lo hi : Int) (w : World) : Calls Try.prog 80 #[.int .i64 n, .int .i64 lo, .int .i64 hi] w fun e w' => e = .returned (.bool (wrB n lo hi)) ∧ w' = w := by
  by_cases h : lo ≤ n
  · have Hn := Lib.hid (show wrB n lo hi = decide (n ≤ hi) by simp [wrB, h])
    have hd : decide (lo ≤ n) = true := decide_eq_true h
    go_enter Try.func80, Try.ntmps80
    go_wp2
    go_ret
    exact ⟨ret_bool Hn.out.symm, rfl⟩
  · have Hn := Lib.hid (show wrB n lo hi = false by simp [wrB]; omega)
    have hd : decide (lo ≤ n) = false := decide_eq_false h
    go_enter Try.func80, Try.ntmps80
    go_wp2
    go_ret
    exact ⟨ret_bool Hn.out.symm, rfl⟩

def rpB (z : Pt) (p : Int) : Bool := wrB z.1 0 (p - 1) && wrB z.2 0 (p - 1)
def rrB (z a c : Pt) (p : Int) : Bool := wrB p 2 1000 && rpB z p && rpB a p && rpB c p
theorem of_rpB {z : Pt} {p : Int} (h : rpB z p = true) : inP p z := by
  simp only [rpB, Bool.and_eq_true] at h
  have h1 := of_wrB h.1
  have h2 := of_wrB h.2
  exact ⟨by omega, by omega, by omega, by omega⟩
theorem rpB_of {z : Pt} {p : Int} (h : inP p z) : rpB z p = true := by
  obtain ⟨h1, h2, h3, h4⟩ := h
  simp only [rpB, Bool.and_eq_true]
  exact ⟨wrB_yes (by omega), wrB_yes (by omega)⟩
theorem of_rrB {z a c : Pt} {p : Int} (h : rrB z a c p = true) : (2 ≤ p ∧ p ≤ 1000) ∧ inP p z ∧ inP p a ∧ inP p c := by
  simp only [rrB, Bool.and_eq_true] at h
  exact ⟨of_wrB h.1.1.1, of_rpB h.1.1.2, of_rpB h.1.2, of_rpB h.2⟩
theorem rrB_of {z a c : Pt} {p : Int} (h : (2 ≤ p ∧ p ≤ 1000) ∧ inP p z ∧ inP p a ∧ inP p c) : rrB z a c p = true := by
  simp only [rrB, Bool.and_eq_true]
  exact ⟨⟨⟨wrB_yes h.1, rpB_of h.2.1⟩, rpB_of h.2.2.1⟩, rpB_of h.2.2.2⟩

set_option maxRecDepth 10000 in
set_option maxHeartbeats 400000 in
theorem rpart_any (z : Pt) (p : Int) (B : Nat) (w : World) (hp : -1000000 ≤ p ∧ p ≤ 1000000) (hc : w.cell? ⟨B, 6, none⟩ = some (.int .i64 p)) :
    Calls Try.prog 85 #[ptV z, .pointer (some ⟨B, 0, none⟩)] w fun e w' => e = .returned (.bool (rpB z p)) ∧ Below w.heap.size w w' := by
  have hB : B < w.heap.size := block_lt_of_cell hc
  have hw : IntKind.i64.wrap (p - 1) = p - 1 := by rw [IntKind.wrap_i64]; omega
  by_cases h : wrB z.1 0 (p - 1) = true
  · have Hn := Lib.hid (show rpB z p = wrB z.2 0 (p - 1) by simp [rpB, h])
    have h1 := fun W => rwithin_any z.1 0 (p - 1) W
    have h2 := fun W => rwithin_any z.2 0 (p - 1) W
    rw [h] at h1
    generalize wrB z.2 0 (p - 1) = q at *
    go_enter Try.func85, Try.ntmps85
    go_wp2_with (first
      | (go_at_call 80; with_reducible refine (h1 _).mono ?_; rintro e w' ⟨rfl, rfl⟩)
      | (go_at_call 80; with_reducible refine (h2 _).mono ?_; rintro e w' ⟨rfl, rfl⟩))
    go_ret
    exact ⟨ret_bool Hn.out.symm, below_one _ _⟩
  · have h := eq_false_of_ne_true h
    have Hn := Lib.hid (show rpB z p = false by simp [rpB, h])
    have h1 := fun W => rwithin_any z.1 0 (p - 1) W
    rw [h] at h1
    go_enter Try.func85, Try.ntmps85
    go_wp2_with (go_at_call 80; with_reducible refine (h1 _).mono ?_; rintro e w' ⟨rfl, rfl⟩)
    go_ret
    exact ⟨ret_bool Hn.out.symm, below_one _ _⟩

/-- a block that holds a rotor -/
structure RB (w : World) (B : Nat) (z a c : Pt) (p : Int) : Prop where
  x0 : w.cell? ⟨B, 0, none⟩ = some (.int .i64 z.1)
  x1 : w.cell? ⟨B, 1, none⟩ = some (.int .i64 z.2)
  x2 : w.cell? ⟨B, 2, none⟩ = some (.int .i64 a.1)
  x3 : w.cell? ⟨B, 3, none⟩ = some (.int .i64 a.2)
  x4 : w.cell? ⟨B, 4, none⟩ = some (.int .i64 c.1)
  x5 : w.cell? ⟨B, 5, none⟩ = some (.int .i64 c.2)
  x6 : w.cell? ⟨B, 6, none⟩ = some (.int .i64 p)
  f0 : w.frozen? ⟨B, 0, none⟩ = false
  f1 : w.frozen? ⟨B, 1, none⟩ = false
  f2 : w.frozen? ⟨B, 2, none⟩ = false
  f3 : w.frozen? ⟨B, 3, none⟩ = false
  f4 : w.frozen? ⟨B, 4, none⟩ = false
  f5 : w.frozen? ⟨B, 5, none⟩ = false
  f6 : w.frozen? ⟨B, 6, none⟩ = false
theorem RB.lt {w : World} {B : Nat} {z a c : Pt} {p : Int} (h : RB w B z a c p) : B < w.heap.size := block_lt_of_cell h.x0
theorem RB.same {w w' : World} {B : Nat} {z a c : Pt} {p : Int} (h : RB w B z a c p) (hc : ∀ i, w'.cell? ⟨B, i, none⟩ = w.cell? ⟨B, i, none⟩) (hf : ∀ i, w'.frozen? ⟨B, i, none⟩ = w.frozen? ⟨B, i, none⟩) : RB w' B z a c p :=
  ⟨(hc _).trans h.x0, (hc _).trans h.x1, (hc _).trans h.x2, (hc _).trans h.x3, (hc _).trans h.x4, (hc _).trans h.x5, (hc _).trans h.x6,
    (hf _).trans h.f0, (hf _).trans h.f1, (hf _).trans h.f2, (hf _).trans h.f3, (hf _).trans h.f4, (hf _).trans h.f5, (hf _).trans h.f6⟩
theorem RB.up {w w' : World} {B : Nat} {z a c : Pt} {p : Int} (h : RB w B z a c p) (hb : Below w.heap.size w w') : RB w' B z a c p :=
  h.same (fun i => hb.cell (p := ⟨B, i, none⟩) h.lt) (fun i => hb.frozen (p := ⟨B, i, none⟩) h.lt)
theorem RB.drewN {w : World} {B : Nat} {z a c : Pt} {p : Int} (h : RB w B z a c p) (n : Nat) : RB (w.drewN n) B z a c p := h.up (below_drewN (Below.refl _ _) n)
theorem RB.drew {w : World} {B : Nat} {z a c : Pt} {p : Int} (h : RB w B z a c p) : RB w.drew B z a c p := h.up (Below.refl _ _).drew
theorem RB.far {w : World} {B : Nat} {z a c : Pt} {p : Int} (h : RB w B z a c p) {q : Addr} (hq : q.block ≠ B) (v : Value) : RB (w.setCell q v) B z a c p :=
  h.same (fun i => set_far hq) (fun i => set_frozen)
theorem RB.new (w : World) (z a c : Pt) (p : Int) (t : TypeId) : RB (w.alloc (.cells #[.int .i64 z.1, .int .i64 z.2, .int .i64 a.1, .int .i64 a.2, .int .i64 c.1, .int .i64 c.2, .int .i64 p] t)) w.heap.size z a c p := by
  constructor <;> first
    | exact World.cell?_alloc_at _ _ _ _ rfl
    | exact World.frozen?_alloc_at _ _ _ _ rfl

set_option maxRecDepth 10000 in
set_option maxHeartbeats 1000000 in
theorem rright_any (z a c : Pt) (p : Int) (w : World) : Calls Try.prog 62 #[rotV z a c p] w fun e w' => e = .returned (.bool (rrB z a c p)) ∧ Below w.heap.size w w' := by
  have hmf : ∀ (fn : Fn) (first cap : Array Value) (w : World), (Instr.makeFunc fn first cap).run Try.prog w = .ok (.func fn first cap) w := fun _ _ _ _ => rfl
  have h0 := fun W => rwithin_any p 2 1000 W
  have st0 := RB.new w z a c p 75
  have b0 := below_one w (.cells #[.int .i64 z.1, .int .i64 z.2, .int .i64 a.1, .int .i64 a.2, .int .i64 c.1, .int .i64 c.2, .int .i64 p] 75)
  have St0 := Lib.hid st0
  have B0 := Lib.hid b0
  clear st0 b0
  by_cases hp : wrB p 2 1000 = true
  · have hb := of_wrB hp
    have h1 := fun W h => rpart_any z p w.heap.size W ⟨by omega, by omega⟩ h
    have h2 := fun W h => rpart_any a p w.heap.size W ⟨by omega, by omega⟩ h
    have h3 := fun W h => rpart_any c p w.heap.size W ⟨by omega, by omega⟩ h
    rw [hp] at h0
    by_cases hz : rpB z p = true
    · rw [hz] at h1
      by_cases ha : rpB a p = true
      · rw [ha] at h2
        have Hn := Lib.hid (show rrB z a c p = rpB c p by simp [rrB, hp, hz, ha])
        generalize rpB c p = q at *
        go_enter Try.func62, Try.ntmps62
        go_wp2_with (first
          | (go_at_call 80; with_reducible refine (h0 _).mono ?_; rintro e w' ⟨rfl, rfl⟩)
          | (go_at_call 85; with_reducible refine (h1 _ St0.out.x6).mono ?_; rintro e w1 ⟨rfl, hb1⟩; have st1 := St0.out.up hb1; have g2 := st1.x2; have g3 := st1.x3)
          | (go_at_call 85; with_reducible refine (h2 _ st1.x6).mono ?_; rintro e w2 ⟨rfl, hb2⟩; have st2 := st1.up hb2; have g4 := st2.x4; have g5 := st2.x5)
          | (go_at_call 85; with_reducible refine (h3 _ st2.x6).mono ?_; rintro e w3 ⟨rfl, hb3⟩))
        go_ret
        exact ⟨ret_bool Hn.out.symm, below_trans (below_trans (below_trans B0.out hb1) hb2) hb3⟩
      · have ha := eq_false_of_ne_true ha
        rw [ha] at h2
        have Hn := Lib.hid (show rrB z a c p = false by simp [rrB, ha])
        go_enter Try.func62, Try.ntmps62
        go_wp2_with (first
          | (go_at_call 80; with_reducible refine (h0 _).mono ?_; rintro e w' ⟨rfl, rfl⟩)
          | (go_at_call 85; with_reducible refine (h1 _ St0.out.x6).mono ?_; rintro e w1 ⟨rfl, hb1⟩; have st1 := St0.out.up hb1; have g2 := st1.x2; have g3 := st1.x3)
          | (go_at_call 85; with_reducible refine (h2 _ st1.x6).mono ?_; rintro e w2 ⟨rfl, hb2⟩))
        go_ret
        exact ⟨ret_bool Hn.out.symm, below_trans (below_trans B0.out hb1) hb2⟩
    · have hz := eq_false_of_ne_true hz
      rw [hz] at h1
      have Hn := Lib.hid (show rrB z a c p = false by simp [rrB, hz])
      go_enter Try.func62, Try.ntmps62
      go_wp2_with (first
        | (go_at_call 80; with_reducible refine (h0 _).mono ?_; rintro e w' ⟨rfl, rfl⟩)
        | (go_at_call 85; with_reducible refine (h1 _ St0.out.x6).mono ?_; rintro e w1 ⟨rfl, hb1⟩))
      go_ret
      exact ⟨ret_bool Hn.out.symm, below_trans B0.out hb1⟩
  · have hp := eq_false_of_ne_true hp
    rw [hp] at h0
    have Hn := Lib.hid (show rrB z a c p = false by simp [rrB, hp])
    go_enter Try.func62, Try.ntmps62
    go_wp2_with (go_at_call 80; with_reducible refine (h0 _).mono ?_; rintro e w' ⟨rfl, rfl⟩)
    go_ret
    exact ⟨ret_bool Hn.out.symm, B0.out⟩

theorem tmod_emod (n p : Int) (hp : 0 < p) : (if n.tmod p < 0 then n.tmod p + p else n.tmod p) = n % p := by
  have h1 := Int.mul_tdiv_add_tmod n p
  have h2 : -p < n.tmod p := Int.lt_tmod_of_pos n hp
  have h3 : n.tmod p < p := Int.tmod_lt_of_pos n hp
  by_cases h : n.tmod p < 0
  · rw [if_pos h]
    exact ((Int.ediv_emod_unique hp (a := n) (r := n.tmod p + p) (q := n.tdiv p - 1)).2 ⟨by rw [Int.mul_sub, Int.mul_one]; omega, by omega, by omega⟩).2.symm
  · rw [if_neg h]
    exact ((Int.ediv_emod_unique hp (a := n) (r := n.tmod p) (q := n.tdiv p)).2 ⟨by omega, by omega, by omega⟩).2.symm

set_option maxRecDepth 10000 in
set_option maxHeartbeats 800000 in
theorem rest1_any (x : Nat) (n p : Int) (D : Nat) (w : World) (hx : Fl x n) (n0 : -8796093022208 ≤ n) (n1 : n ≤ 8796093022208) (p0 : 0 < p) (p1 : p ≤ 1000) (hc : w.cell? ⟨D, 0, none⟩ = some (.int .i64 p)) :
    Calls Try.prog 93 #[.float .f64 x, .pointer (some ⟨D, 0, none⟩)] w fun e w' => e = .returned (.float .f64 (fr (n % p))) ∧ w' = w := by
  have cx := fun W => run_convert_float_int (P := Try.prog) W 106 3 .f64 .i64 x n (by kernel_rfl) Try.underlying3 (fl_toInt hx (by omega) (by omega))
  have hk := tmod_emod n p p0
  have h2 : -p < n.tmod p := Int.lt_tmod_of_pos n p0
  have h3 : n.tmod p < p := Int.tmod_lt_of_pos n p0
  have hw : IntKind.i64.wrap (n.tmod p) = n.tmod p := by rw [IntKind.wrap_i64]; omega
  have hw2 : IntKind.i64.wrap (n.tmod p + p) = n.tmod p + p := by rw [IntKind.wrap_i64]; omega
  have hz : ¬ p = 0 := by omega
  by_cases h : n.tmod p < 0
  · rw [if_pos h] at hk
    have Hk := Lib.hid hk
    clear hk
    have hd : decide (n.tmod p < 0) = true := decide_eq_true h
    go_enter Try.func93, Try.ntmps93
    go_wp2
    go_ret
    exact ⟨by rw [← Hk.out]; rfl, rfl⟩
  · rw [if_neg h] at hk
    have Hk := Lib.hid hk
    clear hk
    have hd : decide (n.tmod p < 0) = false := decide_eq_false h
    go_enter Try.func93, Try.ntmps93
    go_wp2
    go_ret
    exact ⟨by rw [← Hk.out]; rfl, rfl⟩

set_option maxRecDepth 10000 in
set_option maxHeartbeats 800000 in
theorem rest_any (x y : Nat) (n m p : Int) (w : World) (hx : Fl x n) (hy : Fl y m) (n0 : -8796093022208 ≤ n) (n1 : n ≤ 8796093022208) (m0 : -8796093022208 ≤ m) (m1 : m ≤ 8796093022208) (p0 : 0 < p) (p1 : p ≤ 1000) :
    Calls Try.prog 92 #[.complex .f64 x y, .int .i64 p] w fun e w' => e = .returned (cxV (n % p, m % p)) ∧ Below w.heap.size w w' := by
  have hmf : ∀ (fn : Fn) (first cap : Array Value) (w : World), (Instr.makeFunc fn first cap).run Try.prog w = .ok (.func fn first cap) w := fun _ _ _ _ => rfl
  have h1 := fun W h => rest1_any x n p w.heap.size W hx n0 n1 p0 p1 h
  have h2 := fun W h => rest1_any y m p w.heap.size W hy m0 m1 p0 p1 h
  have hc : (w.alloc (.cells #[.int .i64 p] 3)).cell? ⟨w.heap.size, 0, none⟩ = some (.int .i64 p) := World.cell?_alloc_at _ _ _ _ rfl
  clear hx hy n0 n1 m0 m1 p0 p1
  go_enter Try.func92, Try.ntmps92
  go_wp2_with (first
    | (go_at_call 93; with_reducible refine (h1 _ hc).mono ?_; rintro e w1 ⟨rfl, rfl⟩; clear h1)
    | (go_at_call 93; with_reducible refine (h2 _ hc).mono ?_; rintro e w1 ⟨rfl, rfl⟩))
  go_ret
  exact ⟨rfl, below_one _ _⟩

set_option maxHeartbeats 400000 in
theorem rof_any (z : Pt) (w : World) :
    Calls Try.prog 90 #[ptV z] w fun e w' => e = .returned (cxV z) ∧ Below w.heap.size w w' := by
  go_enter Try.func90, Try.ntmps90
  go_wp2
  go_ret
  exact ⟨rfl, below_one _ _⟩

set_option maxRecDepth 10000 in
set_option maxHeartbeats 400000 in
theorem rnum_any (z : Pt) (w : World) (a0 : -1000000 ≤ z.1) (a1 : z.1 ≤ 1000000) (b0 : -1000000 ≤ z.2) (b1 : z.2 ≤ 1000000) :
    Calls Try.prog 91 #[cxV z] w fun e w' => e = .returned (ptV z) ∧ Below w.heap.size w w' := by
  have cx := fun W => run_convert_float_int (P := Try.prog) W 106 3 .f64 .i64 (fr z.1) z.1 (by kernel_rfl) Try.underlying3 (fl_toInt (fr_fl _ (by omega)) (by omega) (by omega))
  have cy := fun W => run_convert_float_int (P := Try.prog) W 106 3 .f64 .i64 (fr z.2) z.2 (by kernel_rfl) Try.underlying3 (fl_toInt (fr_fl _ (by omega)) (by omega) (by omega))
  go_enter Try.func91, Try.ntmps91
  go_wp2
  exact bodyPost_ret (v := ptV z) (by simp [results, Try.results91, go_sem]) rfl ⟨rfl, below_one _ _⟩
end Go.Proofs.Ytebhojbllhjkeaa
