/- RotorLaws: turns are skipped together as one by one, what comes is right, and behind the tail and the loop all is as behind the tail (printed by wip/rotorlaws.py). -/
import Derived.Test.YtebhojbllhjkeaaRotorLaw
import Derived.ProofKit
import Derived.OpenShut
import Derived.Deep.DeepCutAuto
import Derived.ChangeOld
namespace Go.Proofs.Ytebhojbllhjkeaa.rotorLaws
open Go.ChangeShapes Go.WideShapes Go.ChangeAt Go.RowKit
set_option linter.all false

/-- a Skip that is told by its number -/
abbrev Skips (z a c : Pt) (p n : Int) (y : Pt) : Prop := ∀ W : World, Calls Try.prog 60 #[rotV z a c p, .int .i64 n] W fun e w' => e = .returned (.tuple #[rotV y a c p, .bool true]) ∧ Below W.heap.size W w'

theorem lm_setHead {w W : World} {r s : Rot} {B : Nat} {G : List (Nat × Rot)} (h : LM w W r ((B, s) :: G)) (s' : Rot) (hG : ∀ x ∈ G, x.1 ≠ B) (hw : w.heap.size < B ∨ w.heap.size < B) : LM w (set7 W B s'.1 s'.2.1 s'.2.2.1 s'.2.2.2) r ((B, s') :: G) := by
  have hw : w.heap.size < B := hw.elim id id
  refine ⟨h.b.far7 (by omega), fun x hx => ?_, below_set7 h.bel (by omega)⟩
  rcases List.mem_cons.1 hx with rfl | hx
  · exact (h.g (B, s) (by simp)).set7
  · exact (h.g x (List.mem_cons_of_mem _ hx)).far7 (hG x hx)

theorem pt_ne {y z : Pt} (h : y ≠ z) : y.1 ≠ z.1 ∨ (y.1 = z.1 ∧ y.2 ≠ z.2) := by
  by_cases h1 : y.1 = z.1
  · exact .inr ⟨h1, fun h2 => h (Prod.ext h1 h2)⟩
  · exact .inl h1

set_option maxRecDepth 100000 in
set_option maxHeartbeats 4000000 in
theorem walk (z a c : Pt) (p : Int) (n m : Nat) (w : World) (h : rrB z a c p = true) (hn : (n : Int) ≤ 1073741824) (hm : (m : Int) ≤ 1073741824) (hp : p ≤ 60) :
    Calls Try.prog 10 #[rotV z a c p, .int .i64 n, .int .i64 m] w fun e w' => e = .returned (.bool true) ∧ Below w.heap.size w w' := by
  obtain ⟨hpp, hz, ha, hcc⟩ := of_rrB h
  obtain ⟨t, l, htl, ho⟩ := orbit_rotor hpp.1 a c hz
  have p2 : 4 ≤ p * p ∧ p * p ≤ 3600 := ⟨Int.mul_le_mul (a := 2) (b := 2) hpp.1 hpp.1 (by omega) (by omega), Int.mul_le_mul (c := 60) (d := 60) hp hp (by omega) (by omega)⟩
  have cy := fun W => rcycle_yes z a c p t l W h ho htl
  have hl := ho.1
  have hit : ∀ k, rrB (it (ap a c p) k z) a c p = true := fun k => rrB_it h k
  have hrb := fun W => rright_any (it (ap a c p) (n + m) z) a c p W
  rw [hit] at hrb
  have hri := fun W => rright_any z a c p W
  rw [h] at hri
  have s1 : Skips z a c p n (it (ap a c p) n z) := fun W => rskip_yes z a c p n W h (by omega)
  have s2 : Skips (it (ap a c p) n z) a c p m (it (ap a c p) (n + m) z) := fun W => by rw [it_add]; exact rskip_yes _ a c p m W (hit n) (by omega)
  have s3 : Skips z a c p ((n : Int) + m) (it (ap a c p) (n + m) z) := fun W => by rw [← Int.natCast_add]; exact rskip_yes z a c p (n + m) W h (by omega)
  have s4 : ∀ W : World, Calls Try.prog 58 #[rotV (it (ap a c p) n z) a c p] W fun e w' => e = .returned (.tuple #[rotV (it (ap a c p) (n + 1) z) a c p, .bool true]) ∧ Below W.heap.size W w' := fun W => by rw [it_succ]; exact rnext_yes _ a c p W (hit n)
  have s5 : Skips z a c p ((n : Int) + 1) (it (ap a c p) (n + 1) z) := fun W => rskip_yes z a c p (n + 1) W h (by omega)
  have s6 : Skips z a c p t (it (ap a c p) t z) := fun W => rskip_yes z a c p t W h (by omega)
  have e7 : it (ap a c p) t z = it (ap a c p) (t + l) z := (ho.2 t (t + l) (by omega)).2 ⟨Nat.le_refl _, by rw [show t + l - t = l by omega]; exact ⟨1, by omega⟩⟩
  have s7 : Skips z a c p ((t : Int) + l) (it (ap a c p) t z) := fun W => by rw [e7, ← Int.natCast_add]; exact rskip_yes z a c p (t + l) W h (by omega)
  have hmod : n % l ≤ n := Nat.mod_le _ _
  have e8 : it (ap a c p) (t + n) z = it (ap a c p) (t + n % l) z := by
    by_cases hlt : n % l = n
    · rw [hlt]
    · refine ((ho.2 (t + n % l) (t + n) (by omega)).2 ⟨by omega, ?_⟩).symm
      rw [show t + n - (t + n % l) = n - n % l by omega]
      exact Nat.dvd_sub_mod n
  have s8 : Skips z a c p ((t : Int) + ((n % l : Nat) : Int)) (it (ap a c p) (t + n) z) := fun W => by rw [e8, ← Int.natCast_add]; exact rskip_yes z a c p (t + n % l) W h (by omega)
  have s9 : Skips z a c p ((t : Int) + n) (it (ap a c p) (t + n) z) := fun W => by rw [← Int.natCast_add]; exact rskip_yes z a c p (t + n) W h (by omega)
  have s10 : 0 < t → Skips z a c p ((t : Int) - 1) (it (ap a c p) (t - 1) z) := fun h0 W => by rw [show (t : Int) - 1 = ((t - 1 : Nat) : Int) by omega]; exact rskip_yes z a c p (t - 1) W h (by omega)
  have s11 : 0 < t → Skips z a c p ((t : Int) + l - 1) (it (ap a c p) (t + l - 1) z) := fun h0 W => by rw [show (t : Int) + l - 1 = ((t + l - 1 : Nat) : Int) by omega]; exact rskip_yes z a c p (t + l - 1) W h (by omega)
  have e11 : 0 < t → it (ap a c p) (t - 1) z ≠ it (ap a c p) (t + l - 1) z := fun h0 he => by
    have := ((ho.2 (t - 1) (t + l - 1) (by omega)).1 he).1
    omega
  have hmt : (n : Int).tmod l = ((n % l : Nat) : Int) := Int.ofNat_tmod n l
  have s8 : Skips z a c p ((t : Int) + (n : Int).tmod l) (it (ap a c p) (t + n) z) := by rw [hmt]; exact s8
  have Hr2 : IntKind.i64.wrap ((t : Int) + (n : Int).tmod l) = (t : Int) + (n : Int).tmod l := by rw [hmt, IntKind.wrap_i64]; omega
  have Hr := Lib.hid (And.intro Hr2 (show ¬ l = 0 by omega))
  have htl3 : (t : Int) + l ≤ 3600 := by omega
  have hcmp : decide (p * p < (t : Int) + l) = false := decide_eq_false (by omega)
  clear e7 e8 ho hit Hr2 hmod hmt
  generalize it (ap a c p) n z = X1 at *
  generalize it (ap a c p) (n + m) z = X2 at *
  generalize it (ap a c p) (n + 1) z = X3 at *
  generalize it (ap a c p) t z = X4 at *
  generalize it (ap a c p) (t + n) z = X5 at *
  generalize it (ap a c p) (t - 1) z = X6 at *
  generalize it (ap a c p) (t + l - 1) z = X7 at *
  clear htl hz ha hcc
  have ow := fun W => own05 z a c p W
  have St0 := Lib.hid (LM.new w (z, a, c, p) 73)
  go_enter Try.func10, Try.ntmps10
  go_upto_region 2 with (go_at_call 53; with_reducible refine (ow _).mono ?_; rintro e w2 ⟨rfl, hb2⟩)
  refine wp_gen (fun W => LM w W (z, a, c, p) ((w2.heap.size, (z, a, c, p)) :: [])) (St0.out.push hb2 (z, a, c, p) _) ?_
  clear St0 hb2
  intro W hM
  generalize w2.heap.size = g0 at *
  clear w2
  obtain ⟨x0, x1, x2, x3, x4, x5, x6⟩ := (hM.g (g0, (z, a, c, p)) (by simp)).all
  have d1 : decide ((n : Int) < 0) = false := decide_eq_false (by omega)
  have d2 : decide ((1073741824 : Int) < n) = false := decide_eq_false (by omega)
  have d3 : decide ((m : Int) < 0) = false := decide_eq_false (by omega)
  have d4 : decide ((1073741824 : Int) < m) = false := decide_eq_false (by omega)
  have d5 : decide ((60 : Int) < p) = false := decide_eq_false (by omega)
  go_upto_region 4 with (go_at_call 62; with_reducible refine (hri _).mono ?_; rintro e w2 ⟨rfl, hb2⟩; have hM2 := hM.up hb2; have y6 := (hM2.g (g0, (z, a, c, p)) (by simp)).x6)
  refine wp_gen (fun W => LM w W (z, a, c, p) ((g0, (z, a, c, p)) :: [])) hM2 ?_
  clear hM hM2 y6 hb2 x0 x1 x2 x3 x4 x5 x6 d1 d2 d3 d4 d5
  intro W hM
  clear w2
  obtain ⟨x0, x1, x2, x3, x4, x5, x6⟩ := (hM.g (g0, (z, a, c, p)) (by simp)).all
  go_upto_region 5 with (go_at_call 60; with_reducible refine (s1 _).mono ?_; rintro e w2 ⟨rfl, hb2⟩)
  refine wp_gen (fun W => LM w W (z, a, c, p) ((w2.heap.size, (X1, a, c, p)) :: (g0, (z, a, c, p)) :: [])) (hM.push hb2 (X1, a, c, p) _) ?_
  clear hM hb2 x0 x1 x2 x3 x4 x5 x6
  intro W hM
  generalize w2.heap.size = g1 at *
  clear w2
  obtain ⟨x0, x1, x2, x3, x4, x5, x6⟩ := (hM.g (g1, (X1, a, c, p)) (by simp)).all
  go_upto_region 6 with (go_at_call 60; with_reducible refine (s2 _).mono ?_; rintro e w2 ⟨rfl, hb2⟩)
  refine wp_gen (fun W => LM w W (z, a, c, p) ((w2.heap.size, (X2, a, c, p)) :: (g1, (X1, a, c, p)) :: (g0, (z, a, c, p)) :: [])) (hM.push hb2 (X2, a, c, p) _) ?_
  clear hM hb2 x0 x1 x2 x3 x4 x5 x6
  intro W hM
  generalize w2.heap.size = g2 at *
  clear w2
  obtain ⟨x0, x1, x2, x3, x4, x5, x6⟩ := (hM.g (g0, (z, a, c, p)) (by simp)).all
  go_upto_region 7 with (go_at_call 60; with_reducible refine (s3 _).mono ?_; rintro e w2 ⟨rfl, hb2⟩)
  refine wp_gen (fun W => LM w W (z, a, c, p) ((w2.heap.size, (X2, a, c, p)) :: (g2, (X2, a, c, p)) :: (g1, (X1, a, c, p)) :: (g0, (z, a, c, p)) :: [])) (hM.push hb2 (X2, a, c, p) _) ?_
  clear hM hb2 x0 x1 x2 x3 x4 x5 x6
  intro W hM
  generalize w2.heap.size = g3 at *
  clear w2
  obtain ⟨x0, x1, x2, x3, x4, x5, x6⟩ := (hM.g (g1, (X1, a, c, p)) (by simp)).all
  go_upto_region 8 with (go_at_call 58; with_reducible refine (s4 _).mono ?_; rintro e w2 ⟨rfl, hb2⟩)
  refine wp_gen (fun W => LM w W (z, a, c, p) ((w2.heap.size, (X3, a, c, p)) :: (g3, (X2, a, c, p)) :: (g2, (X2, a, c, p)) :: (g1, (X1, a, c, p)) :: (g0, (z, a, c, p)) :: [])) (hM.push hb2 (X3, a, c, p) _) ?_
  clear hM hb2 x0 x1 x2 x3 x4 x5 x6
  intro W hM
  generalize w2.heap.size = g4 at *
  clear w2
  obtain ⟨x0, x1, x2, x3, x4, x5, x6⟩ := (hM.g (g0, (z, a, c, p)) (by simp)).all
  go_upto_region 9 with (go_at_call 60; with_reducible refine (s5 _).mono ?_; rintro e w2 ⟨rfl, hb2⟩)
  refine wp_gen (fun W => LM w W (z, a, c, p) ((w2.heap.size, (X3, a, c, p)) :: (g4, (X3, a, c, p)) :: (g3, (X2, a, c, p)) :: (g2, (X2, a, c, p)) :: (g1, (X1, a, c, p)) :: (g0, (z, a, c, p)) :: [])) (hM.push hb2 (X3, a, c, p) _) ?_
  clear hM hb2 x0 x1 x2 x3 x4 x5 x6
  intro W hM
  generalize w2.heap.size = g5 at *
  clear w2
  obtain ⟨x0, x1, x2, x3, x4, x5, x6⟩ := (hM.g (g2, (X2, a, c, p)) (by simp)).all
  obtain ⟨y0, y1, y2, y3, y4, y5, y6⟩ := (hM.g (g3, (X2, a, c, p)) (by simp)).all
  obtain ⟨u0, u1, u2, u3, u4, u5, u6⟩ := (hM.g (g4, (X3, a, c, p)) (by simp)).all
  obtain ⟨v0, v1, v2, v3, v4, v5, v6⟩ := (hM.g (g5, (X3, a, c, p)) (by simp)).all
  go_upto_region 11 with (go_at_call 62; with_reducible refine (hrb _).mono ?_; rintro e w2 ⟨rfl, hb2⟩)
  refine wp_gen (fun W => LM w W (z, a, c, p) ((g5, (X3, a, c, p)) :: (g4, (X3, a, c, p)) :: (g3, (X2, a, c, p)) :: (g2, (X2, a, c, p)) :: (g1, (X1, a, c, p)) :: (g0, (z, a, c, p)) :: [])) (hM.up hb2) ?_
  clear hM hb2
  clear x0 x1 x2 x3 x4 x5 x6 y0 y1 y2 y3 y4 y5 y6 u0 u1 u2 u3 u4 u5 u6 v0 v1 v2 v3 v4 v5 v6
  intro W hM
  clear w2
  obtain ⟨x0, x1, x2, x3, x4, x5, x6⟩ := (hM.g (g0, (z, a, c, p)) (by simp)).all
  have hll : decide ((l : Int) < 1) = false := decide_eq_false (by omega)
  have htt : decide ((t : Int) < 0) = false := decide_eq_false (by omega)
  have w1 : IntKind.i64.wrap (p * p) = p * p := by rw [IntKind.wrap_i64]; omega
  go_upto_region 12 with (go_at_call 55; with_reducible refine (cy _).mono ?_; rintro e w2 ⟨rfl, hb2⟩)
  have hM2 := hM.up hb2
  clear x0 x1 x2 x3 x4 x5 x6
  obtain ⟨x0, x1, x2, x3, x4, x5, x6⟩ := (hM2.g (g0, (z, a, c, p)) (by simp)).all
  go_upto_region 14 with fail
  refine wp_gen (fun W => LM w W (z, a, c, p) ((g5, (X3, a, c, p)) :: (g4, (X3, a, c, p)) :: (g3, (X2, a, c, p)) :: (g2, (X2, a, c, p)) :: (g1, (X1, a, c, p)) :: (g0, (z, a, c, p)) :: [])) hM2 ?_
  clear hM hM2 hb2 hll htt w1 hcmp p2
  clear x0 x1 x2 x3 x4 x5 x6
  intro W hM
  clear w2
  obtain ⟨x0, x1, x2, x3, x4, x5, x6⟩ := (hM.g (g0, (z, a, c, p)) (by simp)).all
  go_upto_region 15 with (go_at_call 60; with_reducible refine (s6 _).mono ?_; rintro e w2 ⟨rfl, hb2⟩)
  refine wp_gen (fun W => LM w W (z, a, c, p) ((w2.heap.size, (X4, a, c, p)) :: (g5, (X3, a, c, p)) :: (g4, (X3, a, c, p)) :: (g3, (X2, a, c, p)) :: (g2, (X2, a, c, p)) :: (g1, (X1, a, c, p)) :: (g0, (z, a, c, p)) :: [])) (hM.push hb2 (X4, a, c, p) _) ?_
  clear hM hb2 x0 x1 x2 x3 x4 x5 x6
  intro W hM
  generalize w2.heap.size = g6 at *
  clear w2
  obtain ⟨x0, x1, x2, x3, x4, x5, x6⟩ := (hM.g (g0, (z, a, c, p)) (by simp)).all
  go_upto_region 16 with (go_at_call 60; with_reducible refine (s7 _).mono ?_; rintro e w2 ⟨rfl, hb2⟩)
  refine wp_gen (fun W => LM w W (z, a, c, p) ((w2.heap.size, (X4, a, c, p)) :: (g6, (X4, a, c, p)) :: (g5, (X3, a, c, p)) :: (g4, (X3, a, c, p)) :: (g3, (X2, a, c, p)) :: (g2, (X2, a, c, p)) :: (g1, (X1, a, c, p)) :: (g0, (z, a, c, p)) :: [])) (hM.push hb2 (X4, a, c, p) _) ?_
  clear hM hb2 x0 x1 x2 x3 x4 x5 x6
  intro W hM
  generalize w2.heap.size = g7 at *
  clear w2
  obtain ⟨x0, x1, x2, x3, x4, x5, x6⟩ := (hM.g (g0, (z, a, c, p)) (by simp)).all
  obtain ⟨r2, r3⟩ := Hr.out
  go_cut [25] (fun v wx => ∃ g, v = .pointer (some ⟨g, 0, none⟩) ∧ LM w wx (z, a, c, p) ((g, (X5, a, c, p)) :: (g7, (X4, a, c, p)) :: (g6, (X4, a, c, p)) :: (g5, (X3, a, c, p)) :: (g4, (X3, a, c, p)) :: (g3, (X2, a, c, p)) :: (g2, (X2, a, c, p)) :: (g1, (X1, a, c, p)) :: (g0, (z, a, c, p)) :: []))
  case first =>
    refine wp_region_noPanic ?_
    refine wp_region_held_drew (S := fun W => Rot7 W g0 z a c p) (by kernel_rfl) ((hM.drew.g (g0, (z, a, c, p)) (by simp)).all) (fun hHeld => ?_)
    refine wpAnyH_take (i := 0) (oi := _) (v := ?_) rfl (by kernel_rfl) (by kernel_rfl) (by kernel_rfl) (fun _ _ _ h => h) (Or.inl ⟨by rfl, ?_⟩) (by assumption) ?_
    rotate_left
    · intro w hSw; (try dsimp only at hSw); go_simp; try with_reducible rfl
    try simp only [Act.put, List.setIfInBounds_toArray, List.set_cons_zero, List.set_cons_succ]
    refine wpAnyH_take (i := 1) (oi := _) (v := ?_) rfl (by kernel_rfl) (by kernel_rfl) (by kernel_rfl) (fun _ _ _ h => h) (Or.inl ⟨by rfl, ?_⟩) (by assumption) ?_
    rotate_left
    · intro w hSw; (try dsimp only at hSw); go_simp; try with_reducible rfl
    try simp only [Act.put, List.setIfInBounds_toArray, List.set_cons_zero, List.set_cons_succ]
    refine wpAnyH_take (i := 2) (oi := _) (v := ?_) rfl (by kernel_rfl) (by kernel_rfl) (by kernel_rfl) (fun _ _ _ h => h) (Or.inl ⟨by rfl, ?_⟩) (by assumption) ?_
    rotate_left
    · intro w hSw; (try dsimp only at hSw); go_simp; try with_reducible rfl
    try simp only [Act.put, List.setIfInBounds_toArray, List.set_cons_zero, List.set_cons_succ]
    refine wpAnyH_take (i := 3) (oi := _) (v := ?_) rfl (by kernel_rfl) (by kernel_rfl) (by kernel_rfl) (fun _ _ _ h => h) (Or.inl ⟨by rfl, ?_⟩) (by assumption) ?_
    rotate_left
    · intro w hSw; (try dsimp only at hSw); go_simp; try with_reducible rfl
    try simp only [Act.put, List.setIfInBounds_toArray, List.set_cons_zero, List.set_cons_succ]
    refine wpAnyH_take (i := 4) (oi := _) (v := ?_) rfl (by kernel_rfl) (by kernel_rfl) (by kernel_rfl) (fun _ _ _ h => h) (Or.inl ⟨by rfl, ?_⟩) (by assumption) ?_
    rotate_left
    · intro w hSw; (try dsimp only at hSw); go_simp; try with_reducible rfl
    try simp only [Act.put, List.setIfInBounds_toArray, List.set_cons_zero, List.set_cons_succ]
    refine wpAnyH_take (i := 5) (oi := _) (v := ?_) rfl (by kernel_rfl) (by kernel_rfl) (by kernel_rfl) (fun _ _ _ h => h) (Or.inl ⟨by rfl, ?_⟩) (by assumption) ?_
    rotate_left
    · intro w hSw; (try dsimp only at hSw); go_simp; try with_reducible rfl
    try simp only [Act.put, List.setIfInBounds_toArray, List.set_cons_zero, List.set_cons_succ]
    refine wpAnyH_ready (rs := [6, 10]) (by kernel_rfl) (by simp) ?_
    refine AllReadyH.cons (o := _) rfl (fun K hK => ?_) ?_
    · go_simp
      go_at_call 60
      with_reducible refine (s8 _).mono ?_
      rintro e w2 ⟨rfl, hb2⟩
      have hM2 := hM.drew.up hb2
      refine hK.out _ _ ((hM2.g (g0, (z, a, c, p)) (by simp)).all) (fun hHeld => ?_)
      clear hK K
      try simp only [Act.put, List.setIfInBounds_toArray, List.set_cons_zero, List.set_cons_succ]
      refine wpAnyH_take (i := 7) (oi := _) (v := ?_) rfl (by kernel_rfl) (by kernel_rfl) (by kernel_rfl) (fun _ _ _ h => h) (Or.inl ⟨by rfl, ?_⟩) (by assumption) ?_
      rotate_left
      · intro w hSw; (try dsimp only at hSw); go_simp; try with_reducible rfl
      try simp only [Act.put, List.setIfInBounds_toArray, List.set_cons_zero, List.set_cons_succ]
      refine wpAnyH_take (i := 8) (oi := _) (v := ?_) rfl (by kernel_rfl) (by kernel_rfl) (by kernel_rfl) (fun _ _ _ h => h) (Or.inl ⟨by rfl, ?_⟩) (by assumption) ?_
      rotate_left
      · intro w hSw; (try dsimp only at hSw); go_simp; try with_reducible rfl
      try simp only [Act.put, List.setIfInBounds_toArray, List.set_cons_zero, List.set_cons_succ]
      refine wpAnyH_take (i := 9) (oi := _) (v := ?_) rfl (by kernel_rfl) (by kernel_rfl) (by kernel_rfl) (fun _ _ _ h => h) (Or.inl ⟨by rfl, ?_⟩) (by assumption) ?_
      rotate_left
      · intro w hSw; (try dsimp only at hSw); go_simp; try with_reducible rfl
      try simp only [Act.put, List.setIfInBounds_toArray, List.set_cons_zero, List.set_cons_succ]
      refine wpAnyH_ready (rs := [10]) (by kernel_rfl) (by simp) ?_
      refine AllReadyH.cons (o := _) rfl (fun K hK => ?_) AllReadyH.nil
      go_simp
      refine hK.out _ _ (((hM2.up (below_one _ _)).g (g0, (z, a, c, p)) (by simp)).all) (fun hHeld => ?_)
      clear hK K
      try simp only [Act.put, List.setIfInBounds_toArray, List.set_cons_zero, List.set_cons_succ]
      have hM4 := hM2.push (Below.refl _ _) (X5, a, c, p) 75
      refine wpAnyH_ready (rs := [11]) (by kernel_rfl) (by simp) ?_
      refine AllReadyH.cons (o := _) rfl (fun K hK => ?_) AllReadyH.nil
      go_simp
      refine hK.out _ _ ((hM4.g (g0, (z, a, c, p)) (by simp)).all) (fun hHeld => ?_)
      clear hK K
      try simp only [Act.put, List.setIfInBounds_toArray, List.set_cons_zero, List.set_cons_succ]
      refine wpAnyH_take (i := 12) (oi := _) (v := ?_) rfl (by kernel_rfl) (by kernel_rfl) (by kernel_rfl) (fun _ _ _ h => h) (Or.inl ⟨by rfl, ?_⟩) (by assumption) ?_
      rotate_left
      · intro w hSw; (try dsimp only at hSw); go_simp; try with_reducible rfl
      try simp only [Act.put, List.setIfInBounds_toArray, List.set_cons_zero, List.set_cons_succ]
      try simp only [List.getElem_toArray, List.getElem_cons_succ, List.getElem_cons_zero]
      refine wpAnyH_done (by kernel_rfl) ?_ _
      refine NoPanic.normal ?_
      go_wp2
      go_meet
      case rel => exact ⟨_, rfl, hM4⟩
    refine AllReadyH.cons (o := _) rfl (fun K hK => ?_) AllReadyH.nil
    go_simp
    have hMz := LM.push hM.drew (Below.refl _ _) ((0, 0), (0, 0), (0, 0), 0) 75
    refine hK.out _ _ ((hMz.g (g0, (z, a, c, p)) (by simp)).all) (fun hHeld => ?_)
    clear hK K
    try simp only [Act.put, List.setIfInBounds_toArray, List.set_cons_zero, List.set_cons_succ]
    refine wpAnyH_ready (rs := [6]) (by kernel_rfl) (by simp) ?_
    refine AllReadyH.cons (o := _) rfl (fun K hK => ?_) AllReadyH.nil
    go_simp
    go_at_call 60
    with_reducible refine (s8 _).mono ?_
    rintro e w2 ⟨rfl, hb2⟩
    have hM3 := hMz.up hb2
    obtain ⟨y0, y1, y2, y3, y4, y5, y6, q0, q1, q2, q3, q4, q5, q6⟩ := hM3.g (W.heap.size, ((0, 0), (0, 0), (0, 0), 0)) (by simp)
    refine hK.out _ _ ((hM3.g (g0, (z, a, c, p)) (by simp)).all) (fun hHeld => ?_)
    clear hK K
    try simp only [Act.put, List.setIfInBounds_toArray, List.set_cons_zero, List.set_cons_succ]
    refine wpAnyH_take (i := 7) (oi := _) (v := ?_) rfl (by kernel_rfl) (by kernel_rfl) (by kernel_rfl) (fun _ _ _ h => h) (Or.inl ⟨by rfl, ?_⟩) (by assumption) ?_
    rotate_left
    · intro w hSw; (try dsimp only at hSw); go_simp; try with_reducible rfl
    try simp only [Act.put, List.setIfInBounds_toArray, List.set_cons_zero, List.set_cons_succ]
    refine wpAnyH_take (i := 8) (oi := _) (v := ?_) rfl (by kernel_rfl) (by kernel_rfl) (by kernel_rfl) (fun _ _ _ h => h) (Or.inl ⟨by rfl, ?_⟩) (by assumption) ?_
    rotate_left
    · intro w hSw; (try dsimp only at hSw); go_simp; try with_reducible rfl
    try simp only [Act.put, List.setIfInBounds_toArray, List.set_cons_zero, List.set_cons_succ]
    refine wpAnyH_take (i := 9) (oi := _) (v := ?_) rfl (by kernel_rfl) (by kernel_rfl) (by kernel_rfl) (fun _ _ _ h => h) (Or.inl ⟨by rfl, ?_⟩) (by assumption) ?_
    rotate_left
    · intro w hSw; (try dsimp only at hSw); go_simp; try with_reducible rfl
    try simp only [Act.put, List.setIfInBounds_toArray, List.set_cons_zero, List.set_cons_succ]
    have hM4 := lm_setHead hM3 (X5, a, c, p) (fun x hx => Nat.ne_of_lt (hM.g x hx).lt) (.inl hM.b.lt)
    refine wpAnyH_ready (rs := [11]) (by kernel_rfl) (by simp) ?_
    refine AllReadyH.cons (o := _) rfl (fun K hK => ?_) AllReadyH.nil
    go_simp
    refine hK.out _ _ ((hM4.g (g0, (z, a, c, p)) (by simp)).all) (fun hHeld => ?_)
    clear hK K
    try simp only [Act.put, List.setIfInBounds_toArray, List.set_cons_zero, List.set_cons_succ]
    refine wpAnyH_take (i := 12) (oi := _) (v := ?_) rfl (by kernel_rfl) (by kernel_rfl) (by kernel_rfl) (fun _ _ _ h => h) (Or.inl ⟨by rfl, ?_⟩) (by assumption) ?_
    rotate_left
    · intro w hSw; (try dsimp only at hSw); go_simp; try with_reducible rfl
    try simp only [Act.put, List.setIfInBounds_toArray, List.set_cons_zero, List.set_cons_succ]
    try simp only [List.getElem_toArray, List.getElem_cons_succ, List.getElem_cons_zero]
    refine wpAnyH_done (by kernel_rfl) ?_ _
    refine NoPanic.normal ?_
    go_wp2
    go_meet
    case rel => exact ⟨_, rfl, hM4⟩
  case rest =>
    obtain ⟨g8, rfl, hM2⟩ := hcut
    clear hM s8 r2 r3 Hr x0 x1 x2 x3 x4 x5 x6
    rename_i W0 W
    have hM := hM2
    clear hM2
    obtain ⟨x0, x1, x2, x3, x4, x5, x6⟩ := (hM.g (g0, (z, a, c, p)) (by simp)).all
    go_upto_region 18 with (go_at_call 60; with_reducible refine (s9 _).mono ?_; rintro e w2 ⟨rfl, hb2⟩)
    refine wp_gen (fun W => LM w W (z, a, c, p) ((w2.heap.size, (X5, a, c, p)) :: (g8, (X5, a, c, p)) :: (g7, (X4, a, c, p)) :: (g6, (X4, a, c, p)) :: (g5, (X3, a, c, p)) :: (g4, (X3, a, c, p)) :: (g3, (X2, a, c, p)) :: (g2, (X2, a, c, p)) :: (g1, (X1, a, c, p)) :: (g0, (z, a, c, p)) :: [])) (hM.push hb2 (X5, a, c, p) _) ?_
    clear hM hb2 x0 x1 x2 x3 x4 x5 x6
    intro W hM
    generalize w2.heap.size = g9 at *
    clear w2
    obtain ⟨x0, x1, x2, x3, x4, x5, x6⟩ := (hM.g (g6, (X4, a, c, p)) (by simp)).all
    obtain ⟨y0, y1, y2, y3, y4, y5, y6⟩ := (hM.g (g7, (X4, a, c, p)) (by simp)).all
    obtain ⟨u0, u1, u2, u3, u4, u5, u6⟩ := (hM.g (g8, (X5, a, c, p)) (by simp)).all
    obtain ⟨v0, v1, v2, v3, v4, v5, v6⟩ := (hM.g (g9, (X5, a, c, p)) (by simp)).all
    go_upto_region 20 with fail
    clear x0 x1 x2 x3 x4 x5 x6 y0 y1 y2 y3 y4 y5 y6 u0 u1 u2 u3 u4 u5 u6 v0 v1 v2 v3 v4 v5 v6
    by_cases h0 : 0 < t
    · have s10 := s10 h0
      have s11 := s11 h0
      have e11 := e11 h0
      have dt : decide ((0 : Int) < t) = true := decide_eq_true (by omega)
      go_upto_region 21 with fail
      obtain ⟨x0, x1, x2, x3, x4, x5, x6⟩ := (hM.g (g0, (z, a, c, p)) (by simp)).all
      go_upto_region 22 with (go_at_call 60; with_reducible refine (s10 _).mono ?_; rintro e w2 ⟨rfl, hb2⟩)
      refine wp_gen (fun W => LM w W (z, a, c, p) ((w2.heap.size, (X6, a, c, p)) :: (g9, (X5, a, c, p)) :: (g8, (X5, a, c, p)) :: (g7, (X4, a, c, p)) :: (g6, (X4, a, c, p)) :: (g5, (X3, a, c, p)) :: (g4, (X3, a, c, p)) :: (g3, (X2, a, c, p)) :: (g2, (X2, a, c, p)) :: (g1, (X1, a, c, p)) :: (g0, (z, a, c, p)) :: [])) (hM.push hb2 (X6, a, c, p) _) ?_
      clear hM hb2 x0 x1 x2 x3 x4 x5 x6
      intro W hM
      generalize w2.heap.size = g10 at *
      clear w2
      obtain ⟨x0, x1, x2, x3, x4, x5, x6⟩ := (hM.g (g0, (z, a, c, p)) (by simp)).all
      go_upto_region 23 with (go_at_call 60; with_reducible refine (s11 _).mono ?_; rintro e w2 ⟨rfl, hb2⟩)
      refine wp_gen (fun W => LM w W (z, a, c, p) ((w2.heap.size, (X7, a, c, p)) :: (g10, (X6, a, c, p)) :: (g9, (X5, a, c, p)) :: (g8, (X5, a, c, p)) :: (g7, (X4, a, c, p)) :: (g6, (X4, a, c, p)) :: (g5, (X3, a, c, p)) :: (g4, (X3, a, c, p)) :: (g3, (X2, a, c, p)) :: (g2, (X2, a, c, p)) :: (g1, (X1, a, c, p)) :: (g0, (z, a, c, p)) :: [])) (hM.push hb2 (X7, a, c, p) _) ?_
      clear hM hb2 x0 x1 x2 x3 x4 x5 x6
      intro W hM
      generalize w2.heap.size = g11 at *
      clear w2
      obtain ⟨x0, x1, x2, x3, x4, x5, x6⟩ := (hM.g (g10, (X6, a, c, p)) (by simp)).all
      obtain ⟨y0, y1, y2, y3, y4, y5, y6⟩ := (hM.g (g11, (X7, a, c, p)) (by simp)).all
      rcases pt_ne e11 with hne | ⟨he1, hne⟩
      all_goals
        go_wp2_with (go_at_call 51; refine (alive05 _).mono ?_; rintro e w2 ⟨rfl, hb2⟩)
        go_ret
        exact ⟨rfl, below_trans hM.bel hb2⟩
    · have dt : decide ((0 : Int) < t) = false := decide_eq_false (by omega)
      go_wp2_with (go_at_call 51; refine (alive05 _).mono ?_; rintro e w2 ⟨rfl, hb2⟩)
      go_ret
      exact ⟨rfl, below_trans hM.bel hb2⟩

set_option maxRecDepth 100000 in
set_option maxHeartbeats 1000000 in
theorem early_r (z a c : Pt) (p n m : Int) (w : World) (hr : rrB z a c p = false) :
    Calls Try.prog 10 #[rotV z a c p, .int .i64 n, .int .i64 m] w fun e w' => e = .returned (.bool true) ∧ Below w.heap.size w w' := by
  have hri := fun W => rright_any z a c p W
  rw [hr] at hri
  have ow := fun W => own05 z a c p W
  have St0 := Lib.hid (LM.new w (z, a, c, p) 73)
  go_enter Try.func10, Try.ntmps10
  go_upto_region 2 with (go_at_call 53; with_reducible refine (ow _).mono ?_; rintro e w2 ⟨rfl, hb2⟩)
  refine wp_gen (fun W => LM w W (z, a, c, p) ((w2.heap.size, (z, a, c, p)) :: [])) (St0.out.push hb2 (z, a, c, p) _) ?_
  clear St0 hb2
  intro W hM
  generalize w2.heap.size = g0 at *
  clear w2
  obtain ⟨x0, x1, x2, x3, x4, x5, x6⟩ := (hM.g (g0, (z, a, c, p)) (by simp)).all
  go_wp2_with (first
    | (go_at_call 62; with_reducible refine (hri _).mono ?_; rintro e w2 ⟨rfl, hb2⟩; have hM2 := hM.up hb2; have y6 := (hM2.g (g0, (z, a, c, p)) (by simp)).x6)
    | (go_at_call 51; with_reducible refine (alive05 _).mono ?_; rintro e w3 ⟨rfl, hb3⟩))
  go_ret
  exact ⟨rfl, below_trans hM2.bel hb3⟩

set_option maxRecDepth 100000 in
set_option maxHeartbeats 1000000 in
theorem early_a (z a c : Pt) (p n m : Int) (w : World)  (hr : rrB z a c p = true) (d0 : decide (n < 0) = true) :
    Calls Try.prog 10 #[rotV z a c p, .int .i64 n, .int .i64 m] w fun e w' => e = .returned (.bool true) ∧ Below w.heap.size w w' := by
  have hri := fun W => rright_any z a c p W
  rw [hr] at hri
  have ow := fun W => own05 z a c p W
  have St0 := Lib.hid (LM.new w (z, a, c, p) 73)
  go_enter Try.func10, Try.ntmps10
  go_upto_region 2 with (go_at_call 53; with_reducible refine (ow _).mono ?_; rintro e w2 ⟨rfl, hb2⟩)
  refine wp_gen (fun W => LM w W (z, a, c, p) ((w2.heap.size, (z, a, c, p)) :: [])) (St0.out.push hb2 (z, a, c, p) _) ?_
  clear St0 hb2
  intro W hM
  generalize w2.heap.size = g0 at *
  clear w2
  obtain ⟨x0, x1, x2, x3, x4, x5, x6⟩ := (hM.g (g0, (z, a, c, p)) (by simp)).all
  go_wp2_with (first
    | (go_at_call 62; with_reducible refine (hri _).mono ?_; rintro e w2 ⟨rfl, hb2⟩; have hM2 := hM.up hb2; have y6 := (hM2.g (g0, (z, a, c, p)) (by simp)).x6)
    | (go_at_call 51; with_reducible refine (alive05 _).mono ?_; rintro e w3 ⟨rfl, hb3⟩))
  go_ret
  exact ⟨rfl, below_trans hM2.bel hb3⟩

set_option maxRecDepth 100000 in
set_option maxHeartbeats 1000000 in
theorem early_b (z a c : Pt) (p n m : Int) (w : World)  (hr : rrB z a c p = true) (d0 : decide (n < 0) = false) (d1 : decide ((1073741824 : Int) < n) = true) :
    Calls Try.prog 10 #[rotV z a c p, .int .i64 n, .int .i64 m] w fun e w' => e = .returned (.bool true) ∧ Below w.heap.size w w' := by
  have hri := fun W => rright_any z a c p W
  rw [hr] at hri
  have ow := fun W => own05 z a c p W
  have St0 := Lib.hid (LM.new w (z, a, c, p) 73)
  go_enter Try.func10, Try.ntmps10
  go_upto_region 2 with (go_at_call 53; with_reducible refine (ow _).mono ?_; rintro e w2 ⟨rfl, hb2⟩)
  refine wp_gen (fun W => LM w W (z, a, c, p) ((w2.heap.size, (z, a, c, p)) :: [])) (St0.out.push hb2 (z, a, c, p) _) ?_
  clear St0 hb2
  intro W hM
  generalize w2.heap.size = g0 at *
  clear w2
  obtain ⟨x0, x1, x2, x3, x4, x5, x6⟩ := (hM.g (g0, (z, a, c, p)) (by simp)).all
  go_wp2_with (first
    | (go_at_call 62; with_reducible refine (hri _).mono ?_; rintro e w2 ⟨rfl, hb2⟩; have hM2 := hM.up hb2; have y6 := (hM2.g (g0, (z, a, c, p)) (by simp)).x6)
    | (go_at_call 51; with_reducible refine (alive05 _).mono ?_; rintro e w3 ⟨rfl, hb3⟩))
  go_ret
  exact ⟨rfl, below_trans hM2.bel hb3⟩

set_option maxRecDepth 100000 in
set_option maxHeartbeats 1000000 in
theorem early_c (z a c : Pt) (p n m : Int) (w : World)  (hr : rrB z a c p = true) (d0 : decide (n < 0) = false) (d1 : decide ((1073741824 : Int) < n) = false) (d2 : decide (m < 0) = true) :
    Calls Try.prog 10 #[rotV z a c p, .int .i64 n, .int .i64 m] w fun e w' => e = .returned (.bool true) ∧ Below w.heap.size w w' := by
  have hri := fun W => rright_any z a c p W
  rw [hr] at hri
  have ow := fun W => own05 z a c p W
  have St0 := Lib.hid (LM.new w (z, a, c, p) 73)
  go_enter Try.func10, Try.ntmps10
  go_upto_region 2 with (go_at_call 53; with_reducible refine (ow _).mono ?_; rintro e w2 ⟨rfl, hb2⟩)
  refine wp_gen (fun W => LM w W (z, a, c, p) ((w2.heap.size, (z, a, c, p)) :: [])) (St0.out.push hb2 (z, a, c, p) _) ?_
  clear St0 hb2
  intro W hM
  generalize w2.heap.size = g0 at *
  clear w2
  obtain ⟨x0, x1, x2, x3, x4, x5, x6⟩ := (hM.g (g0, (z, a, c, p)) (by simp)).all
  go_wp2_with (first
    | (go_at_call 62; with_reducible refine (hri _).mono ?_; rintro e w2 ⟨rfl, hb2⟩; have hM2 := hM.up hb2; have y6 := (hM2.g (g0, (z, a, c, p)) (by simp)).x6)
    | (go_at_call 51; with_reducible refine (alive05 _).mono ?_; rintro e w3 ⟨rfl, hb3⟩))
  go_ret
  exact ⟨rfl, below_trans hM2.bel hb3⟩

set_option maxRecDepth 100000 in
set_option maxHeartbeats 1000000 in
theorem early_d (z a c : Pt) (p n m : Int) (w : World)  (hr : rrB z a c p = true) (d0 : decide (n < 0) = false) (d1 : decide ((1073741824 : Int) < n) = false) (d2 : decide (m < 0) = false) (d3 : decide ((1073741824 : Int) < m) = true) :
    Calls Try.prog 10 #[rotV z a c p, .int .i64 n, .int .i64 m] w fun e w' => e = .returned (.bool true) ∧ Below w.heap.size w w' := by
  have hri := fun W => rright_any z a c p W
  rw [hr] at hri
  have ow := fun W => own05 z a c p W
  have St0 := Lib.hid (LM.new w (z, a, c, p) 73)
  go_enter Try.func10, Try.ntmps10
  go_upto_region 2 with (go_at_call 53; with_reducible refine (ow _).mono ?_; rintro e w2 ⟨rfl, hb2⟩)
  refine wp_gen (fun W => LM w W (z, a, c, p) ((w2.heap.size, (z, a, c, p)) :: [])) (St0.out.push hb2 (z, a, c, p) _) ?_
  clear St0 hb2
  intro W hM
  generalize w2.heap.size = g0 at *
  clear w2
  obtain ⟨x0, x1, x2, x3, x4, x5, x6⟩ := (hM.g (g0, (z, a, c, p)) (by simp)).all
  go_wp2_with (first
    | (go_at_call 62; with_reducible refine (hri _).mono ?_; rintro e w2 ⟨rfl, hb2⟩; have hM2 := hM.up hb2; have y6 := (hM2.g (g0, (z, a, c, p)) (by simp)).x6)
    | (go_at_call 51; with_reducible refine (alive05 _).mono ?_; rintro e w3 ⟨rfl, hb3⟩))
  go_ret
  exact ⟨rfl, below_trans hM2.bel hb3⟩

set_option maxRecDepth 100000 in
set_option maxHeartbeats 1000000 in
theorem early_e (z a c : Pt) (p n m : Int) (w : World)  (hr : rrB z a c p = true) (d0 : decide (n < 0) = false) (d1 : decide ((1073741824 : Int) < n) = false) (d2 : decide (m < 0) = false) (d3 : decide ((1073741824 : Int) < m) = false) (d4 : decide ((60 : Int) < p) = true) :
    Calls Try.prog 10 #[rotV z a c p, .int .i64 n, .int .i64 m] w fun e w' => e = .returned (.bool true) ∧ Below w.heap.size w w' := by
  have hri := fun W => rright_any z a c p W
  rw [hr] at hri
  have ow := fun W => own05 z a c p W
  have St0 := Lib.hid (LM.new w (z, a, c, p) 73)
  go_enter Try.func10, Try.ntmps10
  go_upto_region 2 with (go_at_call 53; with_reducible refine (ow _).mono ?_; rintro e w2 ⟨rfl, hb2⟩)
  refine wp_gen (fun W => LM w W (z, a, c, p) ((w2.heap.size, (z, a, c, p)) :: [])) (St0.out.push hb2 (z, a, c, p) _) ?_
  clear St0 hb2
  intro W hM
  generalize w2.heap.size = g0 at *
  clear w2
  obtain ⟨x0, x1, x2, x3, x4, x5, x6⟩ := (hM.g (g0, (z, a, c, p)) (by simp)).all
  go_wp2_with (first
    | (go_at_call 62; with_reducible refine (hri _).mono ?_; rintro e w2 ⟨rfl, hb2⟩; have hM2 := hM.up hb2; have y6 := (hM2.g (g0, (z, a, c, p)) (by simp)).x6)
    | (go_at_call 51; with_reducible refine (alive05 _).mono ?_; rintro e w3 ⟨rfl, hb3⟩))
  go_ret
  exact ⟨rfl, below_trans hM2.bel hb3⟩

theorem walkAll (z a c : Pt) (p n m : Int) (w : World) (_w1 : (Lit.int .i64 n).wf = true) (_w2 : (Lit.int .i64 m).wf = true) :
    Calls Try.prog 10 #[rotV z a c p, .int .i64 n, .int .i64 m] w fun e w' => e = .returned (.bool true) ∧ Below w.heap.size w w' := by
  by_cases hr : rrB z a c p = true
  · by_cases h1 : n < 0
    · exact early_a z a c p n m w hr (decide_eq_true h1)
    · have d1 : decide (n < 0) = false := decide_eq_false h1
      by_cases h2 : 1073741824 < n
      · exact early_b z a c p n m w hr d1 (decide_eq_true h2)
      · have d2 : decide ((1073741824 : Int) < n) = false := decide_eq_false h2
        by_cases h3 : m < 0
        · exact early_c z a c p n m w hr d1 d2 (decide_eq_true h3)
        · have d3 : decide (m < 0) = false := decide_eq_false h3
          by_cases h4 : 1073741824 < m
          · exact early_d z a c p n m w hr d1 d2 d3 (decide_eq_true h4)
          · have d4 : decide ((1073741824 : Int) < m) = false := decide_eq_false h4
            by_cases h5 : 60 < p
            · exact early_e z a c p n m w hr d1 d2 d3 d4 (decide_eq_true h5)
            · obtain ⟨n', rfl⟩ := Int.eq_ofNat_of_zero_le (show 0 ≤ n by omega)
              obtain ⟨m', rfl⟩ := Int.eq_ofNat_of_zero_le (show 0 ≤ m by omega)
              exact walk z a c p n' m' w hr (by omega) (by omega) (by omega)
  · exact early_r z a c p n m w (eq_false_of_ne_true hr)
end Go.Proofs.Ytebhojbllhjkeaa.rotorLaws
