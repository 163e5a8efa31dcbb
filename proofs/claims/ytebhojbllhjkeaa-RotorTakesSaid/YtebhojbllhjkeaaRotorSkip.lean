/- rotor.Skip and the document's Skip: n turns. -/
import Derived.Test.YtebhojbllhjkeaaRefRotor
import Derived.Test.YtebhojbllhjkeaaRotorThen
import Derived.Test.YtebhojbllhjkeaaLabels
namespace Go.Proofs.Ytebhojbllhjkeaa
open Go.RowKit
set_option linter.all false
attribute [local go_sem] run_store_cx

theorem XM.set7 {w W : World} {z a c z' a' c' : Pt} {p p' : Int} (h : XM w W z a c p) : XM w (set7 W w.heap.size z' a' c' p') z' a' c' p' :=
  ⟨h.b.set7, h.r.far7 (by omega), below_set7 h.bel (Nat.le_refl _)⟩
theorem XM.drewN {w W : World} {z a c : Pt} {p : Int} (h : XM w W z a c p) (n : Nat) : XM w (W.drewN n) z a c p := h.below (below_drewN (Below.refl _ _) n)

set_option maxRecDepth 10000 in
set_option maxHeartbeats 2000000 in
theorem fskip_yes (z a c : Pt) (p : Int) (n : Nat) (w : World) (h : rrB z a c p = true) (hn : (n : Int) < 9223372036854775807) :
    Calls Try.prog 61 #[rotV z a c p, .int .i64 n] w fun e w' => e = .returned (.tuple #[rotV (it (ap a c p) n z) a c p, .bool true]) ∧ Below w.heap.size w w' := by
  have hri := fun W => fright_any z a c p W
  rw [h] at hri
  have hnx := fun k W => fnext_yes (it (ap a c p) k z) a c p W (rrB_it h k)
  have St0 := Lib.hid (XM.new w z a c p 73 73)
  have hd : decide ((n : Int) < 0) = false := decide_eq_false (by omega)
  clear h
  go_enter Try.func61, Try.ntmps61
  go_wp2_with (go_at_call 63; refine (hri _).mono ?_; rintro e w1 ⟨rfl, hb1⟩; have st1 := St0.out.below hb1)
  clear St0 hb1
  go_loopw [6] (fun i wr => ∃ k : Nat, k ≤ n ∧ i = .int .i64 k ∧ XM w wr (it (ap a c p) k z) a c p) (fun i _ => n - (intOf i).toNat)
  case atStart => exact ⟨0, Nat.zero_le _, rfl, st1⟩
  case round =>
    clear st1
    obtain ⟨k, hk, rfl, hT⟩ := hrel
    obtain ⟨x0, x1, x2, x3, x4, x5, x6, f0, f1, f2, f3, f4, f5, f6⟩ := hT.b
    by_cases hc : k < n
    · have hc1 : (k : Int) < n := by omega
      have hw : IntKind.i64.wrap ((k : Int) + 1) = (k : Int) + 1 := by rw [IntKind.wrap_i64]; omega
      go_wp2_with (go_at_call 59; with_reducible refine (hnx k _).mono ?_; rintro e w2 ⟨rfl, hb2⟩; have hT2 := hT.below hb2; clear hT x0 x1 x2 x3 x4 x5 x6 f0 f1 f2 f3 f4 f5 f6 hb2; obtain ⟨x0, x1, x2, x3, x4, x5, x6, f0, f1, f2, f3, f4, f5, f6⟩ := hT2.b)
      refine ⟨⟨k + 1, by omega, rfl, ?_⟩, ?_⟩
      · rw [it_succ]
        exact hT2.set7
      · simp [intOf]
        omega
    · obtain rfl : k = n := by omega
      obtain ⟨y0, y1, y2, y3, y4, y5, y6, g0, g1, g2, g3, g4, g5, g6⟩ := hT.r
      have hnl : ¬ (k : Int) < k := by omega
      go_wp2
      exact bodyPost_ret (v := .tuple #[rotV (it (ap a c p) k z) a c p, .bool true]) (by simp [results, Try.results61, go_sem, y0, y1, y2, y3, y4, y5, y6]) rfl ⟨rfl, below_set7 hT.bel (by omega)⟩

set_option maxRecDepth 10000 in
set_option maxHeartbeats 1000000 in
theorem fskip_no (z a c : Pt) (p n : Int) (w : World) (h : rrB z a c p = false ∨ n < 0) :
    Calls Try.prog 61 #[rotV z a c p, .int .i64 n] w fun e w' => e = .returned (.tuple #[rotN, .bool false]) ∧ Below w.heap.size w w' := by
  have hri := fun W => fright_any z a c p W
  have St0 := Lib.hid (XM.new w z a c p 73 73)
  by_cases hr : rrB z a c p = true
  · have hn : n < 0 := by
      rcases h with h | h
      · rw [h] at hr; cases hr
      · exact h
    rw [hr] at hri
    have hd : decide (n < 0) = true := decide_eq_true hn
    go_enter Try.func61, Try.ntmps61
    go_wp2_with (go_at_call 63; refine (hri _).mono ?_; rintro e w1 ⟨rfl, hb1⟩; have st1 := St0.out.below hb1; obtain ⟨y0, y1, y2, y3, y4, y5, y6, g0, g1, g2, g3, g4, g5, g6⟩ := st1.r)
    exact bodyPost_ret (v := .tuple #[rotN, .bool false]) (by simp [results, Try.results61, go_sem, y0, y1, y2, y3, y4, y5, y6]) rfl ⟨rfl, below_set7 (z := (0, 0)) (a := (0, 0)) (c := (0, 0)) (p := 0) st1.bel (by omega)⟩
  · have hr := eq_false_of_ne_true hr
    rw [hr] at hri
    go_enter Try.func61, Try.ntmps61
    go_wp2_with (go_at_call 63; refine (hri _).mono ?_; rintro e w1 ⟨rfl, hb1⟩; have st1 := St0.out.below hb1; obtain ⟨y0, y1, y2, y3, y4, y5, y6, g0, g1, g2, g3, g4, g5, g6⟩ := st1.r)
    exact bodyPost_ret (v := .tuple #[rotN, .bool false]) (by simp [results, Try.results61, go_sem, y0, y1, y2, y3, y4, y5, y6]) rfl ⟨rfl, below_set7 (z := (0, 0)) (a := (0, 0)) (c := (0, 0)) (p := 0) st1.bel (by omega)⟩

theorem TU.set2 {w : World} {B : Nat} {a c a' c' : Pt} (h : TU w B a c) : TU ((w.setCell ⟨B, 0, none⟩ (.complex .f64 (fr a'.1) (fr a'.2))).setCell ⟨B, 1, none⟩ (.complex .f64 (fr c'.1) (fr c'.2))) B a' c' :=
  ⟨(set_other (by decide)).trans (set_same h.x0), set_same ((set_other (by decide)).trans h.x1), by rw [set_frozen, set_frozen]; exact h.f0, by rw [set_frozen, set_frozen]; exact h.f1⟩

/-- Skip's own memory -/
structure SM (w W : World) (D : Nat) (z a c aa ac na nc : Pt) (p : Int) : Prop where
  m : XM w W z a c p
  x : TU W D aa ac
  y : TU W (D + 1) na nc
  far : w.heap.size + 1 < D
theorem SM.below {w W W' : World} {D : Nat} {z a c aa ac na nc : Pt} {p : Int} (h : SM w W D z a c aa ac na nc p) (hb : Below W.heap.size W W') : SM w W' D z a c aa ac na nc p := ⟨h.m.below hb, h.x.up hb, h.y.up hb, h.far⟩
theorem XM.set2 {w W : World} {D : Nat} {z a c : Pt} {p : Int} {u v : Value} (h : XM w W z a c p) (hD : w.heap.size + 1 < D) : XM w ((W.setCell ⟨D, 0, none⟩ u).setCell ⟨D, 1, none⟩ v) z a c p :=
  ⟨(h.b.far (by show D ≠ w.heap.size; omega) _).far (by show D ≠ w.heap.size; omega) _, (h.r.far (by show D ≠ w.heap.size + 1; omega) _).far (by show D ≠ w.heap.size + 1; omega) _, (h.bel.setCell (by show w.heap.size ≤ D; omega) _).setCell (by show w.heap.size ≤ D; omega) _⟩
theorem SM.setx {w W : World} {D : Nat} {z a c aa ac na nc a' c' : Pt} {p : Int} (h : SM w W D z a c aa ac na nc p) : SM w ((W.setCell ⟨D, 0, none⟩ (.complex .f64 (fr a'.1) (fr a'.2))).setCell ⟨D, 1, none⟩ (.complex .f64 (fr c'.1) (fr c'.2))) D z a c a' c' na nc p :=
  ⟨h.m.set2 h.far, h.x.set2, (h.y.far (by show D ≠ D + 1; omega) _).far (by show D ≠ D + 1; omega) _, h.far⟩
theorem SM.sety {w W : World} {D : Nat} {z a c aa ac na nc a' c' : Pt} {p : Int} (h : SM w W D z a c aa ac na nc p) : SM w ((W.setCell ⟨D + 1, 0, none⟩ (.complex .f64 (fr a'.1) (fr a'.2))).setCell ⟨D + 1, 1, none⟩ (.complex .f64 (fr c'.1) (fr c'.2))) D z a c aa ac a' c' p :=
  ⟨h.m.set2 (by have := h.far; omega), (h.x.far (by show D + 1 ≠ D; omega) _).far (by show D + 1 ≠ D; omega) _, h.y.set2, h.far⟩

theorem inP.thenA {p : Int} (hp : 2 ≤ p) (a u : Pt) : inP p (thenA a u p) :=
  ⟨Int.emod_nonneg _ (by omega), Int.emod_lt_of_pos _ (by omega), Int.emod_nonneg _ (by omega), Int.emod_lt_of_pos _ (by omega)⟩

theorem ap_one {p : Int} {z : Pt} (h : inP p z) : ap (1, 0) (0, 0) p z = z := by
  obtain ⟨h1, h2, h3, h4⟩ := h
  unfold ap
  refine Prod.ext ?_ ?_
  · show (z.1 * 1 - z.2 * 0 + 0) % p = z.1
    rw [show z.1 * 1 - z.2 * 0 + 0 = z.1 by omega]
    exact Int.emod_eq_of_lt h1 h2
  · show (z.1 * 0 + z.2 * 1 + 0) % p = z.2
    rw [show z.1 * 0 + z.2 * 1 + 0 = z.2 by omega]
    exact Int.emod_eq_of_lt h3 h4
theorem one_new (w : World) (t : TypeId) : TU (w.alloc (.cells #[.complex .f64 4607182418800017408 0, .complex .f64 0 0] t)) w.heap.size (1, 0) (0, 0) := by
  have h := TU.new w (1, 0) (0, 0) t
  rw [show cxV (1, 0) = .complex .f64 4607182418800017408 0 by show Value.complex .f64 (fr 1) (fr 0) = _; rw [← fr_1, ← fr_0], show cxV (0, 0) = .complex .f64 0 0 by show Value.complex .f64 (fr 0) (fr 0) = _; rw [← fr_0]] at h
  exact h

/-- what holds at 'square' -/
def SkJ (z a c : Pt) (p : Int) (n : Nat) (w : World) (a' : Act) (W : World) : Prop :=
  ∃ (k D : Nat) (aa ac na nc : Pt) (u3 u8 u9 u10 u11 u12 u13 u14 u15 u16 u17 u18 u19 u20 u21 u22 u23 u24 u25 u26 u27 u28 u29 u30 u31 u32 u33 u34 u35 u36 u37 u38 : Value), a' = { tmps := #[rotV z a c p, .int .i64 k, .pointer (some ⟨w.heap.size, 0, none⟩), u3, .pointer (some ⟨w.heap.size + 1, 0, none⟩), .bool false, .pointer (some ⟨D, 0, none⟩), .pointer (some ⟨D + 1, 0, none⟩), u8, u9, u10, u11, u12, u13, u14, u15, u16, u17, u18, u19, u20, u21, u22, u23, u24, u25, u26, u27, u28, u29, u30, u31, u32, u33, u34, u35, u36, u37, u38], defers := [] } ∧
    SM w W D z a c aa ac na nc p ∧ inP p aa ∧ inP p ac ∧ inP p na ∧ inP p nc ∧ k ≤ n ∧ it (ap na nc p) k (ap aa ac p z) = it (ap a c p) n z
def SkM (a' : Act) (_ : World) : Nat := (intOf (a'.tmps.getD 1 undef)).toNat

set_option maxRecDepth 10000 in
set_option maxHeartbeats 2000000 in
theorem rskip_yes (z a c : Pt) (p : Int) (n : Nat) (w : World) (h : rrB z a c p = true) (hn : (n : Int) < 9223372036854775807) :
    Calls Try.prog 60 #[rotV z a c p, .int .i64 n] w fun e w' => e = .returned (.tuple #[rotV (it (ap a c p) n z) a c p, .bool true]) ∧ Below w.heap.size w w' := by
  obtain ⟨hp, hz, ha, hcc⟩ := of_rrB h
  have hri := fun W => rright_any z a c p W
  rw [h] at hri
  have htu := fun W => rturn_any z a c p W
  have St0 := Lib.hid (XM.new w z a c p 75 75)
  have hd : decide ((n : Int) < 0) = false := decide_eq_false (by omega)
  clear h
  go_enter Try.func60, Try.ntmps60
  go_upto_region 1 with fail
  refine wp_scope_one' 0 (SkJ z a c p n w) SkM ?_ ?_ ?_
  · rfl
  · go_wp2_with (first
      | (go_at_call 62; refine (hri _).mono ?_; rintro e w1 ⟨rfl, hb1⟩; have st1 := St0.out.below hb1; obtain ⟨x0, x1, x2, x3, x4, x5, x6⟩ := st1.all)
      | (go_at_call 81; refine (htu _).mono ?_; rintro e w2 ⟨rfl, hb2⟩; have st2 := st1.below hb2; clear x0 x1 x2 x3 x4 x5 x6 st1 hb1 hb2))
    refine ⟨n, w2.heap.size, (1, 0), (0, 0), a, c, undef, _, _, _, _, _, _, _, _, _, _, _, _, _, _, _, _, _, _, _, _, _, _, _, _, _, _, _, _, _, _, _, rfl, ⟨(st2.below (below_one _ _)).below (below_one _ _), ?_, ?_, ?_⟩, ⟨by decide, ?_, by decide, ?_⟩, ⟨by decide, ?_, by decide, ?_⟩, ha, hcc, Nat.le_refl _, by rw [ap_one hz]⟩
    · exact (one_new w2 _).up (below_one _ _)
    · have hy := TU.new (w2.alloc (.cells #[.complex .f64 4607182418800017408 0, .complex .f64 0 0] 111)) a c 111
      rwa [show (w2.alloc (.cells #[.complex .f64 4607182418800017408 0, .complex .f64 0 0] 111)).heap.size = w2.heap.size + 1 by simp] at hy
    · exact st2.r.lt
    · show (1 : Int) < p
      omega
    · show (0 : Int) < p
      omega
    · show (0 : Int) < p
      omega
    · show (0 : Int) < p
      omega
  · rintro a' W ⟨k, D, aa, ac, na, nc, u3, u8, u9, u10, u11, u12, u13, u14, u15, u16, u17, u18, u19, u20, u21, u22, u23, u24, u25, u26, u27, u28, u29, u30, u31, u32, u33, u34, u35, u36, u37, u38, rfl, hS, h1, h2, h3, h4, hk, he⟩
    clear St0 hri htu
    have hfar := hS.far
    by_cases h0 : k = 0
    · subst h0
      have hdo := fun W => rdone_any aa ac z a c p W hp h1 h2 hz
      have he : ap aa ac p z = it (ap a c p) n z := he
      rw [he] at hdo
      obtain ⟨x0, x1, x2, x3, x4, x5, x6⟩ := hS.m.all
      have t0 := hS.x.x0
      have t1 := hS.x.x1
      clear h1 h2 h3 h4 hz ha hcc he hd
      go_wp2_with (go_at_call 82; with_reducible refine (hdo _).mono ?_; rintro e w1 ⟨rfl, hb1⟩; have st1 := hS.m.below hb1; clear hS x0 x1 x2 x3 x4 x5 x6 t0 t1; obtain ⟨y0, y1, y2, y3, y4, y5, y6, g0, g1, g2, g3, g4, g5, g6⟩ := st1.r)
      simp only [Exit.jump]
      exact bodyPost_ret (v := .tuple #[rotV (it (ap a c p) n z) a c p, .bool true]) (by simp [results, Try.results60, go_sem, y0, y1, y2, y3, y4, y5, y6]) rfl ⟨rfl, below_set7 st1.bel (by omega)⟩
    · have hpos : (0 : Int) < k := by omega
      have hth := fun W => rthen_any na nc na nc p W hp h3 h4 h3 h4
      have hap := fun y => ap_then na nc na nc p y
      have x6 := hS.m.b.x6
      have s0 := hS.y.x0
      have s1 := hS.y.x1
      have k0 := hS.y.f0
      have k1 := hS.y.f1
      have hq : wrap64 ((k : Int) / 2) = ((k / 2 : Nat) : Int) := by unfold wrap64; omega
      have hm : IntKind.i64.wrap ((k : Int).tmod 2) = (k : Int).tmod 2 := by rw [show (k : Int).tmod 2 = ((k % 2 : Nat) : Int) from Int.ofNat_tmod k 2, IntKind.wrap_i64]; omega
      rcases Nat.mod_two_eq_zero_or_one k with hodd | hodd
      · have hz1 : (k : Int).tmod 2 = 0 := by rw [show (k : Int).tmod 2 = ((k % 2 : Nat) : Int) from Int.ofNat_tmod k 2, hodd]; rfl
        have He := Lib.hid (show it (ap (thenA na na p) (ap na nc p nc) p) (k / 2) (ap aa ac p z) = it (ap a c p) n z by
          rw [it_two hap, show 2 * (k / 2) = k by omega]
          exact he)
        have Hlt := Lib.hid (show k / 2 < k by omega)
        have Hle := Lib.hid (show k / 2 ≤ n by omega)
        have hi1 := inP.thenA hp.1 na na
        have hi2 := inP.ap hp.1 na nc nc
        clear hap he
        generalize thenA na na p = na2 at *
        generalize ap na nc p nc = nc2 at *
        clear hd hn
        go_wp2_with (go_at_call 84; with_reducible refine (hth _).mono ?_; rintro e w1 ⟨rfl, hb1⟩; have st1 := hS.below hb1; clear hS x6 s0 s1 k0 k1; obtain ⟨k2, k3, k0, k1⟩ := st1.y)
        go_step3
        rw [hq]
        refine ⟨rfl, ⟨k / 2, D, aa, ac, na2, nc2, _, _, _, _, _, _, _, _, _, _, _, _, _, _, _, _, _, _, _, _, _, _, _, _, _, _, _, _, _, _, _, _, rfl, st1.sety, h1, h2, hi1, hi2, Hle.out, He.out⟩, ?_⟩
        have hlt := Hlt.out
        simp [SkM, intOf]
        omega
      · have hz1 : (k : Int).tmod 2 = 1 := by rw [show (k : Int).tmod 2 = ((k % 2 : Nat) : Int) from Int.ofNat_tmod k 2, hodd]; rfl
        have hth2 := fun W => rthen_any aa ac na nc p W hp h1 h2 h3 h4
        have He := Lib.hid (show it (ap (thenA na na p) (ap na nc p nc) p) (k / 2) (ap (thenA aa na p) (ap na nc p ac) p z) = it (ap a c p) n z by
          rw [it_two hap, ap_then, ← he]
          conv => rhs; rw [show k = 2 * (k / 2) + 1 by omega]
          rfl)
        have Hlt := Lib.hid (show k / 2 < k by omega)
        have Hle := Lib.hid (show k / 2 ≤ n by omega)
        have hi1 := inP.thenA hp.1 na na
        have hi2 := inP.ap hp.1 na nc nc
        have hi3 := inP.thenA hp.1 aa na
        have hi4 := inP.ap hp.1 na nc ac
        have t0 := hS.x.x0
        have t1 := hS.x.x1
        clear hap he
        generalize thenA na na p = na2 at *
        generalize ap na nc p nc = nc2 at *
        generalize thenA aa na p = aa2 at *
        generalize ap na nc p ac = ac2 at *
        clear hd hn
        go_wp2_with (first
          | (go_at_call 84; with_reducible refine (hth2 _).mono ?_; rintro e w1 ⟨rfl, hb1⟩; have st1 := hS.below hb1; clear hS x6 s0 s1 k0 k1 t0 t1; have st2 := Lib.hid (fun a' c' => st1.setx (a' := a') (c' := c')); have x6 := st1.m.b.x6; obtain ⟨s0, s1, k0, k1⟩ := st1.y; obtain ⟨t0, t1, l0, l1⟩ := st1.x)
          | (go_at_call 84; with_reducible refine (hth _).mono ?_; rintro e w2 ⟨rfl, hb2⟩; have st3 := (st2.out _ _).below hb2; clear st1 st2 x6 s0 s1 k0 k1 t0 t1 l0 l1; obtain ⟨k2, k3, k0, k1⟩ := st3.y))
        go_step3
        rw [hq]
        refine ⟨rfl, ⟨k / 2, D, aa2, ac2, na2, nc2, _, _, _, _, _, _, _, _, _, _, _, _, _, _, _, _, _, _, _, _, _, _, _, _, _, _, _, _, _, _, _, _, rfl, st3.sety, hi3, hi4, hi1, hi2, Hle.out, He.out⟩, ?_⟩
        have hlt := Hlt.out
        simp [SkM, intOf]
        omega

set_option maxRecDepth 10000 in
set_option maxHeartbeats 1000000 in
theorem rskip_no (z a c : Pt) (p n : Int) (w : World) (h : rrB z a c p = false ∨ n < 0) :
    Calls Try.prog 60 #[rotV z a c p, .int .i64 n] w fun e w' => e = .returned (.tuple #[rotN, .bool false]) ∧ Below w.heap.size w w' := by
  have hri := fun W => rright_any z a c p W
  have St0 := Lib.hid (XM.new w z a c p 75 75)
  by_cases hr : rrB z a c p = true
  · have hn : n < 0 := by
      rcases h with h | h
      · rw [h] at hr; cases hr
      · exact h
    rw [hr] at hri
    have hd : decide (n < 0) = true := decide_eq_true hn
    go_enter Try.func60, Try.ntmps60
    go_upto_region 1 with fail
    refine wp_scope_one' 0 (fun _ _ => False) (fun _ _ => 0) ?_ ?_ (fun _ _ h => h.elim)
    · rfl
    go_wp2_with (go_at_call 62; refine (hri _).mono ?_; rintro e w1 ⟨rfl, hb1⟩; have st1 := St0.out.below hb1; obtain ⟨y0, y1, y2, y3, y4, y5, y6, g0, g1, g2, g3, g4, g5, g6⟩ := st1.r)
    simp only [Exit.jump, Exit.then]
    exact bodyPost_ret (v := .tuple #[rotN, .bool false]) (by simp [results, Try.results60, go_sem, y0, y1, y2, y3, y4, y5, y6]) rfl ⟨rfl, below_set7 (z := (0, 0)) (a := (0, 0)) (c := (0, 0)) (p := 0) st1.bel (by omega)⟩
  · have hr := eq_false_of_ne_true hr
    rw [hr] at hri
    go_enter Try.func60, Try.ntmps60
    go_upto_region 1 with fail
    refine wp_scope_one' 0 (fun _ _ => False) (fun _ _ => 0) ?_ ?_ (fun _ _ h => h.elim)
    · rfl
    go_wp2_with (go_at_call 62; refine (hri _).mono ?_; rintro e w1 ⟨rfl, hb1⟩; have st1 := St0.out.below hb1; obtain ⟨y0, y1, y2, y3, y4, y5, y6, g0, g1, g2, g3, g4, g5, g6⟩ := st1.r)
    simp only [Exit.jump, Exit.then]
    exact bodyPost_ret (v := .tuple #[rotN, .bool false]) (by simp [results, Try.results60, go_sem, y0, y1, y2, y3, y4, y5, y6]) rfl ⟨rfl, below_set7 (z := (0, 0)) (a := (0, 0)) (c := (0, 0)) (p := 0) st1.bel (by omega)⟩
end Go.Proofs.Ytebhojbllhjkeaa
