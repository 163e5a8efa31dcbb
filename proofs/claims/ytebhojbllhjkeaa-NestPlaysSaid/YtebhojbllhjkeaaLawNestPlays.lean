/- NestPlays: for any sequence of Enter and Leave, nest answers as the document defines it, and serves the same levels. -/
import Derived.Test.YtebhojbllhjkeaaNestLaw
import Derived.Test.YtebhojbllhjkeaaRefNestB
import Derived.Test.YtebhojbllhjkeaaSame
import Derived.ProofKit
import Derived.OpenShut
import Derived.Deep.DeepCutAuto
import Derived.ChangeOld
namespace Go.Proofs.Ytebhojbllhjkeaa.nestPlays
open Go.ChangeShapes Go.WideShapes Go.ChangeAt Go.RowKit
set_option linter.unusedVariables false

/-- both sides: the nest has the levels 's', the document's nest 't' (its slice: 'a', 'c') -/
structure PlaySt (w W : World) (s : List Int) (m : Int) (a : Option Addr) (c : Nat) (t : List Int) (m2 : Int) : Prop where
  nest : NestAt W w.heap.size 0 s m
  x0 : W.cell? ⟨w.heap.size + 1, 0, none⟩ = some (.slice a t.length c)
  x1 : W.cell? ⟨w.heap.size + 1, 1, none⟩ = some (.int .i64 m2)
  f0 : W.frozen? ⟨w.heap.size + 1, 0, none⟩ = false
  f1 : W.frozen? ⟨w.heap.size + 1, 1, none⟩ = false
  lv : Lv W (w.heap.size + 2) (.slice a t.length c) t
  bel : Below w.heap.size w W
  sz0 : w.heap.size < W.heap.size
  sz1 : w.heap.size + 1 < W.heap.size

theorem PlaySt.below {w W W' : World} {s : List Int} {m : Int} {a : Option Addr} {c : Nat} {t : List Int} {m2 : Int} (h : PlaySt w W s m a c t m2) (hb : Below W.heap.size W W') : PlaySt w W' s m a c t m2 :=
  ⟨h.nest.below hb h.sz0, (hb.cell (p := ⟨_, _, _⟩) h.sz1).trans h.x0, (hb.cell (p := ⟨_, _, _⟩) h.sz1).trans h.x1, (hb.frozen (p := ⟨_, _, _⟩) h.sz1).trans h.f0, (hb.frozen (p := ⟨_, _, _⟩) h.sz1).trans h.f1,
   h.lv.below (Z := 0) hb, below_trans h.bel hb, Nat.lt_of_lt_of_le h.sz0 hb.size, Nat.lt_of_lt_of_le h.sz1 hb.size⟩
theorem Lv.reads {W : World} {base n : Nat} {a : Option Addr} {c : Nat} {t : List Int} (h : Lv W base (.slice a n c) t) (hs : t.length ≤ 9223372036854775807) : Reads W a t := by
  obtain ⟨a', c', he, _, _, hp⟩ := h.shape
  injection he with h1 _ _
  subst h1
  refine ⟨hs, fun hpos => ?_⟩
  obtain ⟨g, rfl, _, _, hc⟩ := hp hpos
  exact ⟨g, 0, rfl, fun i hi => by rw [Nat.zero_add]; exact hc i hi⟩
theorem PlaySt.drewN {w W : World} {s : List Int} {m : Int} {a : Option Addr} {c : Nat} {t : List Int} {m2 : Int} (h : PlaySt w W s m a c t m2) (n : Nat) : PlaySt w (W.drewN n) s m a c t m2 := h.below (below_drewN (Below.refl _ _) n)
theorem PlaySt.drew {w W : World} {s : List Int} {m : Int} {a : Option Addr} {c : Nat} {t : List Int} {m2 : Int} (h : PlaySt w W s m a c t m2) : PlaySt w W.drew s m a c t m2 := h.below (Below.refl _ _).drew

theorem PlaySt.nestOnly {w W W' : World} {s s' : List Int} {m m' : Int} {a : Option Addr} {c : Nat} {t : List Int} {m2 : Int} (h : PlaySt w W s m a c t m2) (hn : NestAt W' w.heap.size 0 s' m') (hg : W.grownBy W' (some w.heap.size)) : PlaySt w W' s' m' a c t m2 :=
  ⟨hn, (only_cell hg (p := ⟨_, _, _⟩) h.sz1 (by show w.heap.size + 1 ≠ w.heap.size; omega)).trans h.x0, (only_cell hg (p := ⟨_, _, _⟩) h.sz1 (by show w.heap.size + 1 ≠ w.heap.size; omega)).trans h.x1,
   (only_frozen hg (p := ⟨_, _, _⟩) h.sz1 (by show w.heap.size + 1 ≠ w.heap.size; omega)).trans h.f0, (only_frozen hg (p := ⟨_, _, _⟩) h.sz1 (by show w.heap.size + 1 ≠ w.heap.size; omega)).trans h.f1,
   h.lv.kept hg (by
     cases hv : (Value.slice a t.length c).ownBlock with
     | none => exact .inl rfl
     | some g => exact .inr (fun e => by injection e with e; have := (h.lv.lt g hv).1; omega)),
   h.bel.grown hg (Nat.le_of_lt h.sz0) (fun k hk => by injection hk with hk; omega), Nat.lt_of_lt_of_le h.sz0 hg.size, Nat.lt_of_lt_of_le h.sz1 hg.size⟩

/-- what does not speak of the document's nest -/
structure PB (w W : World) (s : List Int) (m : Int) : Prop where
  nest : NestAt W w.heap.size 0 s m
  x0 : ∃ v, W.cell? ⟨w.heap.size + 1, 0, none⟩ = some v
  x1 : ∃ v, W.cell? ⟨w.heap.size + 1, 1, none⟩ = some v
  f0 : W.frozen? ⟨w.heap.size + 1, 0, none⟩ = false
  f1 : W.frozen? ⟨w.heap.size + 1, 1, none⟩ = false
  bel : Below w.heap.size w W
  sz0 : w.heap.size < W.heap.size
  sz1 : w.heap.size + 1 < W.heap.size

theorem PlaySt.pb {w W : World} {s : List Int} {m : Int} {a : Option Addr} {c : Nat} {t : List Int} {m2 : Int} (h : PlaySt w W s m a c t m2) : PB w W s m :=
  ⟨h.nest, ⟨_, h.x0⟩, ⟨_, h.x1⟩, h.f0, h.f1, h.bel, h.sz0, h.sz1⟩

theorem PB.far {w W : World} {s : List Int} {m : Int} (h : PB w W s m) (p : Addr) (u : Value) (hp : w.heap.size + 2 ≤ p.block) : PB w (W.setCell p u) s m := by
  have hg : W.grownBy (W.setCell p u) (some p.block) := only_setCell (only_refl _ _) (.inl rfl) u
  have e : ∀ o, (W.setCell p u).cell? ⟨w.heap.size + 1, o, none⟩ = W.cell? ⟨w.heap.size + 1, o, none⟩ := fun o => set_far (by show p.block ≠ w.heap.size + 1; omega)
  refine ⟨h.nest.only hg h.sz0 (by omega), ?_, ?_, ?_, ?_, h.bel.setCell (by omega) u, Nat.lt_of_lt_of_le h.sz0 hg.size, Nat.lt_of_lt_of_le h.sz1 hg.size⟩
  · rw [e]; exact h.x0
  · rw [e]; exact h.x1
  · rw [set_frozen]; exact h.f0
  · rw [set_frozen]; exact h.f1

theorem PB.fin {w W : World} {s : List Int} {m : Int} (h : PB w W s m) {a : Option Addr} {c : Nat} {t : List Int} (m2 : Int) (hl : Lv W (w.heap.size + 2) (.slice a t.length c) t) :
    PlaySt w ((W.setCell ⟨w.heap.size + 1, 0, none⟩ (.slice a t.length c)).setCell ⟨w.heap.size + 1, 1, none⟩ (.int .i64 m2)) s m a c t m2 := by
  obtain ⟨v0, h0⟩ := h.x0
  obtain ⟨v1, h1⟩ := h.x1
  have hg : W.grownBy ((W.setCell ⟨w.heap.size + 1, 0, none⟩ (.slice a t.length c)).setCell ⟨w.heap.size + 1, 1, none⟩ (.int .i64 m2)) (some (w.heap.size + 1)) :=
    only_set (only_set (only_refl _ _) _) _
  refine ⟨h.nest.only hg h.sz0 (by omega), ?_, ?_, ?_, ?_, ?_, ?_, Nat.lt_of_lt_of_le h.sz0 hg.size, Nat.lt_of_lt_of_le h.sz1 hg.size⟩
  · exact (set_other (i := 1) (j := 0) (by omega)).trans (set_same h0)
  · exact set_same ((set_other (i := 0) (j := 1) (by omega)).trans h1)
  · rw [set_frozen, set_frozen]; exact h.f0
  · rw [set_frozen, set_frozen]; exact h.f1
  · exact hl.kept hg (by
      cases hv : (Value.slice a t.length c).ownBlock with
      | none => exact .inl rfl
      | some g => exact .inr (fun e => by injection e with e; have := (hl.lt g hv).1; omega))
  · exact h.bel.grown hg (Nat.le_of_lt h.sz0) (fun k hk => by injection hk with hk; omega)

theorem Lv.base_le {W : World} {base b' : Nat} {v : Value} {s : List Int} (h : Lv W base v s) (hb : b' ≤ base) : Lv W b' v s := owns_base h hb
theorem Lv.far {W : World} {base : Nat} {v : Value} {s : List Int} (h : Lv W base v s) (p : Addr) (u : Value) (hp : p.block < base) : Lv (W.setCell p u) base v s := ownsRow_setCell_below h hp u

/-- behind 'y, b := x.Enter(..)' and 'x = y', y made behind the call -/
theorem fin_behind {w w2 : World} {s : List Int} {m : Int} (h : PB w w2 s m) {a : Option Addr} {c n : Nat} {t : List Int} (hn : t.length = n) (m2 : Int) (o : Obj) {B : Nat} (hB : w.heap.size + 2 ≤ B) (hl : Lv w2 B (.slice a n c) t) :
    PlaySt w (((w2.setCell ⟨w.heap.size + 1, 0, none⟩ (.slice a n c)).setCell ⟨w.heap.size + 1, 1, none⟩ (.int .i64 m2)).alloc o) s m a c t m2 := by
  subst hn
  exact (h.fin m2 (Lv.base_le hl hB)).below (below_one _ _)
/-- y made ahead of it -/
theorem fin_ahead {w w2 : World} {s : List Int} {m : Int} (h : PB w w2 s m) {a : Option Addr} {c n : Nat} {t : List Int} (hn : t.length = n) (m2 : Int) {Y B : Nat} (hY : w.heap.size + 2 ≤ Y) (hB : w.heap.size + 2 ≤ B) (hl : Lv w2 B (.slice a n c) t)
    (hne : ∀ g, (Value.slice a n c).ownBlock = some g → g ≠ Y) (u0 u1 : Value) :
    PlaySt w ((((w2.setCell ⟨Y, 0, none⟩ u0).setCell ⟨Y, 1, none⟩ u1).setCell ⟨w.heap.size + 1, 0, none⟩ (.slice a n c)).setCell ⟨w.heap.size + 1, 1, none⟩ (.int .i64 m2)) s m a c t m2 := by
  subst hn
  have hl2 : Lv ((w2.setCell ⟨Y, 0, none⟩ u0).setCell ⟨Y, 1, none⟩ u1) B (.slice a t.length c) t :=
    hl.kept (only_set (only_set (only_refl _ (some Y)) u0) u1) (by
      cases hv : (Value.slice a t.length c).ownBlock with
      | none => exact .inl rfl
      | some g => exact .inr (fun e => hne g hv (by injection e)))
  exact ((h.far ⟨Y, 0, none⟩ u0 hY).far ⟨Y, 1, none⟩ u1 hY).fin m2 (Lv.base_le hl2 hB)

set_option maxRecDepth 100000 in
set_option maxHeartbeats 2000000 in
theorem walk (p : Option Addr) (cap : Nat) (zs : List Int) (w : World) (hm : zs.length ≤ 100) (hp : Reads w p zs) :
    Calls Try.prog 4 #[.slice p zs.length cap] w fun e w' => e = .returned (.bool true) ∧ Below w.heap.size w w' := by
  have hgt : decide ((100 : Int) < (zs.length : Int)) = false := decide_eq_false (by omega)
  have Hp := Lib.hid hp.2
  clear hp
  have st0 : PlaySt w ((w.alloc (.cells (Array.replicate 34 (.int .i64 0)) 33)).alloc (.cells #[.slice none 0 0, .int .i64 0] 35)) [] 0 none 0 [] 0 :=
    ⟨(NestAt.new w 33).below (below_one _ _) (by simp), by simp, by simp, by simp, by simp, World.ownsRow_nil _ _ _ _, below_two _ _ _, by simp; omega, by simp⟩
  have St0 := Lib.hid st0
  clear st0
  go_enter Try.func4, Try.ntmps4
  go_wp2
  go_loopw [5] (fun i wr => ∃ (k : Nat) (s : List Int) (m : Int) (a : Option Addr) (c : Nat), k ≤ zs.length ∧ i = .int .i64 k ∧ Stk s ∧ PlaySt w wr s m a c s m) (fun i _ => zs.length - (intOf i).toNat)
  case atStart => exact ⟨0, [], 0, none, 0, Nat.zero_le _, rfl, Stk.nil, St0.out⟩
  case round =>
    obtain ⟨k, s, m, a, c, hk, rfl, hstk, hst⟩ := hrel
    by_cases hlt : k < zs.length
    · obtain ⟨b, off, rfl, hcells⟩ := Hp.out (by omega)
      have hb : b < w.heap.size := block_lt_of_cell (hcells k hlt)
      have hcell := (hst.bel.cell (p := ⟨b, off + k, none⟩) hb).trans (hcells k hlt)
      clear hcells
      generalize hz : zs.getD k 0 = z at hcell
      have Hz := Lib.hid hz
      clear hz
      have hs32 := hstk.le
      go_upto_if 31 with fail
      go_cut [] (fun wx => ∃ (s' : List Int) (m' : Int) (a' : Option Addr) (c' : Nat), Stk s' ∧ PlaySt w wx s' m' a' c' s' m')
      case first =>
        by_cases hz0 : 0 ≤ z
        · by_cases hmay : mayB z s = true
          · obtain ⟨hstk2, hs31⟩ := hstk.push hmay
            have Hmay := Lib.hid hmay
            clear hmay
            have hx := hst.nest
            go_wp2_with (go_at_call 21; refine (enter_yes w.heap.size 0 z s m _ hx hs31 hst.sz0 Hmay.out).mono ?_; rintro e w1 ⟨rfl, hn, hg⟩)
            have st1 := hst.nestOnly hn hg
            have hc1 := (only_cell hg (p := ⟨b, off + k, none⟩) (by have := hst.sz0; show b < _; omega) (by show b ≠ _; omega)).trans hcell
            clear hx hn hg hcell hst
            have hx0 := st1.x0
            have hx1 := st1.x1
            have hs1 := st1.sz1
            have stA := fun o => st1.below (below_one w1 o).drew
            have hcA := fun o => ((below_one w1 o).drew.cell (p := ⟨b, off + k, none⟩) (Nat.lt_trans hb st1.sz0)).trans hc1
            go_region_held3 (fun W => W.cell? ⟨w.heap.size + 1, 0, none⟩ = some (.slice a s.length c) ∧ W.cell? ⟨w.heap.size + 1, 1, none⟩ = some (.int .i64 m) ∧ W.cell? ⟨b, off + k, none⟩ = some (.int .i64 z)) (first | (go_keep; done) | exact ⟨st2.x0, st2.x1, hc2⟩ | exact ⟨(set_far (by show w1.heap.size ≠ w.heap.size + 1; omega)).trans ((set_far (by show w1.heap.size ≠ w.heap.size + 1; omega)).trans hy0), (set_far (by show w1.heap.size ≠ w.heap.size + 1; omega)).trans ((set_far (by show w1.heap.size ≠ w.heap.size + 1; omega)).trans hy1), (set_far (by show w1.heap.size ≠ b; omega)).trans ((set_far (by show w1.heap.size ≠ b; omega)).trans hc2)⟩) (first
              | (go_at_call 22; refine (refEnter_yes (w.heap.size + 2) z (.slice a s.length c) s m _ st1.drew.lv Hmay.out hs32).mono ?_; rintro e w2 ⟨v', rfl, hl, hb2⟩; obtain ⟨a', c', rfl, hr2⟩ := hl.shape; have st2 := st1.drew.below hb2; have hc2 := (hb2.cell (p := ⟨b, off + k, none⟩) (Nat.lt_trans hb st1.sz0)).trans hc1; obtain ⟨hcl, hfr⟩ := bcell hb2; have hy0 := st2.x0; have hy1 := st2.x1; have hzz := st2.sz1; have hbb := Nat.lt_trans hb st2.sz0)
              | (go_at_call 22; refine (refEnter_yes (w.heap.size + 2) z (.slice a s.length c) s m _ (stA _).lv Hmay.out hs32).mono ?_; rintro e w2 ⟨v', rfl, hl, hb2⟩; obtain ⟨a', c', rfl, hr2⟩ := hl.shape; have st2 := (stA _).below hb2; have hc2 := (hb2.cell (p := ⟨b, off + k, none⟩) (Nat.lt_trans hb (stA _).sz0)).trans (hcA _); obtain ⟨hcl, hfr⟩ := bcell hb2; have hy0 := st2.x0; have hy1 := st2.x1; have hzz := st2.sz1; have hbb := Nat.lt_trans hb st2.sz0; have hyy := size_one_drew hb2))
            · have hf0 := st2.f0
              have hf1 := st2.f1
              rw [List.length_append, List.length_singleton] at *
              go_wp2
              go_meet
              case rel => exact ⟨s ++ [z], max m ((s.length : Int) + 1), a', c', hstk2, fin_behind st2.pb (by simp) _ _ (show w.heap.size + 2 ≤ w1.heap.size from hs1) hl⟩
            · have hf0 := st2.f0
              have hf1 := st2.f1
              rw [List.length_append, List.length_singleton] at *
              go_wp2
              go_meet
              case rel => exact ⟨s ++ [z], max m ((s.length : Int) + 1), a', c', hstk2, fin_ahead st2.pb (by simp) _ (show w.heap.size + 2 ≤ w1.heap.size from hs1) (by simp; omega) hl (fun g hg => by have := (hl.lt g hg).1; simp at this; omega) _ _⟩
          · have hmay := eq_false_of_ne_true hmay
            have Hmay := Lib.hid hmay
            clear hmay
            have hx := hst.nest
            go_wp2_with (go_at_call 21; refine (enter_no w.heap.size 0 z s m _ hx hs32 hst.sz0 Hmay.out).mono ?_; rintro e w1 ⟨rfl, hb1⟩)
            have st1 := hst.below hb1
            have hc1 := (hb1.cell (p := ⟨b, off + k, none⟩) (Nat.lt_trans hb hst.sz0)).trans hcell
            clear hx hb1 hcell hst
            have hx0 := st1.x0
            have hx1 := st1.x1
            have hs1 := st1.sz1
            have stA := fun o => st1.below (below_one w1 o).drew
            have hcA := fun o => ((below_one w1 o).drew.cell (p := ⟨b, off + k, none⟩) (Nat.lt_trans hb st1.sz0)).trans hc1
            go_region_held3 (fun W => W.cell? ⟨w.heap.size + 1, 0, none⟩ = some (.slice a s.length c) ∧ W.cell? ⟨w.heap.size + 1, 1, none⟩ = some (.int .i64 m) ∧ W.cell? ⟨b, off + k, none⟩ = some (.int .i64 z)) (first | (go_keep; done) | exact ⟨st2.x0, st2.x1, hc2⟩ | exact ⟨(set_far (by show w1.heap.size ≠ w.heap.size + 1; omega)).trans ((set_far (by show w1.heap.size ≠ w.heap.size + 1; omega)).trans hy0), (set_far (by show w1.heap.size ≠ w.heap.size + 1; omega)).trans ((set_far (by show w1.heap.size ≠ w.heap.size + 1; omega)).trans hy1), (set_far (by show w1.heap.size ≠ b; omega)).trans ((set_far (by show w1.heap.size ≠ b; omega)).trans hc2)⟩) (first
              | (go_at_call 22; refine (refEnter_no (w.heap.size + 2) z (.slice a s.length c) s m _ st1.drew.lv Hmay.out).mono ?_; rintro e w2 ⟨rfl, hb2⟩; have st2 := st1.drew.below hb2; have hc2 := (hb2.cell (p := ⟨b, off + k, none⟩) (Nat.lt_trans hb st1.sz0)).trans hc1; obtain ⟨hcl, hfr⟩ := bcell hb2; have hy0 := st2.x0; have hy1 := st2.x1; have hzz := st2.sz1; have hbb := Nat.lt_trans hb st2.sz0)
              | (go_at_call 22; refine (refEnter_no (w.heap.size + 2) z (.slice a s.length c) s m _ (stA _).lv Hmay.out).mono ?_; rintro e w2 ⟨rfl, hb2⟩; have st2 := (stA _).below hb2; have hc2 := (hb2.cell (p := ⟨b, off + k, none⟩) (Nat.lt_trans hb (stA _).sz0)).trans (hcA _); obtain ⟨hcl, hfr⟩ := bcell hb2; have hy0 := st2.x0; have hy1 := st2.x1; have hzz := st2.sz1; have hbb := Nat.lt_trans hb st2.sz0; have hyy := size_one_drew hb2))
            · have hf0 := st2.f0
              have hf1 := st2.f1
              go_wp2
              go_meet
              case rel => exact ⟨s, m, a, c, hstk, fin_behind st2.pb rfl _ _ (Nat.le_refl _) st2.lv⟩
            · have hf0 := st2.f0
              have hf1 := st2.f1
              go_wp2
              go_meet
              case rel => exact ⟨s, m, a, c, hstk, fin_ahead st2.pb rfl _ (show w.heap.size + 2 ≤ w1.heap.size from hs1) (Nat.le_refl _) st2.lv (fun g hg => by have := (st1.lv.lt g hg).2; omega) _ _⟩
        · have hz1 : z < 0 := by omega
          rcases snoc_cases s with rfl | ⟨s0, x, rfl⟩
          · have hx0 := hst.x0
            have hx1 := hst.x1
            have hf0 := hst.f0
            have hf1 := hst.f1
            have hs1 := hst.sz1
            simp only [List.length_nil] at hx0
            go_wp2_with (first
              | (go_at_call 23; refine (leave_none w.heap.size 0 m _ hst.nest).mono ?_; rintro e w1 ⟨rfl, rfl⟩)
              | (go_at_call 24; apply stop))
            refine Stop.go ?_
            refine (refLeave_none (w.heap.size + 2) (.slice a 0 c) m _ hst.lv).mono ?_
            rintro e w2 ⟨rfl, hb2⟩
            have st2 := hst.below hb2
            clear hx0 hx1 hf0 hf1 hs1
            have hx0 := st2.x0
            have hx1 := st2.x1
            have hf0 := st2.f0
            have hf1 := st2.f1
            have hs1 := st2.sz1
            simp only [List.length_nil] at hx0
            go_wp2
            go_meet
            case rel => exact ⟨[], m, a, c, hstk, fin_behind st2.pb rfl _ _ (Nat.le_refl _) st2.lv⟩
          · have hlen : (s0 ++ [x]).length = s0.length + 1 := by simp
            have hs0 : s0.length < 32 := by omega
            have Hlen := Lib.hid hlen
            clear hlen
            have hx := hst.nest
            go_wp2_with (go_at_call 23; apply stop)
            refine Stop.go ?_
            refine (leave_some w.heap.size 0 s0 x m _ hx hs0).mono ?_
            rintro e w1 ⟨rfl, hn, hg⟩
            have st1 := hst.nestOnly hn hg
            clear hx hn hg hst
            have hx0 := st1.x0
            have hx1 := st1.x1
            have hs1 := st1.sz1
            rw [Hlen.out] at hx0
            go_wp2_with (go_at_call 24; apply stop)
            refine Stop.go ?_
            refine (refLeave_some (w.heap.size + 2) (.slice a (s0.length + 1) c) s0 x m _ (by have := st1.lv; rwa [Hlen.out] at this)).mono ?_
            rintro e w2 ⟨v', rfl, hl, hb2⟩
            obtain ⟨a', c', rfl, _⟩ := hl.shape
            have st2 := st1.below hb2
            clear hx0 hx1 hs1
            have hx0 := st2.x0
            have hx1 := st2.x1
            have hf0 := st2.f0
            have hf1 := st2.f1
            have hs1 := st2.sz1
            rw [Hlen.out] at hx0
            go_wp2
            go_meet
            case rel => exact ⟨s0, m, a', c', hstk.pop, fin_behind st2.pb rfl _ _ (Nat.le_refl _) hl⟩
      case rest =>
        obtain ⟨s', m', a', c', hstk', hst'⟩ := hcut
        have hs32' := hstk'.le
        have hsl : s'.length ≤ 9223372036854775807 := by omega
        have hx0 := hst'.x0
        have hx1 := hst'.x1
        clear hst hcell
        go_wp2
        go_region_held3 (fun W => W.cell? ⟨w.heap.size + 1, 0, none⟩ = some (.slice a' s'.length c') ∧ W.cell? ⟨w.heap.size + 1, 1, none⟩ = some (.int .i64 m')) (first | (go_keep; done) | exact ⟨st2.x0, st2.x1⟩ | exact ⟨st3.x0, st3.x1⟩)
          (first
            | (go_at_call 25; refine (top_any w.heap.size 0 s' m' _ hst'.drew.nest hs32').mono ?_; rintro e w1 ⟨rfl, n1, rfl⟩)
            | (go_at_call 26; refine (refTop_any (w.heap.size + 2) _ s' m' _ (hst'.drewN _).lv).mono ?_; rintro e w2 ⟨rfl, hb2⟩; have st2 := (hst'.drewN _).below hb2)
            | (go_at_call 27; refine (deep_any w.heap.size 0 s' m' _ st2.nest).mono ?_; rintro e w3 ⟨rfl, rfl⟩)
            | (go_at_call 28; refine (most_any w.heap.size 0 s' m' _ st2.nest).mono ?_; rintro e w3 ⟨rfl, rfl⟩)
            | (go_at_call 30; refine (list_any w.heap.size 0 s' m' _ st2.nest hs32' st2.sz0).mono ?_; rintro e w4 ⟨rfl, hh4, hb4⟩; have st3 := st2.below hb4; have Hh4 := Lib.hid hh4; clear hh4)
            | (go_at_call 29; refine (same_any _ a' s'.length c' s' s' _ (reads_of_heap Hh4.out hsl) (Lv.reads st3.lv hsl)).mono ?_; rintro e w5 ⟨rfl, n5, rfl⟩))
        all_goals
          have hst3 := st3.drewN n5
          clear st2 st3 hst' hx0 hx1 hb2 hb4 Hh4
          go_wp2
          go_roundw
          case rel => exact ⟨k + 1, s', m', a', c', by omega, by go_num, hstk', hst3⟩
          case measure => simp [intOf]; omega
    · obtain rfl : k = zs.length := by omega
      have hbel := hst.bel
      clear hst
      go_wp2_with (go_at_call 20; refine (alive08 _).mono ?_; rintro e w' ⟨rfl, hb⟩)
      go_ret
      exact ⟨rfl, below_trans hbel hb⟩

set_option maxHeartbeats 1000000 in
theorem walkBig (p : Option Addr) (cap n : Nat) (w : World) (hm : 100 < n) :
    Calls Try.prog 4 #[.slice p n cap] w fun e w' => e = .returned (.bool true) ∧ Below w.heap.size w w' := by
  have hgt : decide ((100 : Int) < (n : Int)) = true := decide_eq_true (by omega)
  go_enter Try.func4, Try.ntmps4
  go_wp2_with (go_at_call 20; refine (alive08 _).mono ?_; rintro e w' ⟨rfl, hb⟩)
  go_ret
  exact ⟨rfl, hb⟩

theorem walkAll (p : Option Addr) (cap : Nat) (zs : List Int) (w : World) (hp : Reads w p zs) :
    Calls Try.prog 4 #[.slice p zs.length cap] w fun e w' => e = .returned (.bool true) ∧ Below w.heap.size w w' := by
  by_cases h : zs.length ≤ 100
  · exact walk p cap zs w h hp
  · exact walkBig p cap zs.length w (by omega)

end Go.Proofs.Ytebhojbllhjkeaa.nestPlays
