/- rotor's Next. -/
import Derived.Test.YtebhojbllhjkeaaRotorTurn
namespace Go.Proofs.Ytebhojbllhjkeaa
open Go.RowKit
set_option linter.all false
attribute [local go_sem] run_store_cx

/-- Next's own memory -/
structure XM (w W : World) (z a c : Pt) (p : Int) : Prop where
  b : RB W w.heap.size z a c p
  r : RB W (w.heap.size + 1) (0, 0) (0, 0) (0, 0) 0
  bel : Below w.heap.size w W
theorem XM.below {w W W' : World} {z a c : Pt} {p : Int} (h : XM w W z a c p) (hb : Below W.heap.size W W') : XM w W' z a c p := ⟨h.b.up hb, h.r.up hb, below_trans h.bel hb⟩
theorem XM.drew {w W : World} {z a c : Pt} {p : Int} (h : XM w W z a c p) : XM w W.drew z a c p := h.below (Below.refl _ _).drew
abbrev Rot7 (W : World) (B : Nat) (z a c : Pt) (p : Int) : Prop := W.cell? ⟨B, 0, none⟩ = some (.int .i64 z.1) ∧ W.cell? ⟨B, 1, none⟩ = some (.int .i64 z.2) ∧ W.cell? ⟨B, 2, none⟩ = some (.int .i64 a.1) ∧ W.cell? ⟨B, 3, none⟩ = some (.int .i64 a.2) ∧ W.cell? ⟨B, 4, none⟩ = some (.int .i64 c.1) ∧ W.cell? ⟨B, 5, none⟩ = some (.int .i64 c.2) ∧ W.cell? ⟨B, 6, none⟩ = some (.int .i64 p)
theorem RB.all {W : World} {B : Nat} {z a c : Pt} {p : Int} (h : RB W B z a c p) : Rot7 W B z a c p := ⟨h.x0, h.x1, h.x2, h.x3, h.x4, h.x5, h.x6⟩
theorem XM.all {w W : World} {z a c : Pt} {p : Int} (h : XM w W z a c p) : Rot7 W w.heap.size z a c p := h.b.all
theorem XM.stored {w W : World} {z a c z' a' c' : Pt} {p p' : Int} (h : XM w W z a c p) : Rot7 (set7 W (w.heap.size + 1) z' a' c' p') w.heap.size z a c p := (h.b.far7 (by omega)).all
theorem XM.new (w : World) (z a c : Pt) (p : Int) (t t' : TypeId) : XM w ((w.alloc (.cells #[.int .i64 z.1, .int .i64 z.2, .int .i64 a.1, .int .i64 a.2, .int .i64 c.1, .int .i64 c.2, .int .i64 p] t)).alloc (.cells #[.int .i64 0, .int .i64 0, .int .i64 0, .int .i64 0, .int .i64 0, .int .i64 0, .int .i64 0] t')) z a c p := by
  refine ⟨(RB.new w z a c p _).up (below_one _ _), ?_, below_two _ _ _⟩
  have := RB.new (w.alloc (.cells #[.int .i64 z.1, .int .i64 z.2, .int .i64 a.1, .int .i64 a.2, .int .i64 c.1, .int .i64 c.2, .int .i64 p] t)) (0, 0) (0, 0) (0, 0) 0 t'
  rwa [show (w.alloc (.cells #[.int .i64 z.1, .int .i64 z.2, .int .i64 a.1, .int .i64 a.2, .int .i64 c.1, .int .i64 c.2, .int .i64 p] t)).heap.size = w.heap.size + 1 by simp] at this

abbrev rotN : Value := rotV (0, 0) (0, 0) (0, 0) 0

set_option maxRecDepth 10000 in
set_option maxHeartbeats 2000000 in
theorem rnext_yes (z a c : Pt) (p : Int) (w : World) (h : rrB z a c p = true) :
    Calls Try.prog 58 #[rotV z a c p] w fun e w' => e = .returned (.tuple #[rotV (ap a c p z) a c p, .bool true]) ∧ Below w.heap.size w w' := by
  obtain ⟨hp, hz, ha, hc⟩ := of_rrB h
  have hri := fun W => rright_any z a c p W
  rw [h] at hri
  have htu := fun W => rturn_any z a c p W
  have hdo := fun W => rdone_any a c z a c p W hp ha hc hz
  have St0 := Lib.hid (XM.new w z a c p 75 75)
  clear hz ha hc h
  generalize ap a c p z = z' at *
  go_enter Try.func58, Try.ntmps58
  go_upto_region 3 with (go_at_call 62; refine (hri _).mono ?_; rintro e w1 ⟨rfl, hb1⟩; have st1 := St0.out.below hb1)
  refine wp_gen (fun W => XM w W z a c p) st1 ?_
  clear st1 St0 hb1 hri
  intro W hT
  obtain ⟨h0, h1, h2, h3, h4, h5, h6⟩ := hT.all
  go_region_with (first
    | (go_at_call 81; with_reducible refine (htu _).mono ?_; rintro e w3 ⟨rfl, hb3⟩; have st3 := XM.below (by first | assumption | exact XM.drew (by assumption)) hb3; obtain ⟨k0, k1, k2, k3, k4, k5, k6⟩ := st3.all)
    | (go_at_call 82; with_reducible refine (hdo _).mono ?_; rintro e w4 ⟨rfl, hb4⟩; have st4 := XM.below (by first | assumption | exact XM.drew (by assumption)) hb4; obtain ⟨y0, y1, y2, y3, y4, y5, y6, g0, g1, g2, g3, g4, g5, g6⟩ := st4.r))
  all_goals
    go_wp2
    exact bodyPost_ret (v := .tuple #[rotV z' a c p, .bool true]) (by simp [results, Try.results58, go_sem, y0, y1, y2, y3, y4, y5, y6]) rfl ⟨rfl, below_set7 st4.bel (by omega)⟩
set_option maxRecDepth 10000 in
set_option maxHeartbeats 1000000 in
theorem rnext_no (z a c : Pt) (p : Int) (w : World) (h : rrB z a c p = false) :
    Calls Try.prog 58 #[rotV z a c p] w fun e w' => e = .returned (.tuple #[rotN, .bool false]) ∧ Below w.heap.size w w' := by
  have hri := fun W => rright_any z a c p W
  rw [h] at hri
  have St0 := Lib.hid (XM.new w z a c p 75 75)
  go_enter Try.func58, Try.ntmps58
  go_wp2_with (go_at_call 62; refine (hri _).mono ?_; rintro e w1 ⟨rfl, hb1⟩; have st1 := St0.out.below hb1; obtain ⟨y0, y1, y2, y3, y4, y5, y6, g0, g1, g2, g3, g4, g5, g6⟩ := st1.r)
  exact bodyPost_ret (v := .tuple #[rotN, .bool false]) (by simp [results, Try.results58, go_sem, y0, y1, y2, y3, y4, y5, y6]) rfl ⟨rfl, below_set7 (z := (0, 0)) (a := (0, 0)) (c := (0, 0)) (p := 0) st1.bel (by omega)⟩
end Go.Proofs.Ytebhojbllhjkeaa
