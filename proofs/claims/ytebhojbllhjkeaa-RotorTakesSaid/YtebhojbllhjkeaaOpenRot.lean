/- Arguments that are rotors, opened. No function of the program is in sight. -/
import Derived.Test.YtebhojbllhjkeaaRotor
import Derived.ProofKit
import Derived.OpenShut
import Derived.ChangeOld
namespace Go.Proofs.Ytebhojbllhjkeaa
open Go.ChangeShapes Go.WideShapes Go.ChangeAt Go.RowKit
set_option linter.all false
section
variable {H : Type} {enc : TypeId × Value → H} {P : Program} {w : World} {base : Nat} {spare : Nat → Bool} {held : Bool}

/-- a type of two whole numbers -/
structure PtT (P : Program) (t : TypeId) : Prop where
  two : ∃ fs : Array Field, P.underlying t = some (.struct fs) ∧ ∃ f0 f1, fs[0]? = some f0 ∧ fs[1]? = some f1 ∧ f0.offset = 0 ∧ f1.offset = 1 ∧ P.underlying f0.type = some (.int .i64) ∧ P.underlying f1.type = some (.int .i64) ∧ P.cellsOf f0.type = 1 ∧ P.cellsOf f1.type = 1
  size : P.cellsOf t = 2
theorem PtT.cells {t : TypeId} (T : PtT P t) {fuel : Nat} {cs : List Value} {x : DataW H × List MemPlace} (h : DataW.trod enc P w base spare held fuel t cs = some x) : ∃ a b, cs = [.int .i64 a, .int .i64 b] := by
  obtain ⟨fs, ht, f0, f1, e0, e1, o0, o1, t0, t1, c0, c1⟩ := T.two
  obtain ⟨xs, n, _, _, hl, hx, hf⟩ := DataW.trod_struct ht h
  rw [T.size] at hl
  have hs : 2 ≤ fs.size := by
    have := (Array.getElem?_eq_some_iff.1 e1).1
    omega
  have h0 := hf 0 f0 e0
  have h1 := hf 1 f1 e1
  rw [List.getElem?_eq_getElem (by omega), o0, c0] at h0
  rw [List.getElem?_eq_getElem (by omega), o1, c1] at h1
  obtain ⟨a, ha, _⟩ := DataW.trod_int t0 h0
  obtain ⟨b, hb, _⟩ := DataW.trod_int t1 h1
  match cs, hl, ha, hb with
  | [u, v], _, ha, hb =>
    simp at ha hb
    exact ⟨a, b, by rw [ha, hb]⟩

/-- a type of three points and a number -/
structure RotT (P : Program) (t : TypeId) : Prop where
  four : ∃ fs : Array Field, P.underlying t = some (.struct fs) ∧ ∃ f0 f1 f2 f3, fs[0]? = some f0 ∧ fs[1]? = some f1 ∧ fs[2]? = some f2 ∧ fs[3]? = some f3 ∧ f0.offset = 0 ∧ f1.offset = 2 ∧ f2.offset = 4 ∧ f3.offset = 6 ∧ PtT P f0.type ∧ PtT P f1.type ∧ PtT P f2.type ∧ P.underlying f3.type = some (.int .i64) ∧ P.cellsOf f3.type = 1
  size : P.cellsOf t = 7
theorem RotT.cells {t : TypeId} (T : RotT P t) {fuel : Nat} {cs : List Value} {x : DataW H × List MemPlace} (h : DataW.trod enc P w base spare held fuel t cs = some x) :
    ∃ (z a c : Pt) (p : Int), cs = [.int .i64 z.1, .int .i64 z.2, .int .i64 a.1, .int .i64 a.2, .int .i64 c.1, .int .i64 c.2, .int .i64 p] := by
  obtain ⟨fs, ht, f0, f1, f2, f3, e0, e1, e2, e3, o0, o1, o2, o3, t0, t1, t2, t3, c3⟩ := T.four
  obtain ⟨xs, n, _, _, hl, hx, hf⟩ := DataW.trod_struct ht h
  rw [T.size] at hl
  have hs : 4 ≤ fs.size := by
    have := (Array.getElem?_eq_some_iff.1 e3).1
    omega
  have h0 := hf 0 f0 e0
  have h1 := hf 1 f1 e1
  have h2 := hf 2 f2 e2
  have h3 := hf 3 f3 e3
  rw [List.getElem?_eq_getElem (by omega), o0, t0.size] at h0
  rw [List.getElem?_eq_getElem (by omega), o1, t1.size] at h1
  rw [List.getElem?_eq_getElem (by omega), o2, t2.size] at h2
  rw [List.getElem?_eq_getElem (by omega), o3, c3] at h3
  obtain ⟨z1, z2, hz⟩ := t0.cells h0
  obtain ⟨a1, a2, ha⟩ := t1.cells h1
  obtain ⟨c1, c2, hc⟩ := t2.cells h2
  obtain ⟨p, hp, _⟩ := DataW.trod_int t3 h3
  match cs, hl, hz, ha, hc, hp with
  | [u0, u1, u2, u3, u4, u5, u6], _, hz, ha, hc, hp =>
    simp at hz ha hc hp
    exact ⟨(z1, z2), (a1, a2), (c1, c2), p, by rw [hz.1, hz.2, ha.1, ha.2, hc.1, hc.2, hp]⟩

theorem open_rot {t : TypeId} (T : RotT P t) {r : Reach} {b0 : Nat} {v : Value} {d : DataW H} {ps : List MemPlace} (hval : Value.okWide P w r b0 t v) (hd : DataW.Trod enc P w base spare held t v d ps) : ∃ (z a c : Pt) (p : Int), v = rotV z a c p := by
  obtain ⟨fs, ht, _⟩ := T.four
  obtain ⟨cs, rfl, _⟩ := okWide_struct ht hval
  obtain ⟨fuel, hf⟩ := hd
  obtain ⟨z, a, c, p, hc⟩ := T.cells hf
  refine ⟨z, a, c, p, ?_⟩
  have e : cs.toList = [.int .i64 z.1, .int .i64 z.2, .int .i64 a.1, .int .i64 a.2, .int .i64 c.1, .int .i64 c.2, .int .i64 p] := hc
  have e2 : cs = #[.int .i64 z.1, .int .i64 z.2, .int .i64 a.1, .int .i64 a.2, .int .i64 c.1, .int .i64 c.2, .int .i64 p] := Array.toList_inj.1 e
  rw [e2]
end
end Go.Proofs.Ytebhojbllhjkeaa
