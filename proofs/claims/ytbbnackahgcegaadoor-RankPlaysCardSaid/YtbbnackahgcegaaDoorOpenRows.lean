/- Arguments that are structs of scalars, and rows of them, opened. No function of the program is in sight. -/
import Derived.Test.YtbbnackahgcegaaDoorKit
import Derived.ProofKit
import Derived.OpenShut
import Derived.ChangeOld
namespace Go.Proofs.YtbbnackahgcegaaDoor
open Go.ChangeShapes Go.WideShapes Go.ChangeAt Go.RowKit
set_option linter.all false

/-- whatever reads as a 't' has cells that are C -/
def Cellwise (P : Program) (t : TypeId) (C : List Value → Prop) : Prop := ∀ {H : Type} (enc : TypeId × Value → H) (w : World) (base : Nat) (sp : Nat → Bool) (held : Bool) (fuel : Nat) (cs : List Value) (x : DataW H × List MemPlace), DataW.trod enc P w base sp held fuel t cs = some x → C cs

theorem cw_int {P : Program} {t : TypeId} {k : IntKind} (ht : P.underlying t = some (.int k)) : Cellwise P t (fun cs => ∃ n, cs = [.int k n] ∧ (Lit.int k n).wf = true) := by
  intro H enc w base sp held fuel cs x h
  obtain ⟨n, hc, _, hw⟩ := DataW.trod_int ht h
  exact ⟨n, hc, hw⟩
theorem cw_bool {P : Program} {t : TypeId} (ht : P.underlying t = some .bool) : Cellwise P t (fun cs => ∃ b, cs = [.bool b]) := by
  intro H enc w base sp held fuel cs x h
  cases fuel with
  | zero => simp [DataW.trod] at h
  | succ n =>
    unfold DataW.trod at h
    rw [ht] at h
    split at h <;> simp_all

/-- a struct, field by field -/
theorem cw_field {P : Program} {t : TypeId} {fs : Array Field} (ht : P.underlying t = some (.struct fs)) {cs : List Value} {H : Type} {enc : TypeId × Value → H} {w : World} {base : Nat} {sp : Nat → Bool} {held : Bool} {fuel : Nat} {x : DataW H × List MemPlace}
    (h : DataW.trod enc P w base sp held fuel t cs = some x) : cs.length = P.cellsOf t ∧ ∀ (i : Nat) (f : Field) (C : List Value → Prop), fs[i]? = some f → Cellwise P f.type C → C ((cs.drop f.offset).take (P.cellsOf f.type)) := by
  obtain ⟨xs, n, _, _, hl, hx, hf⟩ := DataW.trod_struct ht h
  refine ⟨hl, fun i f C hi hC => ?_⟩
  have h0 := hf i f hi
  have hlt : i < xs.length := by rw [hx]; exact (Array.getElem?_eq_some_iff.1 hi).1
  rw [List.getElem?_eq_getElem hlt] at h0
  exact hC enc w base sp held n _ _ h0

theorem agg_of {P : Program} {t : TypeId} {fs : Array Field} {C : List Value → Prop} (ht : P.underlying t = some (.struct fs)) (hC : Cellwise P t C) {H : Type} {enc : TypeId × Value → H} {w : World} {base : Nat} {sp : Nat → Bool} {held : Bool} {r : Reach} {b0 : Nat} {v : Value} {d : DataW H} {ps : List MemPlace}
    (hval : Value.okWide P w r b0 t v) (hd : DataW.Trod enc P w base sp held t v d ps) : ∃ cs : Array Value, v = .agg cs ∧ C cs.toList := by
  obtain ⟨cs, rfl, _⟩ := okWide_struct ht hval
  obtain ⟨fuel, hf⟩ := hd
  exact ⟨cs, rfl, hC enc w base sp held fuel _ _ hf⟩

/-- a row: element by element -/
theorem rows_of {P : Program} {t e : TypeId} {C : List Value → Prop} {c : Nat} (ht : P.underlying t = some (.slice e)) (hC : Cellwise P e C) (hc : P.cellsOf e = c) {H : Type} {enc : TypeId × Value → H} {w : World} {base : Nat} {sp : Nat → Bool} {held : Bool} {a : Option Addr} {len cap : Nat} {d : DataW H} {ps : List MemPlace}
    (hd : DataW.Trod enc P w base sp held t (.slice a len cap) d ps) (hpos : 0 < len) (hc0 : 0 < c) :
    ∃ b off, a = some ⟨b, off, none⟩ ∧ ∀ i, i < len → ∃ cs, C cs ∧ cs.length = c ∧ ∀ j, j < c → w.cell? ⟨b, off + i * c + j, none⟩ = cs[j]? := by
  obtain ⟨fuel, hf⟩ := hd
  rcases DataW.trod_slice ht hf with ⟨h0, _⟩ | ⟨ad, len', cap', elems, rest, n, _, hcs, _, hb, hl, hm, hel, hat, _, _⟩
  · simp [Value.cells] at h0
    omega
  · simp [Value.cells] at hcs
    obtain ⟨rfl, rfl, rfl⟩ := hcs
    have each : ∀ i, i < len → ∃ cs, C cs ∧ cs.length = c ∧ ∀ j, j < c → w.cell? ((ad.add (i * c)).add j) = cs[j]? := by
      intro i hi
      have h1 := hat i hi
      rw [hc, List.getElem?_eq_getElem (by omega), Option.bind_eq_some_iff] at h1
      obtain ⟨cs, hcc, hx⟩ := h1
      obtain ⟨_, hlen, hce⟩ := World.cells?_some hcc
      exact ⟨cs, hC _ _ _ _ _ _ _ _ hx, hlen, hce⟩
    obtain ⟨b, off, spot⟩ := ad
    obtain ⟨cs, _, hlen, hce⟩ := each 0 hpos
    have h00 := hce 0 hc0
    rw [List.getElem?_eq_getElem (by omega)] at h00
    have hspot : spot = none := by simpa [Addr.add] using World.cell?_spot h00
    subst hspot
    refine ⟨b, off, rfl, fun i hi => ?_⟩
    obtain ⟨cs, h1, h2, h3⟩ := each i hi
    exact ⟨cs, h1, h2, fun j hj => by have := h3 j hj; rwa [add_plain, add_plain] at this⟩

theorem gatherR {α : Type} (d : α) (Q : Nat → α → Prop) : ∀ n : Nat, (∀ i, i < n → ∃ z, Q i z) → ∃ zs : List α, zs.length = n ∧ ∀ i, i < n → Q i (zs.getD i d)
  | 0, _ => ⟨[], rfl, fun i hi => by omega⟩
  | m + 1, each => by
    obtain ⟨zs, hzl, hz⟩ := gatherR d Q m (fun i hi => each i (by omega))
    obtain ⟨z, h1⟩ := each m (by omega)
    refine ⟨zs ++ [z], by simp [hzl], fun i hi => ?_⟩
    rcases Nat.lt_or_ge i m with h | h
    · rw [show (zs ++ [z]).getD i d = zs.getD i d by simp [List.getElem?_append_left (show i < zs.length by omega)]]
      exact hz i h
    · obtain rfl : i = m := by omega
      rw [show (zs ++ [z]).getD i d = z by simp [← hzl]]
      exact h1
end Go.Proofs.YtbbnackahgcegaaDoor
