/- Arguments that are made of two whole numbers, and rows of them, opened. No function of the program is in sight. -/
import Derived.Test.YtebhojbllhjkeaaGauss
import Derived.Test.YtebhojbllhjkeaaGaussSum
import Derived.ProofKit
import Derived.OpenShut
import Derived.ChangeOld
namespace Go.Proofs.Ytebhojbllhjkeaa
open Go.ChangeShapes Go.WideShapes Go.ChangeAt Go.RowKit
set_option linter.all false

theorem gather (Q : Nat → Int × Int → Prop) : ∀ n : Nat, (∀ i, i < n → ∃ z, Q i z) → ∃ zs : List (Int × Int), zs.length = n ∧ ∀ i, i < n → Q i (zs.getD i (0, 0))
  | 0, _ => ⟨[], rfl, fun i hi => by omega⟩
  | m + 1, each => by
    obtain ⟨zs, hzl, hz⟩ := gather Q m (fun i hi => each i (by omega))
    obtain ⟨z, h1⟩ := each m (by omega)
    refine ⟨zs ++ [z], by simp [hzl], fun i hi => ?_⟩
    rcases Nat.lt_or_ge i m with h | h
    · rw [show (zs ++ [z]).getD i (0, 0) = zs.getD i (0, 0) by simp [List.getElem?_append_left (show i < zs.length by omega)]]
      exact hz i h
    · obtain rfl : i = m := by omega
      rw [show (zs ++ [z]).getD i (0, 0) = z by simp [← hzl]]
      exact h1

section
variable {H : Type} {enc : TypeId × Value → H} {P : Program} {w : World} {base : Nat} {spare : Nat → Bool} {held : Bool}

/-- a type of two whole numbers -/
structure TwoInts (P : Program) (t : TypeId) : Prop where
  two : ∃ fs : Array Field, P.underlying t = some (.struct fs) ∧ ∃ f0 f1, fs[0]? = some f0 ∧ fs[1]? = some f1 ∧ f0.offset = 0 ∧ f1.offset = 1 ∧ P.underlying f0.type = some (.int .i64) ∧ P.underlying f1.type = some (.int .i64) ∧ P.cellsOf f0.type = 1 ∧ P.cellsOf f1.type = 1
  size : P.cellsOf t = 2

theorem TwoInts.cells {t : TypeId} (T : TwoInts P t) {fuel : Nat} {cs : List Value} {x : DataW H × List MemPlace} (h : DataW.trod enc P w base spare held fuel t cs = some x) : ∃ a b, cs = [.int .i64 a, .int .i64 b] := by
  obtain ⟨fs, ht, f0, f1, e0, e1, o0, o1, t0, t1, c0, c1⟩ := T.two
  obtain ⟨xs, n, _, _, hl, hx, hf⟩ := DataW.trod_struct ht h
  rw [T.size] at hl
  have hs : 2 ≤ fs.size := by
    have := (Array.getElem?_eq_some_iff.1 e1).1
    omega
  have h0 := hf 0 f0 e0
  have h1 := hf 1 f1 e1
  rw [List.getElem?_eq_getElem (by omega), o0, c0] at h0
  rw [List.getElem?_eq_getElem (by omega), o1, c1] at h1
  obtain ⟨a, ha, _⟩ := DataW.trod_int t0 h0
  obtain ⟨b, hb, _⟩ := DataW.trod_int t1 h1
  match cs, hl, ha, hb with
  | [u, v], _, ha, hb =>
    simp at ha hb
    exact ⟨a, b, by rw [ha, hb]⟩

theorem open_num {t : TypeId} (T : TwoInts P t) {r : Reach} {b0 : Nat} {v : Value} {d : DataW H} {ps : List MemPlace} (hval : Value.okWide P w r b0 t v) (hd : DataW.Trod enc P w base spare held t v d ps) : ∃ a b, v = .agg #[.int .i64 a, .int .i64 b] := by
  obtain ⟨fs, ht, _⟩ := T.two
  obtain ⟨cs, rfl, _⟩ := okWide_struct ht hval
  obtain ⟨fuel, hf⟩ := hd
  obtain ⟨a, b, hc⟩ := T.cells hf
  refine ⟨a, b, ?_⟩
  have e : cs.toList = [.int .i64 a, .int .i64 b] := hc
  rw [← Array.toList_inj.1 (show cs.toList = (#[.int .i64 a, .int .i64 b] : Array Value).toList from e)]

theorem open_nums {t e : TypeId} (ht : P.underlying t = some (.slice e)) (T : TwoInts P e) {a : Option Addr} {len cap : Nat} {d : DataW H} {ps : List MemPlace} (hd : DataW.Trod enc P w base spare held t (.slice a len cap) d ps) (hlen : len ≤ 1000000) :
    ∃ zs : List (Int × Int), len = zs.length ∧ ReadsN w a zs := by
  obtain ⟨fuel, hf⟩ := hd
  rcases DataW.trod_slice ht hf with ⟨h0, _⟩ | ⟨ad, len', cap', elems, rest, n, _, hcs, _, hb, hl, hm, hel, hat, _, _⟩
  · simp [Value.cells] at h0
    obtain ⟨rfl, rfl, rfl⟩ := h0
    exact ⟨[], rfl, by simp, fun h => by simp at h⟩
  · simp [Value.cells] at hcs
    obtain ⟨rfl, rfl, rfl⟩ := hcs
    have each : ∀ i, i < len → ∃ z : Int × Int, w.cell? (ad.add (i * 2)) = some (.int .i64 z.1) ∧ w.cell? ((ad.add (i * 2)).add 1) = some (.int .i64 z.2) := by
      intro i hi
      have h1 := hat i hi
      rw [T.size, List.getElem?_eq_getElem (by omega), Option.bind_eq_some_iff] at h1
      obtain ⟨cs, hc, hx⟩ := h1
      obtain ⟨u, v, rfl⟩ := T.cells hx
      obtain ⟨_, _, hcc⟩ := World.cells?_some hc
      exact ⟨(u, v), by simpa [Addr.add] using hcc 0 (by omega), hcc 1 (by omega)⟩
    have hz : ∃ zs : List (Int × Int), zs.length = len ∧ ∀ i, i < len → w.cell? (ad.add (i * 2)) = some (.int .i64 (zs.getD i (0, 0)).1) ∧ w.cell? ((ad.add (i * 2)).add 1) = some (.int .i64 (zs.getD i (0, 0)).2) := by
      exact gather (fun i z => w.cell? (ad.add (i * 2)) = some (.int .i64 z.1) ∧ w.cell? ((ad.add (i * 2)).add 1) = some (.int .i64 z.2)) len each
    obtain ⟨zs, hzl, hz⟩ := hz
    refine ⟨zs, hzl.symm, by omega, fun h => ?_⟩
    obtain ⟨b, off, spot⟩ := ad
    have hspot : spot = none := by simpa [Addr.add] using World.cell?_spot (hz 0 (by omega)).1
    subst hspot
    refine ⟨b, off, rfl, ?_, fun i hi => ?_⟩
    · have := (hz 0 (by omega)).1
      rw [add_plain] at this
      exact block_lt_of_cell this
    · have := hz i (by omega)
      rw [add_plain, add_plain] at this
      exact this
end
end Go.Proofs.Ytebhojbllhjkeaa
