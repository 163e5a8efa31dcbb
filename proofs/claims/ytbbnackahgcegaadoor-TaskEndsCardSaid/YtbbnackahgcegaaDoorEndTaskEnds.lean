/- TaskEnds' card. -/
import Derived.Test.YtbbnackahgcegaaDoorLawTaskEnds
import Derived.Test.YtbbnackahgcegaaDoorOpenRows
import Derived.Test.YtbbnackahgcegaaDoorDoorC
namespace Go.Proofs.YtbbnackahgcegaaDoor.taskEnds
open Go.ChangeShapes Go.WideShapes Go.ChangeAt Go.RowKit door
set_option linter.all false

set_option maxRecDepth 100000 in
theorem cw_ans : Cellwise Tryd.prog 49 (fun cs => ∃ x y z, cs = [.bool x, .int .u32 y, .int .u32 z]) := by
  intro H enc w base sp held fuel cs x h
  obtain ⟨hl, hf⟩ := cw_field Tryd.underlying49 h
  obtain ⟨b, hb⟩ : ∃ b, (cs.drop 0).take (Tryd.prog.cellsOf 4) = [.bool b] := hf 0 _ _ rfl (cw_bool Tryd.underlying4)
  obtain ⟨y, hy, _⟩ : ∃ y, (cs.drop 1).take (Tryd.prog.cellsOf 25) = [.int .u32 y] ∧ (Lit.int .u32 y).wf = true := hf 1 _ _ rfl (cw_int Tryd.underlying25)
  obtain ⟨z, hz, _⟩ : ∃ z, (cs.drop 2).take (Tryd.prog.cellsOf 25) = [.int .u32 z] ∧ (Lit.int .u32 z).wf = true := hf 2 _ _ rfl (cw_int Tryd.underlying25)
  have hl3 : cs.length = 3 := hl.trans (by kernel_rfl)
  have e0 : Tryd.prog.cellsOf 4 = 1 := by kernel_rfl
  have e1 : Tryd.prog.cellsOf 25 = 1 := by kernel_rfl
  rw [e0] at hb
  rw [e1] at hy hz
  match cs, hl3, hb, hy, hz with
  | [u, v, t], _, hb, hy, hz =>
    simp at hb hy hz
    exact ⟨b, y, z, by rw [hb, hy, hz]⟩

set_option maxRecDepth 100000 in
theorem cw_step : Cellwise Tryd.prog 58 (fun cs => ∃ k s x y z u, cs = [.int .i64 k, .int .i64 s, .bool x, .int .u32 y, .int .u32 z, .int .u32 u] ∧ 0 ≤ u ∧ u ≤ 4294967295) := by
  intro H enc w base sp held fuel cs x h
  obtain ⟨hl, hf⟩ := cw_field Tryd.underlying58 h
  obtain ⟨k, hk, _⟩ : ∃ k, (cs.drop 0).take (Tryd.prog.cellsOf 3) = [.int .i64 k] ∧ (Lit.int .i64 k).wf = true := hf 0 _ _ rfl (cw_int Tryd.underlying3)
  obtain ⟨s, hs, _⟩ : ∃ s, (cs.drop 1).take (Tryd.prog.cellsOf 3) = [.int .i64 s] ∧ (Lit.int .i64 s).wf = true := hf 1 _ _ rfl (cw_int Tryd.underlying3)
  obtain ⟨x, y, z, ha⟩ : ∃ x y z, (cs.drop 2).take (Tryd.prog.cellsOf 49) = [.bool x, .int .u32 y, .int .u32 z] := hf 2 _ _ rfl cw_ans
  obtain ⟨u, hu, hw⟩ : ∃ u, (cs.drop 5).take (Tryd.prog.cellsOf 25) = [.int .u32 u] ∧ (Lit.int .u32 u).wf = true := hf 3 _ _ rfl (cw_int Tryd.underlying25)
  have hl6 : cs.length = 6 := hl.trans (by kernel_rfl)
  have e0 : Tryd.prog.cellsOf 3 = 1 := by kernel_rfl
  have e1 : Tryd.prog.cellsOf 25 = 1 := by kernel_rfl
  have e2 : Tryd.prog.cellsOf 49 = 3 := by kernel_rfl
  have bd := bounds_u32 hw
  rw [e0] at hk hs
  rw [e1] at hu
  rw [e2] at ha
  match cs, hl6, hk, hs, ha, hu with
  | [c0, c1, c2, c3, c4, c5], _, hk, hs, ha, hu =>
    simp at hk hs ha hu
    exact ⟨k, s, x, y, z, u, by rw [hk, hs, ha.1, ha.2.1, ha.2.2, hu], bd.1, bd.2⟩

set_option maxRecDepth 100000 in
theorem open_rec {H : Type} {enc : TypeId × Value → H} {W : World} {base : Nat} {sp : Nat → Bool} {held : Bool} {r : Reach} {b0 : Nat} {v : Value} {d : DataW H} {ps : List MemPlace}
    (hval : Value.okWide Tryd.prog W r b0 49 v) (hd : DataW.Trod enc Tryd.prog W base sp held 49 v d ps) : ∃ x y z, v = ansV x y z ∧ True := by
  obtain ⟨cs, rfl, x, y, z, hc⟩ := agg_of Tryd.underlying49 cw_ans hval hd
  refine ⟨x, y, z, ?_, trivial⟩
  have e : cs = #[.bool x, .int .u32 y, .int .u32 z] := Array.toList_inj.1 hc
  rw [e]

set_option maxRecDepth 100000 in
theorem open_steps {H : Type} {enc : TypeId × Value → H} {W : World} {base : Nat} {sp : Nat → Bool} {held : Bool} {a : Option Addr} {len cap : Nat} {d : DataW H} {ps : List MemPlace}
    (hd : DataW.Trod enc Tryd.prog W base sp held 53 (.slice a len cap) d ps) : ReadsS W a len := by
  intro hpos
  obtain ⟨b, off, rfl, hr⟩ := rows_of Tryd.underlying53 cw_step (c := 6) (by kernel_rfl) hd hpos (by omega)
  have each : ∀ i, i < len → ∃ s x y z u, StepAt W b (off + i * 6) s x y z u ∧ 0 ≤ u ∧ u ≤ 4294967295 := fun i hi => by
    obtain ⟨cs, ⟨k, s, x, y, z, u, rfl, u0, u1⟩, _, hc⟩ := hr i hi
    exact ⟨s, x, y, z, u, ⟨hc 1 (by omega), hc 2 (by omega), hc 3 (by omega), hc 4 (by omega), hc 5 (by omega)⟩, u0, u1⟩
  obtain ⟨s, x, y, z, u, h, _⟩ := each 0 hpos
  exact ⟨b, off, rfl, block_lt_of_cell h.c1, each⟩

theorem laidOut : laidOutB Tryd.prog = true := by kernel_rfl
abbrev args0 : Array Value := #[.slice none 0 0, .agg #[.bool false, .int .u32 0, .int .u32 0]]
theorem laid_met (os : Os) : laidMet Tryd.prog Rows.taskEndsRow.laid ((laidWorld os).forCall (fun _ _ => 0) ⟨#[], args0, []⟩).memory :=
  laidMet_of_run' 64 (by kernel_rfl) (by kernel_rfl)
set_option maxRecDepth 100000 in
theorem reads (os : Os) {H : Type} (enc : TypeId × Value → H) : ∃ ds places, DataW.whole enc Tryd.prog ((laidWorld os).forCall (fun _ _ => 0) ⟨#[], args0, []⟩).memory Tryd.f6.params.toList Rows.taskEndsSpec.vars false args0.toList 8 = some (ds, [], places) :=
  ⟨[.nil, .agg [.lit (.bool false), .lit (.int .u32 0), .lit (.int .u32 0)]], [], by kernel_rfl⟩

set_option maxRecDepth 100000 in
theorem contract (H : Type) (enc : TypeId × Value → H) (W : World) (base : Nat) (args : Array Value) (ds gs : List (DataW H)) (before : List MemPlace)
    (hval0 : ∀ (j : Nat) t v, Tryd.f6.params[j]? = some t → args[j]? = some v → Value.okWide Tryd.prog W .any base t v)
    (hW : DataW.Whole enc Tryd.prog Tryd.f6.params.toList Rows.taskEndsSpec.vars false W args.toList ds gs before) (hL : laidMetH Tryd.prog Rows.taskEndsRow.laid W) :
    Calls Tryd.prog 6 args W fun e W' => ∃ v, e = .returned v ∧ Rows.taskEndsSpec.post enc Tryd.prog Tryd.f6 false true false false W args v W' := by
  have hval : ∀ (j : Nat) t v, Tryd.f6.params[j]? = some t → args[j]? = some v → Value.okWide Tryd.prog W .any base t v := hval0
  have hW' := hW
  obtain ⟨p, q, hA0, hV, rfl, hfz, hnd⟩ := hW
  have hA : DataW.TrodAll enc Tryd.prog W 0 (fun _ => true) true Tryd.f6.params.toList args.toList ds p := hA0
  rw [Tryd.params6] at hA hval
  obtain ⟨v0, vs0, d0, ds0, p0, q0, hargs, rfl, rfl, h0, r0⟩ := trodAll_cons hA
  obtain ⟨v1, vs1, d1, ds1, p1, q1, rfl, rfl, rfl, h1, r1⟩ := trodAll_cons r0
  obtain ⟨rfl, rfl, rfl⟩ := trodAll_nil r1
  obtain rfl : args = #[v0, v1] := by cases args; simp_all
  obtain ⟨rfl, rfl⟩ := trodVars_none hV
  obtain ⟨a0, len0, cap0, rfl⟩ := okWide_slice Tryd.underlying53 (hval 0 53 v0 rfl rfl)
  have k0 := h0
  have lt0 : ∀ x ∈ p0, x.block < W.heap.size := by obtain ⟨m, hm⟩ := k0; exact DataW.trod_lt m _ _ _ hm
  obtain ⟨x1, y1, z1, rfl, e1⟩ := open_rec (hval 1 49 v1 rfl rfl) h1
  have k1 := h1
  have lt1 : ∀ x ∈ p1, x.block < W.heap.size := by obtain ⟨m, hm⟩ := k1; exact DataW.trod_lt m _ _ _ hm
  clear hA0 hval0
  refine (walkAll a0 cap0 len0 x1 y1 z1 W (fun hn => open_steps k0) (tab_of hL)).mono fun e W' ⟨he, bel⟩ => ?_
  subst he
  exact ⟨_, rfl, _, _, _, [], _, [], hW', trodAll_mk1 (shut_bool Tryd.underlying4 _), (trodAll_cons_mk (Below.trod laidOut (by kernel_rfl) (of_decide_eq_true (by kernel_rfl)) k0 bel lt0) (trodAll_cons_mk (Below.trod laidOut (by kernel_rfl) (of_decide_eq_true (by kernel_rfl)) k1 bel lt1) trodAll_mk0)), rfl, bel.frame _, fun h => by cases h⟩

set_option maxRecDepth 100000 in
theorem lifted (os : Os) (started : os.Started) (H : Type) (enc : TypeId × Value → H) (F : Stop.Interp) :
    ReturnsInHanded {} Tryd.checked os 6 .any ((OpenSpec.ofChange Rows.taskEndsSpec).preRow enc Tryd.prog Tryd.f6 Rows.taskEndsRow.domain false Rows.taskEndsRow.laid) (((OpenSpec.ofChange Rows.taskEndsSpec).at F).post enc Tryd.prog Tryd.f6 false true false false) := by
  obtain ⟨ds, places, hx⟩ := reads os enc
  refine returnsInHanded_of_row (C := Tryd.checked) (s := OpenSpec.ofChange Rows.taskEndsSpec) own started (by kernel_rfl) Tryd.func6
    (witness_row_at (enc := enc) (C := Tryd.checked) false (laidWorld os) args0 rfl (by kernel_rfl) (by kernel_rfl) (by kernel_rfl)
      (OpenSpec.preRow_of_cond 8 hx (by kernel_rfl) (fun k hk => by cases hk) (by kernel_rfl) (laid_met os))) ?_
  intro W base args ds gs before hval hW _ _ _ hL _ _
  exact contract H enc W base args ds gs before hval hW hL

theorem said : Rows.TaskEndsSaid :=
  OpenClaim.holds_of_cond 6 Tryd.f6 rfl rfl rfl rfl rfl rfl rfl ⟨rfl, rfl, rfl, rfl, rfl⟩ rfl rfl rfl rfl rfl (by kernel_rfl) Tryd.func6 (by kernel_rfl)
    (of_decide_eq_true (by kernel_rfl)) (by unfold Func.isWrapper; first | (rw [if_pos (by decide +kernel)]; kernel_rfl) | (rw [if_neg (by decide +kernel)]; exact ⟨rfl, rfl⟩))
    (fun os started H enc _ F => by rw [OpenClaim.pre_eq_preRow]; exact lifted os started H enc F)

theorem plain (f : FuncId) (fn : Func) (hf : Tryd.pinned.checked.prog.funcNamed "bellrope/bellropelaw26.TaskEnds" = some f) (hfn : Tryd.pinned.checked.prog.funcs[f]? = some fn) :
    false = Tryd.pinned.checked.prog.looks [] ∧ ∀ (j : Nat) t, fn.params[j]? = some t → Tryd.pinned.checked.prog.wantsStandIn t = false := by
  obtain rfl : f = 6 := Option.some.inj ((show Tryd.prog.funcNamed "bellrope/bellropelaw26.TaskEnds" = some 6 by kernel_rfl).symm.trans hf) |>.symm
  obtain rfl : fn = Tryd.f6 := (Option.some.inj (Tryd.func6.symm.trans hfn)).symm
  refine ⟨by kernel_rfl, fun j t ht => ?_⟩
  rw [Tryd.params6] at ht
  have hall : ∀ t ∈ [53, 49], Tryd.prog.wantsStandIn t = false := fun t h => by
    simp only [List.mem_cons, List.not_mem_nil, or_false] at h
    rcases h with rfl | rfl <;> kernel_rfl
  exact hall t (by simpa using Array.mem_of_getElem? ht)

theorem proved : Rows.TaskEndsCardSaid :=
  Claim7.holds_tied_plain_at .later [] _ _ _ _ said (fun _ h => by cases h) (by kernel_rfl) (fun _ h => by cases h) taskEnds_row_tie rfl ⟨rfl, rfl⟩ (by kernel_rfl) rfl plain (by kernel_rfl)
#print axioms proved
end Go.Proofs.YtbbnackahgcegaaDoor.taskEnds
