/- RankPlays's card. -/
import Derived.Test.YtbbnackahgcegaaDoorLawRankPlays
import Derived.Test.YtbbnackahgcegaaDoorDoorC
namespace Go.Proofs.YtbbnackahgcegaaDoor.rankPlays
open Go.ChangeShapes Go.WideShapes Go.ChangeAt Go.RowKit door
set_option linter.all false

set_option maxRecDepth 100000 in
theorem cw_step : Cellwise Tryd.prog 72 (fun cs => ∃ x y z, cs = [.int .i64 x, .int .i64 y, .int .i64 z]) := by
  intro H enc w base sp held fuel cs x h
  obtain ⟨hl, hf⟩ := cw_field Tryd.underlying72 h
  obtain ⟨b, hb, _⟩ : ∃ b, (cs.drop 0).take (Tryd.prog.cellsOf 3) = [.int .i64 b] ∧ (Lit.int .i64 b).wf = true := hf 0 _ _ rfl (cw_int Tryd.underlying3)
  obtain ⟨y, hy, _⟩ : ∃ y, (cs.drop 1).take (Tryd.prog.cellsOf 3) = [.int .i64 y] ∧ (Lit.int .i64 y).wf = true := hf 1 _ _ rfl (cw_int Tryd.underlying3)
  obtain ⟨z, hz, _⟩ : ∃ z, (cs.drop 2).take (Tryd.prog.cellsOf 3) = [.int .i64 z] ∧ (Lit.int .i64 z).wf = true := hf 2 _ _ rfl (cw_int Tryd.underlying3)
  have hl3 : cs.length = 3 := hl.trans (by kernel_rfl)
  have e1 : Tryd.prog.cellsOf 3 = 1 := by kernel_rfl
  rw [e1] at hb hy hz
  match cs, hl3, hb, hy, hz with
  | [u, v, t], _, hb, hy, hz =>
    simp at hb hy hz
    exact ⟨b, y, z, by rw [hb, hy, hz]⟩

set_option maxRecDepth 100000 in
theorem open_steps {H : Type} {enc : TypeId × Value → H} {W : World} {base : Nat} {sp : Nat → Bool} {held : Bool} {a : Option Addr} {len cap : Nat} {d : DataW H} {ps : List MemPlace}
    (hd : DataW.Trod enc Tryd.prog W base sp held 60 (.slice a len cap) d ps) : Steps W a len := by
  intro hpos
  obtain ⟨b, off, rfl, hr⟩ := rows_of Tryd.underlying60 cw_step (c := 3) (by kernel_rfl) hd hpos (by omega)
  refine ⟨b, off, rfl, fun i hi => ?_⟩
  obtain ⟨cs, ⟨x, y, z, rfl⟩, _, hc⟩ := hr i hi
  exact ⟨x, y, z, hc 0 (by omega), hc 1 (by omega), hc 2 (by omega)⟩


theorem laidOut : laidOutB Tryd.prog = true := by kernel_rfl
abbrev args0 : Array Value := #[.slice none 0 0, .int .i64 0]
theorem laid_met (os : Os) : laidMet Tryd.prog Rows.rankPlaysRow.laid ((laidWorld os).forCall (fun _ _ => 0) ⟨#[], args0, []⟩).memory :=
  laidMet_of_run' 64 (by kernel_rfl) (by kernel_rfl)
set_option maxRecDepth 100000 in
theorem reads (os : Os) {H : Type} (enc : TypeId × Value → H) : ∃ ds places, DataW.whole enc Tryd.prog ((laidWorld os).forCall (fun _ _ => 0) ⟨#[], args0, []⟩).memory Tryd.f7.params.toList Rows.rankPlaysSpec.vars false args0.toList 8 = some (ds, [], places) :=
  ⟨[.nil, .lit (.int .i64 0)], [], by kernel_rfl⟩

set_option maxRecDepth 100000 in
theorem contract (H : Type) (enc : TypeId × Value → H) (W : World) (base : Nat) (args : Array Value) (ds gs : List (DataW H)) (before : List MemPlace)
    (hval0 : ∀ (j : Nat) t v, Tryd.f7.params[j]? = some t → args[j]? = some v → Value.okWide Tryd.prog W .any base t v)
    (hW : DataW.Whole enc Tryd.prog Tryd.f7.params.toList Rows.rankPlaysSpec.vars false W args.toList ds gs before) (hL : laidMetH Tryd.prog Rows.rankPlaysRow.laid W) :
    Calls Tryd.prog 7 args W fun e W' => ∃ v, e = .returned v ∧ Rows.rankPlaysSpec.post enc Tryd.prog Tryd.f7 false true false false W args v W' := by
  have hval : ∀ (j : Nat) t v, Tryd.f7.params[j]? = some t → args[j]? = some v → Value.okWide Tryd.prog W .any base t v := hval0
  have hW' := hW
  obtain ⟨p, q, hA0, hV, rfl, hfz, hnd⟩ := hW
  have hA : DataW.TrodAll enc Tryd.prog W 0 (fun _ => true) true Tryd.f7.params.toList args.toList ds p := hA0
  rw [Tryd.params7] at hA hval
  obtain ⟨v0, vs0, d0, ds0, p0, q0, hargs, rfl, rfl, h0, r0⟩ := trodAll_cons hA
  obtain ⟨v1, vs1, d1, ds1, p1, q1, rfl, rfl, rfl, h1, r1⟩ := trodAll_cons r0
  obtain ⟨rfl, rfl, rfl⟩ := trodAll_nil r1
  obtain rfl : args = #[v0, v1] := by cases args; simp_all
  obtain ⟨rfl, rfl⟩ := trodVars_none hV
  obtain ⟨a0, len0, cap0, rfl⟩ := okWide_slice Tryd.underlying60 (hval 0 60 v0 rfl rfl)
  have k0 := h0
  have lt0 : ∀ x ∈ p0, x.block < W.heap.size := by obtain ⟨m, hm⟩ := k0; exact DataW.trod_lt m _ _ _ hm
  obtain ⟨a1, rfl, rfl, rfl, w1⟩ := open_int Tryd.underlying3 (hval 1 3 v1 rfl rfl) h1
  clear hA0 hval0
  refine (walkAll a0 cap0 len0 a1 W (fun hn => open_steps k0) w1 (tab_of hL)).mono fun e W' ⟨he, bel⟩ => ?_
  subst he
  exact ⟨_, rfl, _, _, _, [], _, [], hW', trodAll_mk1 (shut_bool Tryd.underlying4 _), (trodAll_cons_mk (Below.trod laidOut (by kernel_rfl) (of_decide_eq_true (by kernel_rfl)) k0 bel lt0) (trodAll_cons_mk (shut_int Tryd.underlying3 w1) trodAll_mk0)), rfl, bel.frame _, fun h => by cases h⟩

set_option maxRecDepth 100000 in
theorem lifted (os : Os) (started : os.Started) (H : Type) (enc : TypeId × Value → H) (F : Stop.Interp) :
    ReturnsInHanded {} Tryd.checked os 7 .any ((OpenSpec.ofChange Rows.rankPlaysSpec).preRow enc Tryd.prog Tryd.f7 Rows.rankPlaysRow.domain false Rows.rankPlaysRow.laid) (((OpenSpec.ofChange Rows.rankPlaysSpec).at F).post enc Tryd.prog Tryd.f7 false true false false) := by
  obtain ⟨ds, places, hx⟩ := reads os enc
  refine returnsInHanded_of_row (C := Tryd.checked) (s := OpenSpec.ofChange Rows.rankPlaysSpec) own started (by kernel_rfl) Tryd.func7
    (witness_row_at (enc := enc) (C := Tryd.checked) false (laidWorld os) args0 rfl (by kernel_rfl) (by kernel_rfl) (by kernel_rfl)
      (OpenSpec.preRow_of_cond 8 hx (by kernel_rfl) (fun k hk => by cases hk) (by kernel_rfl) (laid_met os))) ?_
  intro W base args ds gs before hval hW _ _ _ hL _ _
  exact contract H enc W base args ds gs before hval hW hL

theorem said : Rows.RankPlaysSaid :=
  OpenClaim.holds_of_cond 7 Tryd.f7 rfl rfl rfl rfl rfl rfl rfl ⟨rfl, rfl, rfl, rfl, rfl⟩ rfl rfl rfl rfl rfl (by kernel_rfl) Tryd.func7 (by kernel_rfl)
    (of_decide_eq_true (by kernel_rfl)) (by unfold Func.isWrapper; first | (rw [if_pos (by decide +kernel)]; kernel_rfl) | (rw [if_neg (by decide +kernel)]; exact ⟨rfl, rfl⟩))
    (fun os started H enc _ F => by rw [OpenClaim.pre_eq_preRow]; exact lifted os started H enc F)

theorem plain (f : FuncId) (fn : Func) (hf : Tryd.pinned.checked.prog.funcNamed "bellrope/bellropelaw23.RankPlays" = some f) (hfn : Tryd.pinned.checked.prog.funcs[f]? = some fn) :
    false = Tryd.pinned.checked.prog.looks [] ∧ ∀ (j : Nat) t, fn.params[j]? = some t → Tryd.pinned.checked.prog.wantsStandIn t = false := by
  obtain rfl : f = 7 := Option.some.inj ((show Tryd.prog.funcNamed "bellrope/bellropelaw23.RankPlays" = some 7 by kernel_rfl).symm.trans hf) |>.symm
  obtain rfl : fn = Tryd.f7 := (Option.some.inj (Tryd.func7.symm.trans hfn)).symm
  refine ⟨by kernel_rfl, fun j t ht => ?_⟩
  rw [Tryd.params7] at ht
  have hall : ∀ t ∈ [60, 3], Tryd.prog.wantsStandIn t = false := fun t h => by
    simp only [List.mem_cons, List.not_mem_nil, or_false] at h
    rcases h with rfl | rfl <;> kernel_rfl
  exact hall t (by simpa using Array.mem_of_getElem? ht)

theorem proved : Rows.RankPlaysCardSaid :=
  Claim7.holds_tied_plain_at .later [] _ _ _ _ said (fun _ h => by cases h) (by kernel_rfl) (fun _ h => by cases h) rankPlays_row_tie rfl ⟨rfl, rfl⟩ (by kernel_rfl) rfl plain (by kernel_rfl)
#print axioms proved
end Go.Proofs.YtbbnackahgcegaaDoor.rankPlays
