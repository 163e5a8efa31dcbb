/- TaskLast's card. -/
import Derived.Test.YtbbnackahgcegaaDoorLawTaskLast
import Derived.Test.YtbbnackahgcegaaDoorOpenRows
import Derived.Test.YtbbnackahgcegaaDoorDoorC
namespace Go.Proofs.YtbbnackahgcegaaDoor.taskLast
open Go.ChangeShapes Go.WideShapes Go.ChangeAt Go.RowKit door
set_option linter.all false

set_option maxRecDepth 100000 in
theorem cw_ans : Cellwise Tryd.prog 49 (fun cs => ∃ x y z, cs = [.bool x, .int .u32 y, .int .u32 z]) := by
  intro H enc w base sp held fuel cs x h
  obtain ⟨hl, hf⟩ := cw_field Tryd.underlying49 h
  obtain ⟨b, hb⟩ : ∃ b, (cs.drop 0).take (Tryd.prog.cellsOf 4) = [.bool b] := hf 0 _ _ rfl (cw_bool Tryd.underlying4)
  obtain ⟨y, hy, _⟩ : ∃ y, (cs.drop 1).take (Tryd.prog.cellsOf 25) = [.int .u32 y] ∧ (Lit.int .u32 y).wf = true := hf 1 _ _ rfl (cw_int Tryd.underlying25)
  obtain ⟨z, hz, _⟩ : ∃ z, (cs.drop 2).take (Tryd.prog.cellsOf 25) = [.int .u32 z] ∧ (Lit.int .u32 z).wf = true := hf 2 _ _ rfl (cw_int Tryd.underlying25)
  have hl3 : cs.length = 3 := hl.trans (by kernel_rfl)
  have e0 : Tryd.prog.cellsOf 4 = 1 := by kernel_rfl
  have e1 : Tryd.prog.cellsOf 25 = 1 := by kernel_rfl
  rw [e0] at hb
  rw [e1] at hy hz
  match cs, hl3, hb, hy, hz with
  | [u, v, t], _, hb, hy, hz =>
    simp at hb hy hz
    exact ⟨b, y, z, by rw [hb, hy, hz]⟩

set_option maxRecDepth 100000 in
theorem open_ans {H : Type} {enc : TypeId × Value → H} {W : World} {base : Nat} {sp : Nat → Bool} {held : Bool} {a : Option Addr} {len cap : Nat} {d : DataW H} {ps : List MemPlace}
    (hd : DataW.Trod enc Tryd.prog W base sp held 41 (.slice a len cap) d ps) : ∃ zs : List (Bool × Int × Int), len = zs.length ∧ ReadsA W a zs := by
  rcases Nat.eq_zero_or_pos len with rfl | hpos
  · exact ⟨[], rfl, fun h => by simp at h⟩
  · obtain ⟨b, off, rfl, hr⟩ := rows_of Tryd.underlying41 cw_ans (c := 3) (by kernel_rfl) hd hpos (by omega)
    obtain ⟨zs, hzl, hz⟩ := gatherR (false, (0 : Int), (0 : Int)) (fun i z => W.cell? ⟨b, off + i * 3, none⟩ = some (.bool z.1) ∧ W.cell? ⟨b, off + i * 3 + 1, none⟩ = some (.int .u32 z.2.1) ∧ W.cell? ⟨b, off + i * 3 + 2, none⟩ = some (.int .u32 z.2.2)) len (fun i hi => by
      obtain ⟨cs, ⟨x, y, z, rfl⟩, _, hc⟩ := hr i hi
      exact ⟨(x, y, z), hc 0 (by omega), hc 1 (by omega), hc 2 (by omega)⟩)
    exact ⟨zs, hzl.symm, fun h => ⟨b, off, rfl, block_lt_of_cell (hz 0 hpos).1, fun i hi => hz i (by omega)⟩⟩

set_option maxRecDepth 100000 in
theorem open_words {H : Type} {enc : TypeId × Value → H} {W : World} {base : Nat} {sp : Nat → Bool} {held : Bool} {a : Option Addr} {len cap : Nat} {d : DataW H} {ps : List MemPlace}
    (hd : DataW.Trod enc Tryd.prog W base sp held 42 (.slice a len cap) d ps) : ∃ us : List Int, len = us.length ∧ ReadsU W a us := by
  rcases Nat.eq_zero_or_pos len with rfl | hpos
  · exact ⟨[], rfl, fun h => by simp at h⟩
  · obtain ⟨b, off, rfl, hr⟩ := rows_of Tryd.underlying42 (cw_int Tryd.underlying25) (c := 1) (by kernel_rfl) hd hpos (by omega)
    obtain ⟨us, hl, hu⟩ := gatherR (0 : Int) (fun i z => W.cell? ⟨b, off + i, none⟩ = some (.int .u32 z) ∧ 0 ≤ z ∧ z ≤ 4294967295) len (fun i hi => by
      obtain ⟨cs, ⟨n, rfl, hw⟩, _, hc⟩ := hr i hi
      have := bounds_u32 hw
      exact ⟨n, by have := hc 0 (by omega); simpa using this, this.1, this.2⟩)
    exact ⟨us, hl.symm, fun h => ⟨b, off, rfl, block_lt_of_cell (hu 0 hpos).1, fun i hi => hu i (by omega)⟩⟩

theorem laidOut : laidOutB Tryd.prog = true := by kernel_rfl
abbrev args0 : Array Value := #[.slice none 0 0, .slice none 0 0]
theorem laid_met (os : Os) : laidMet Tryd.prog Rows.taskLastRow.laid ((laidWorld os).forCall (fun _ _ => 0) ⟨#[], args0, []⟩).memory :=
  laidMet_of_run' 64 (by kernel_rfl) (by kernel_rfl)
set_option maxRecDepth 100000 in
theorem reads (os : Os) {H : Type} (enc : TypeId × Value → H) : ∃ ds places, DataW.whole enc Tryd.prog ((laidWorld os).forCall (fun _ _ => 0) ⟨#[], args0, []⟩).memory Tryd.f5.params.toList Rows.taskLastSpec.vars false args0.toList 8 = some (ds, [], places) :=
  ⟨[.nil, .nil], [], by kernel_rfl⟩

set_option maxRecDepth 100000 in
theorem contract (H : Type) (enc : TypeId × Value → H) (W : World) (base : Nat) (args : Array Value) (ds gs : List (DataW H)) (before : List MemPlace)
    (hval0 : ∀ (j : Nat) t v, Tryd.f5.params[j]? = some t → args[j]? = some v → Value.okWide Tryd.prog W .any base t v)
    (hW : DataW.Whole enc Tryd.prog Tryd.f5.params.toList Rows.taskLastSpec.vars false W args.toList ds gs before) (hL : laidMetH Tryd.prog Rows.taskLastRow.laid W) :
    Calls Tryd.prog 5 args W fun e W' => ∃ v, e = .returned v ∧ Rows.taskLastSpec.post enc Tryd.prog Tryd.f5 false true false false W args v W' := by
  have hval : ∀ (j : Nat) t v, Tryd.f5.params[j]? = some t → args[j]? = some v → Value.okWide Tryd.prog W .any base t v := hval0
  have hW' := hW
  obtain ⟨p, q, hA0, hV, rfl, hfz, hnd⟩ := hW
  have hA : DataW.TrodAll enc Tryd.prog W 0 (fun _ => true) true Tryd.f5.params.toList args.toList ds p := hA0
  rw [Tryd.params5] at hA hval
  obtain ⟨v0, vs0, d0, ds0, p0, q0, hargs, rfl, rfl, h0, r0⟩ := trodAll_cons hA
  obtain ⟨v1, vs1, d1, ds1, p1, q1, rfl, rfl, rfl, h1, r1⟩ := trodAll_cons r0
  obtain ⟨rfl, rfl, rfl⟩ := trodAll_nil r1
  obtain rfl : args = #[v0, v1] := by cases args; simp_all
  obtain ⟨rfl, rfl⟩ := trodVars_none hV
  obtain ⟨a0, len0, cap0, rfl⟩ := okWide_slice Tryd.underlying41 (hval 0 41 v0 rfl rfl)
  have k0 := h0
  have lt0 : ∀ x ∈ p0, x.block < W.heap.size := by obtain ⟨m, hm⟩ := k0; exact DataW.trod_lt m _ _ _ hm
  obtain ⟨a1, len1, cap1, rfl⟩ := okWide_slice Tryd.underlying42 (hval 1 42 v1 rfl rfl)
  have k1 := h1
  have lt1 : ∀ x ∈ p1, x.block < W.heap.size := by obtain ⟨m, hm⟩ := k1; exact DataW.trod_lt m _ _ _ hm
  clear hA0 hval0
  refine (walkAll a0 cap0 len0 a1 cap1 len1 W (fun hn => open_ans k0) (fun hn => open_words k1) (tab_of hL)).mono fun e W' ⟨he, bel⟩ => ?_
  subst he
  exact ⟨_, rfl, _, _, _, [], _, [], hW', trodAll_mk1 (shut_bool Tryd.underlying4 _), (trodAll_cons_mk (Below.trod laidOut (by kernel_rfl) (of_decide_eq_true (by kernel_rfl)) k0 bel lt0) (trodAll_cons_mk (Below.trod laidOut (by kernel_rfl) (of_decide_eq_true (by kernel_rfl)) k1 bel lt1) trodAll_mk0)), rfl, bel.frame _, fun h => by cases h⟩

set_option maxRecDepth 100000 in
theorem lifted (os : Os) (started : os.Started) (H : Type) (enc : TypeId × Value → H) (F : Stop.Interp) :
    ReturnsInHanded {} Tryd.checked os 5 .any ((OpenSpec.ofChange Rows.taskLastSpec).preRow enc Tryd.prog Tryd.f5 Rows.taskLastRow.domain false Rows.taskLastRow.laid) (((OpenSpec.ofChange Rows.taskLastSpec).at F).post enc Tryd.prog Tryd.f5 false true false false) := by
  obtain ⟨ds, places, hx⟩ := reads os enc
  refine returnsInHanded_of_row (C := Tryd.checked) (s := OpenSpec.ofChange Rows.taskLastSpec) own started (by kernel_rfl) Tryd.func5
    (witness_row_at (enc := enc) (C := Tryd.checked) false (laidWorld os) args0 rfl (by kernel_rfl) (by kernel_rfl) (by kernel_rfl)
      (OpenSpec.preRow_of_cond 8 hx (by kernel_rfl) (fun k hk => by cases hk) (by kernel_rfl) (laid_met os))) ?_
  intro W base args ds gs before hval hW _ _ _ hL _ _
  exact contract H enc W base args ds gs before hval hW hL

theorem said : Rows.TaskLastSaid :=
  OpenClaim.holds_of_cond 5 Tryd.f5 rfl rfl rfl rfl rfl rfl rfl ⟨rfl, rfl, rfl, rfl, rfl⟩ rfl rfl rfl rfl rfl (by kernel_rfl) Tryd.func5 (by kernel_rfl)
    (of_decide_eq_true (by kernel_rfl)) (by unfold Func.isWrapper; first | (rw [if_pos (by decide +kernel)]; kernel_rfl) | (rw [if_neg (by decide +kernel)]; exact ⟨rfl, rfl⟩))
    (fun os started H enc _ F => by rw [OpenClaim.pre_eq_preRow]; exact lifted os started H enc F)

theorem plain (f : FuncId) (fn : Func) (hf : Tryd.pinned.checked.prog.funcNamed "bellrope/bellropelaw26.TaskLast" = some f) (hfn : Tryd.pinned.checked.prog.funcs[f]? = some fn) :
    false = Tryd.pinned.checked.prog.looks [] ∧ ∀ (j : Nat) t, fn.params[j]? = some t → Tryd.pinned.checked.prog.wantsStandIn t = false := by
  obtain rfl : f = 5 := Option.some.inj ((show Tryd.prog.funcNamed "bellrope/bellropelaw26.TaskLast" = some 5 by kernel_rfl).symm.trans hf) |>.symm
  obtain rfl : fn = Tryd.f5 := (Option.some.inj (Tryd.func5.symm.trans hfn)).symm
  refine ⟨by kernel_rfl, fun j t ht => ?_⟩
  rw [Tryd.params5] at ht
  have hall : ∀ t ∈ [41, 42], Tryd.prog.wantsStandIn t = false := fun t h => by
    simp only [List.mem_cons, List.not_mem_nil, or_false] at h
    rcases h with rfl | rfl <;> kernel_rfl
  exact hall t (by simpa using Array.mem_of_getElem? ht)

theorem proved : Rows.TaskLastCardSaid :=
  Claim7.holds_tied_plain_at .later [] _ _ _ _ said (fun _ h => by cases h) (by kernel_rfl) (fun _ h => by cases h) taskLast_row_tie rfl ⟨rfl, rfl⟩ (by kernel_rfl) rfl plain (by kernel_rfl)
#print axioms proved
end Go.Proofs.YtbbnackahgcegaaDoor.taskLast
