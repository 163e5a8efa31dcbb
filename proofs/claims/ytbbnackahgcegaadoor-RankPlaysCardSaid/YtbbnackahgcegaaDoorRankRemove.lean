/- rank.Remove: a task goes out of its row, those behind it go on. -/
import Derived.Test.YtbbnackahgcegaaDoorRankAdd
import Derived.Laws.CopyOwn
import Derived.Laws.IdiomCopy
import Derived.Deep.RegionLaw
namespace Go.Proofs.YtbbnackahgcegaaDoor
open Go.RowKit
set_option linter.all false

/-- the rows without the task at place j of row p -/
def delQ (q : Nat → List Int) (p j : Nat) : Nat → List Int := fun i => if i = p then (q p).eraseIdx j else q i

/-- what the copy leaves: the tasks behind place J stand one place nearer -/
structure PM (w1 W : World) (B P J : Nat) (q : Nat → List Int) (b n : Int) : Prop where
  low : ∀ i, i < J → W.cell? ⟨B, P * 17 + i, none⟩ = w1.cell? ⟨B, P * 17 + i, none⟩
  mid : ∀ i, J ≤ i → i + 1 < (q P).length → W.cell? ⟨B, P * 17 + i, none⟩ = some (.int .i64 ((q P).getD (i + 1) 0))
  any : ∀ i, i < 16 → ∃ x, W.cell? ⟨B, P * 17 + i, none⟩ = some (.int .i64 x)
  far : ∀ o, (o < P * 17 ∨ P * 17 + 16 ≤ o) → W.cell? ⟨B, o, none⟩ = w1.cell? ⟨B, o, none⟩
  fr : ∀ o, W.frozen? ⟨B, o, none⟩ = w1.frozen? ⟨B, o, none⟩

theorem only_setCells {a : World} {B : Nat} : ∀ (vs : List Value) (o : Nat) (w : World), a.grownBy w (some B) → a.grownBy (w.setCells B o vs) (some B)
  | [], _, _, h => h
  | _ :: vs, o, _, h => only_setCells vs (o + 1) _ (only_set h _)

theorem PM.of {w1 : World} {B P J : Nat} {q : Nat → List Int} {b n : Int} (h : RK w1 B q b n) (hP : P < 32) (hJ : J < (q P).length) :
    PM w1 (w1.setCells B (P * 17 + J) (((q P).drop (J + 1)).map (Value.int .i64))) B P J q b n := by
  have hlen := h.len P hP
  have hsome : ∀ i, i < (((q P).drop (J + 1)).map (Value.int .i64)).length → (w1.cell? ⟨B, P * 17 + J + i, none⟩).isSome = true := fun i hi => by
    simp at hi
    obtain ⟨x, hx⟩ := h.any P (J + i) hP (by omega)
    rw [Nat.add_assoc, hx]
    rfl
  have hin : ∀ i, i < (q P).length - (J + 1) → (w1.setCells B (P * 17 + J) (((q P).drop (J + 1)).map (Value.int .i64))).cell? ⟨B, P * 17 + J + i, none⟩ = some (.int .i64 ((q P).getD (J + 1 + i) 0)) := fun i hi => by
    rw [World.cell?_setCells_in B _ _ w1 hsome i (by simp; omega)]
    simp [show J + 1 + i < (q P).length by omega]
  have hout : ∀ o, (o < P * 17 + J ∨ P * 17 + J + ((q P).length - (J + 1)) ≤ o) → (w1.setCells B (P * 17 + J) (((q P).drop (J + 1)).map (Value.int .i64))).cell? ⟨B, o, none⟩ = w1.cell? ⟨B, o, none⟩ := fun o ho =>
    World.cell?_setCells_out B _ _ w1 _ (fun _ _ => by simpa using ho)
  refine ⟨fun i hi => hout _ (by omega), fun i h1 h2 => ?_, fun i hi => ?_, fun o ho => hout _ (by omega), fun o => World.frozen?_setCells ..⟩
  · have := hin (i - J) (by omega)
    rwa [show P * 17 + J + (i - J) = P * 17 + i by omega, show J + 1 + (i - J) = i + 1 by omega] at this
  · by_cases h1 : J ≤ i ∧ i + 1 < (q P).length
    · have := hin (i - J) (by omega)
      rw [show P * 17 + J + (i - J) = P * 17 + i by omega] at this
      exact ⟨_, this⟩
    · obtain ⟨x, hx⟩ := h.any P i hP hi
      exact ⟨x, (hout _ (by omega)).trans hx⟩

theorem RK.pull {w1 W W' : World} {B P J : Nat} {q : Nat → List Int} {b n b' : Int} (h : RK w1 B q b n) (hM : PM w1 W B P J q b n) (hP : P < 32) (hJ : J < (q P).length)
    (hc : ∀ o, o ≠ P * 17 + 16 → o ≠ 545 → o ≠ 544 → W'.cell? ⟨B, o, none⟩ = W.cell? ⟨B, o, none⟩) (hf : ∀ o, W'.frozen? ⟨B, o, none⟩ = W.frozen? ⟨B, o, none⟩)
    (h16 : W'.cell? ⟨B, P * 17 + 16, none⟩ = some (.int .i64 (((q P).length : Int) - 1))) (h545 : W'.cell? ⟨B, 545, none⟩ = some (.int .i64 (n - 1))) (h544 : W'.cell? ⟨B, 544, none⟩ = some (.int .u32 b'))
    (b0 : 0 ≤ b') (b1 : b' ≤ 4294967295) (htb : ∀ p, p < 32 → b'.toNat.testBit p = decide (delQ q P J p ≠ [])) : RK W' B (delQ q P J) b' (n - 1) := by
  have hlen := h.len P hP
  have ldel : ((q P).eraseIdx J).length = (q P).length - 1 := by rw [List.length_eraseIdx, if_pos hJ]
  have gdel : ∀ i, i < (q P).length - 1 → ((q P).eraseIdx J).getD i 0 = if i < J then (q P).getD i 0 else (q P).getD (i + 1) 0 := fun i hi => by
    rw [List.getD_eq_getElem?_getD, List.getElem?_eraseIdx]
    split
    · rw [List.getD_eq_getElem?_getD]
    · rw [List.getD_eq_getElem?_getD]
  refine ⟨fun p i hp hi => ?_, fun p i hp hi => ?_, fun p hp => ?_, h544, h545, fun i hi => (hf _).trans ((hM.fr _).trans (h.fr i hi)), fun p hp => ?_, b0, b1, htb⟩
  · by_cases e : p = P
    · subst e
      simp only [delQ, if_true] at hi ⊢
      rw [ldel] at hi
      rw [hc _ (by omega) (by omega) (by omega), gdel i hi]
      split
      · rename_i h1
        rw [hM.low i h1]
        exact h.lev p i hp (by omega)
      · exact hM.mid i (by omega) (by omega)
    · simp only [delQ, if_neg e] at hi ⊢
      have := h.len p hp
      rw [hc _ (by omega) (by omega) (by omega), hM.far _ (by omega)]
      exact h.lev p i hp hi
  · by_cases e : p = P
    · subst e
      obtain ⟨x, hx⟩ := hM.any i hi
      exact ⟨x, (hc _ (by omega) (by omega) (by omega)).trans hx⟩
    · obtain ⟨x, hx⟩ := h.any p i hp hi
      exact ⟨x, by rw [hc _ (by omega) (by omega) (by omega), hM.far _ (by omega)]; exact hx⟩
  · by_cases e : p = P
    · subst e
      simp only [delQ, if_true]
      rw [h16, ldel]
      congr 2
      omega
    · simp only [delQ, if_neg e]
      rw [hc _ (by omega) (by omega) (by omega), hM.far _ (by omega)]
      exact h.cnt p hp
  · unfold delQ
    split
    · omega
    · exact h.len p hp

theorem RK.pull0 {w1 W : World} {B P J : Nat} {q : Nat → List Int} {b n b' : Int} (h : RK w1 B q b n) (hM : PM w1 W B P J q b n) (hP : P < 32) (hJ : J < (q P).length)
    (c16 : W.cell? ⟨B, P * 17 + 16, none⟩ = some (.int .i64 ((q P).length : Int))) (c544 : W.cell? ⟨B, 544, none⟩ = some (.int .u32 b)) (c545 : W.cell? ⟨B, 545, none⟩ = some (.int .i64 n)) (hb' : b' = if (q P).length = 1 then putF b P else b) (h0 : (q P).length = 1) :
    RK (((W.setCell ⟨B, P * 17 + 16, none⟩ (.int .i64 (((q P).length : Int) - 1))).setCell ⟨B, 545, none⟩ (.int .i64 (n - 1))).setCell ⟨B, 544, none⟩ (.int .u32 (putF b P))) B (delQ q P J) b' (n - 1) := by
  rw [if_pos h0] at hb'
  have hbd := putF_bd b P h.lo h.hi
  refine h.pull hM hP hJ (fun o o1 o2 o3 => by rw [set_other o3, set_other o2, set_other o1]) (fun o => by rw [set_frozen, set_frozen, set_frozen]) ?_ ?_ ?_ (by omega) (by omega) (fun p hp => ?_)
  · rw [set_other (by omega), set_other (by omega)]
    exact set_same c16
  · rw [set_other (by omega)]
    exact set_same (by rw [set_other (by omega)]; exact c545)
  · rw [hb']
    exact set_same (by rw [set_other (by omega), set_other (by omega)]; exact c544)
  · rw [hb', tb_putF h.lo h.hi (by omega) (by omega), h.tb p hp]
    unfold delQ
    by_cases e : p = P
    · subst e
      have : (q p).eraseIdx J = [] := List.eq_nil_of_length_eq_zero (by rw [List.length_eraseIdx, if_pos hJ]; omega)
      simp [this]
    · simp [e, show ¬ P = p from fun x => e x.symm]
theorem RK.pull1 {w1 W : World} {B P J : Nat} {q : Nat → List Int} {b n b' : Int} (h : RK w1 B q b n) (hM : PM w1 W B P J q b n) (hP : P < 32) (hJ : J < (q P).length)
    (c16 : W.cell? ⟨B, P * 17 + 16, none⟩ = some (.int .i64 ((q P).length : Int))) (c544 : W.cell? ⟨B, 544, none⟩ = some (.int .u32 b)) (c545 : W.cell? ⟨B, 545, none⟩ = some (.int .i64 n)) (hb' : b' = if (q P).length = 1 then putF b P else b) (h0 : (q P).length ≠ 1) :
    RK ((W.setCell ⟨B, P * 17 + 16, none⟩ (.int .i64 (((q P).length : Int) - 1))).setCell ⟨B, 545, none⟩ (.int .i64 (n - 1))) B (delQ q P J) b' (n - 1) := by
  rw [if_neg h0] at hb'
  have hbd := And.intro h.lo h.hi
  refine h.pull hM hP hJ (fun o o1 o2 o3 => by rw [set_other o2, set_other o1]) (fun o => by rw [set_frozen, set_frozen]) ?_ ?_ ?_ (by omega) (by omega) (fun p hp => ?_)
  · rw [set_other (by omega)]
    exact set_same c16
  · exact set_same (by rw [set_other (by omega)]; exact c545)
  · rw [hb', set_other (by omega), set_other (by omega)]
    exact c544
  · rw [hb', h.tb p hp]
    unfold delQ
    by_cases e : p = P
    · subst e
      have : (q p).eraseIdx J ≠ [] := fun x => by
        have := congrArg List.length x
        rw [List.length_eraseIdx, if_pos hJ] at this
        simp at this
        omega
      have h2 : q p ≠ [] := fun x => by rw [x] at hJ; simp at hJ
      simp [this, h2]
    · simp [e]

set_option maxRecDepth 100000 in
set_option maxHeartbeats 1000000 in
theorem rremove_yes (B P J : Nat) (q : Nat → List Int) (b n task : Int) (w : World) (hT : Tab w) (h : RK w B q b n) (hP : P < 32) (hJ : J < (q P).length) (hat : (q P).getD J 0 = task) (hone : ∀ p, p < 32 → ∀ i, i < (q p).length → (q p).getD i 0 = task → p = P ∧ i = J) (hn : 1 ≤ n ∧ n ≤ 1000) (b' : Int) (hb' : b' = if (q P).length = 1 then putF b P else b) :
    Calls Tryd.prog 38 #[.pointer (some ⟨B, 0, none⟩), .int .i64 task] w fun e w' => e = .returned (.bool true) ∧ RK w' B (delQ q P J) b' (n - 1) ∧ w.grownBy w' (some B) := by
  have hfi := find_yes B P J q b n task w hT h hP hJ hat hone
  have Hb := Lib.hid hb'
  clear hb'
  have p1 : (P : Int) < 32 := by omega
  have hlen := h.len P hP
  have hwi := fun W => without_any b P W h.lo h.hi
  go_enter Tryd.func38, Tryd.ntmps38
  go_upto_region 4 with (go_at_call 75; with_reducible refine hfi.mono ?_; rintro e w1 ⟨rfl, hb1⟩)
  have h1 := h.up hb1
  have hg1 := only_of_below hb1 (some B)
  clear h hb1 hfi hone hat
  have hcnt := h1.cnt P hP
  have j1 : (J : Int) < 16 := by omega
  have j2 : (J : Int) + 1 ≤ ((q P).length : Int) := by omega
  have j3 : ((q P).length : Int) ≤ 16 := by omega
  have j4 : (J : Int) ≤ 16 := by omega
  have j5 : J ≤ 16 := by omega
  have j6 : J + 1 ≤ 16 := by omega
  have j7 : J + 1 ≤ (q P).length := by omega
  have j9 : (0 : Int) ≤ (J : Int) + 1 := by omega
  have j8 : (0 : Int) ≤ ((q P).length : Int) := by omega
  have e1 : IntKind.i64.wrap ((J : Int) + 1) = (J : Int) + 1 := by rw [IntKind.wrap_i64]; omega
  have hcs : (((q P).drop (J + 1)).map (Value.int .i64)).length = (q P).length - (J + 1) := by simp
  have hsrc : ∀ j v, (((q P).drop (J + 1)).map (Value.int .i64))[j]? = some v → w1.drew.cell? ((if J = 15 then (⟨B, P * 17, none⟩ : Addr) else ⟨B, P * 17 + (J + 1), none⟩).add j) = some v := fun j v hj => by
    have hlt := (List.getElem?_eq_some_iff.1 hj).1
    rw [hcs] at hlt
    rw [if_neg (by omega), Addr.add_mid]
    have := h1.lev P (J + 1 + j) hP (by omega)
    rw [show P * 17 + (J + 1) + j = P * 17 + (J + 1 + j) by omega]
    refine (show w1.drew.cell? _ = w1.cell? _ from rfl).trans (this.trans ?_)
    rw [List.getElem?_map, List.getElem?_drop, List.getElem?_eq_getElem (by omega)] at hj
    simp [show J + 1 + j < (q P).length by omega] at hj ⊢
    exact hj
  have hcp := run_copy_cells (P := Tryd.prog) w1.drew 22 22 3 3 B (P * 17 + J) (16 - J) (16 - J) (if J = 15 then (⟨B, P * 17, none⟩ : Addr) else ⟨B, P * 17 + (J + 1), none⟩) ((q P).length - (J + 1)) (15 - J) (((q P).drop (J + 1)).map (Value.int .i64)) Tryd.underlying22 (by kernel_rfl) (by rw [hcs]; exact (Nat.min_eq_left (by omega)).symm) hsrc
    (fun j hj => by
      rw [hcs] at hj
      obtain ⟨x, hx⟩ := h1.any P (J + j) hP (by omega)
      rw [Nat.add_assoc]
      exact (congrArg Option.isSome (show w1.drew.cell? _ = w1.cell? _ from rfl)).trans (by rw [hx]; rfl))
    (fun j hj => by rw [hcs] at hj; rw [Nat.add_assoc]; exact h1.fr (P * 17 + (J + j)) (by omega))
    (fun v hv => by obtain ⟨x, _, rfl⟩ := List.mem_map.1 hv; rfl)
  have hPM := PM.of (h1.drewN 1) hP hJ
  have h1d := Lib.hid (h1.drewN 1)
  have hgW : w.grownBy ((w1.drewN 1).setCells B (P * 17 + J) (((q P).drop (J + 1)).map (Value.int .i64))) (some B) := only_setCells _ _ _ (only_drewN hg1 1)
  have hcntW := hPM.far (P * 17 + 16) (by omega)
  have hcbW := hPM.far 544 (by omega)
  have hcnW := hPM.far 545 (by omega)
  have hf2 := (hPM.fr (P * 17 + 16)).trans (h1.fr (P * 17 + 16) (by omega))
  have hf3 := (hPM.fr 544).trans (h1.fr 544 (by omega))
  have hf4 := (hPM.fr 545).trans (h1.fr 545 (by omega))
  rw [show (w1.drewN 1).cell? _ = w1.cell? _ from rfl, hcnt] at hcntW
  rw [show (w1.drewN 1).cell? _ = w1.cell? _ from rfl, h1.cb] at hcbW
  rw [show (w1.drewN 1).cell? _ = w1.cell? _ from rfl, h1.cn] at hcnW
  have HA := Lib.hid (And.intro hPM (And.intro hgW (And.intro hcntW (And.intro hcbW (And.intro hcnW (And.intro hf2 (And.intro hf3 hf4)))))))
  clear hPM hgW hcntW hcbW hcnW hf2 hf3 hf4
  have j16 : ¬ 16 = J := by omega

  clear hsrc hcs
  generalize ((q P).drop (J + 1)).map (Value.int .i64) = cs at *
  generalize hL : (q P).length = L at *
  have HL := Lib.hid hL
  clear hL
  go_upto_region 5 with fail
  go_region
  go_upto_region 6 with fail
  refine wp_gen (fun W => PM (w1.drewN 1) W B P J q b n ∧ w.grownBy W (some B) ∧ W.cell? ⟨B, P * 17 + 16, none⟩ = some (.int .i64 (L : Int)) ∧ W.cell? ⟨B, 544, none⟩ = some (.int .u32 b) ∧ W.cell? ⟨B, 545, none⟩ = some (.int .i64 n) ∧ W.frozen? ⟨B, P * 17 + 16, none⟩ = false ∧ W.frozen? ⟨B, 544, none⟩ = false ∧ W.frozen? ⟨B, 545, none⟩ = false) HA.out ?_
  rintro W ⟨hPM, hgW, hcntW, hcbW, hcnW, hf2, hf3, hf4⟩
  clear HA hcp
  have HPM := Lib.hid hPM
  clear hPM
  by_cases hz : L = 1
  · have hzb : ((L : Int) - 1 == 0) = true := by simp; omega
    have Hz := Lib.hid hz
    clear hz
    go_wp2_with (go_at_call 68; with_reducible refine (hwi _).mono ?_; rintro e w2 ⟨rfl, rfl⟩)
    all_goals (
      have hLL := HL.out
      subst hLL
      have hfin := h1d.out.pull0 HPM.out hP hJ hcntW hcbW hcnW Hb.out Hz.out
      go_ret
      first
        | exact ⟨rfl, hfin, only_set (only_set (only_set hgW _) _) _⟩
        | (have e15 : J = 15 := by assumption
           rw [e15] at hfin
           exact ⟨rfl, hfin, only_set (only_set (only_set hgW _) _) _⟩))
  · have hzb : ((L : Int) - 1 == 0) = false := by simp; omega
    have Hz := Lib.hid hz
    clear hz
    go_wp2
    all_goals (
      have hLL := HL.out
      subst hLL
      have hfin := h1d.out.pull1 HPM.out hP hJ hcntW hcbW hcnW Hb.out Hz.out
      go_ret
      first
        | exact ⟨rfl, hfin, only_set (only_set hgW _) _⟩
        | (have e15 : J = 15 := by assumption
           rw [e15] at hfin
           exact ⟨rfl, hfin, only_set (only_set hgW _) _⟩))

set_option maxRecDepth 100000 in
set_option maxHeartbeats 1000000 in
theorem rremove_no (B : Nat) (q : Nat → List Int) (b n task : Int) (w : World) (hT : Tab w) (h : RK w B q b n) (hno : ∀ p, p < 32 → ∀ i, i < (q p).length → (q p).getD i 0 ≠ task) :
    Calls Tryd.prog 38 #[.pointer (some ⟨B, 0, none⟩), .int .i64 task] w fun e w' => e = .returned (.bool false) ∧ Below w.heap.size w w' := by
  have hfi := find_no B q b n task w hT h hno
  go_enter Tryd.func38, Tryd.ntmps38
  go_wp2_with (go_at_call 75; with_reducible refine hfi.mono ?_; rintro e w1 ⟨rfl, hb1⟩)
  go_ret
  exact ⟨rfl, hb1⟩
end Go.Proofs.YtbbnackahgcegaaDoor
