/- NestRises: whatever is entered, levels rise, are at most 32, and are left from the last one on; what is told, and a copy, is its own. -/
import Derived.Test.YtebhojbllhjkeaaNestNil
import Derived.Test.YtebhojbllhjkeaaSame
import Derived.ProofKit
import Derived.OpenShut
import Derived.ChangeOld
namespace Go.Proofs.Ytebhojbllhjkeaa.nestRises
open Go.ChangeShapes Go.WideShapes Go.ChangeAt Go.RowKit
set_option linter.unusedVariables false

theorem _root_.Go.Proofs.Ytebhojbllhjkeaa.NestAt.lt {w : World} {B o : Nat} {s : List Int} {m : Int} (h : NestAt w B o s m) : B < w.heap.size := block_lt_of_cell h.deep

/-- the first loop: the nest has the levels 's' -/
structure In (w W : World) (s : List Int) (m : Int) : Prop where
  nest : NestAt W w.heap.size 0 s m
  bel : Below w.heap.size w W
  sz : w.heap.size < W.heap.size
  stk : Stk s
  up : Up s
theorem In.below {w W W' : World} {s : List Int} {m : Int} (h : In w W s m) (hb : Below W.heap.size W W') : In w W' s m :=
  ⟨h.nest.below hb h.sz, below_trans h.bel hb, Nat.lt_of_lt_of_le h.sz hb.size, h.stk, h.up⟩
theorem In.drew {w W : World} {s : List Int} {m : Int} (h : In w W s m) : In w W.drew s m := h.below (Below.refl _ _).drew
theorem In.push {w W W' : World} {s : List Int} {m m' k : Int} (h : In w W s m) (hk : mayB k s = true) (hn : NestAt W' w.heap.size 0 (s ++ [k]) m') (hg : W.grownBy W' (some w.heap.size)) : In w W' (s ++ [k]) m' :=
  ⟨hn, h.bel.grown hg (Nat.le_of_lt h.sz) (fun k hk => by injection hk with hk; omega), Nat.lt_of_lt_of_le h.sz hg.size, (h.stk.push hk).1, h.up.push hk⟩

/-- what is left of the list when the last levels are struck -/
def struck (s : List Int) (j : Nat) : List Int := s.take j ++ List.replicate (s.length - j) 99

/-- the second loop: the nest has the first j levels, the list those and 99s, the copy has them all -/
structure Dn (w W : World) (L C j : Nat) (s : List Int) (m : Int) : Prop where
  nest : NestAt W w.heap.size 0 (s.take j) m
  copy : NestAt W C 0 s m
  list : ∀ x, x < s.length → W.cell? ⟨L, x, none⟩ = some (.int .i64 (if x < j then s.getD x 0 else 99))
  fro : ∀ x, W.frozen? ⟨L, x, none⟩ = false
  bel : Below w.heap.size w W
  sz : w.heap.size < L
  szL : L < C
  szC : C < W.heap.size
theorem Dn.below {w W W' : World} {L C j : Nat} {s : List Int} {m : Int} (h : Dn w W L C j s m) (hb : Below W.heap.size W W') : Dn w W' L C j s m :=
  have h1 := h.sz; have h2 := h.szL; have h3 := h.szC
  ⟨h.nest.below hb (by omega), h.copy.below hb h.szC, fun x hx => (hb.cell (p := ⟨L, x, none⟩) (by show L < _; omega)).trans (h.list x hx), fun x => (hb.frozen (p := ⟨L, x, none⟩) (by show L < _; omega)).trans (h.fro x),
   below_trans h.bel hb, h.sz, h.szL, Nat.lt_of_lt_of_le h.szC hb.size⟩
theorem Dn.drewN {w W : World} {L C j : Nat} {s : List Int} {m : Int} (h : Dn w W L C j s m) (n : Nat) : Dn w (W.drewN n) L C j s m := h.below (below_drewN (Below.refl _ _) n)

/-- a level is left -/
theorem Dn.left {w W W' : World} {L C j : Nat} {s : List Int} {m : Int} (h : Dn w W L C (j + 1) s m) (hn : NestAt W' w.heap.size 0 (s.take j) m) (hg : W.grownBy W' (some w.heap.size)) :
    NestAt W' w.heap.size 0 (s.take j) m ∧ NestAt W' C 0 s m ∧ (∀ x, x < s.length → W'.cell? ⟨L, x, none⟩ = some (.int .i64 (if x < j + 1 then s.getD x 0 else 99))) ∧ (∀ x, W'.frozen? ⟨L, x, none⟩ = false) ∧ Below w.heap.size w W' ∧ C < W'.heap.size :=
  have h1 := h.sz; have h2 := h.szL; have h3 := h.szC
  ⟨hn, h.copy.only hg h.szC (by omega), fun x hx => (only_cell hg (p := ⟨L, x, none⟩) (by show L < _; omega) (by show L ≠ _; omega)).trans (h.list x hx),
   fun x => (only_frozen hg (p := ⟨L, x, none⟩) (by show L < _; omega) (by show L ≠ _; omega)).trans (h.fro x), h.bel.grown hg (by omega) (fun k hk => by injection hk with hk; omega), Nat.lt_of_lt_of_le h.szC hg.size⟩

/-- and struck in the list -/
theorem Dn.strike {w W' : World} {L C j : Nat} {s : List Int} {m : Int} (hj : j < s.length) (hL : w.heap.size < L) (hLC : L < C)
    (h : NestAt W' w.heap.size 0 (s.take j) m ∧ NestAt W' C 0 s m ∧ (∀ x, x < s.length → W'.cell? ⟨L, x, none⟩ = some (.int .i64 (if x < j + 1 then s.getD x 0 else 99))) ∧ (∀ x, W'.frozen? ⟨L, x, none⟩ = false) ∧ Below w.heap.size w W' ∧ C < W'.heap.size) :
    Dn w (W'.setCell ⟨L, j, none⟩ (.int .i64 99)) L C j s m := by
  obtain ⟨d1, d2, d3, d4, d5, d6⟩ := h
  have hg : W'.grownBy (W'.setCell ⟨L, j, none⟩ (.int .i64 99)) (some L) := only_set (only_refl _ _) _
  refine ⟨d1.only hg (by omega) (by omega), d2.only hg d6 (by omega), fun x hx => ?_, fun x => by rw [set_frozen]; exact d4 x, d5.setCell (p := ⟨L, j, none⟩) (Nat.le_of_lt hL) _, hL, hLC, Nat.lt_of_lt_of_le d6 hg.size⟩
  by_cases he : x = j
  · subst he
    rw [if_neg (by omega)]
    exact set_same (d3 x hx)
  · rw [set_other he, d3 x hx]
    by_cases h1 : x < j
    · rw [if_pos h1, if_pos (by omega)]
    · rw [if_neg h1, if_neg (by omega)]

/-- the list that was struck is none of the levels -/
theorem struck_ne {s : List Int} (hs : Stk s) : decide (s = List.replicate s.length 99) = decide (s.length = 0) := by
  rw [decide_eq_decide]
  constructor
  · intro h
    apply Decidable.byContradiction
    intro h0
    have h1 := (hs 0 (by omega)).2
    have h2 : s.getD 0 0 = 99 := by
      rw [h]
      simp only [List.getD_eq_getElem?_getD, List.getElem?_replicate]
      rw [if_pos (by omega)]
      rfl
    omega
  · intro h
    obtain rfl : s = [] := List.eq_nil_of_length_eq_zero h
    rfl
theorem Dn.reads {w W : World} {L C : Nat} {s : List Int} {m : Int} (h : Dn w W L C 0 s m) (hs : s.length ≤ 32) : Reads W (some ⟨L, 0, none⟩) (List.replicate s.length 99) :=
  ⟨by simp; omega, fun _ => ⟨L, 0, rfl, fun i hi => by
    rw [List.length_replicate] at hi
    rw [Nat.zero_add, h.list i hi, if_neg (by omega)]
    simp [hi]⟩⟩

theorem heap_drewN {w w' : World} {n : Nat} {x : Option Obj} (h : w'.heap[(w.drewN n).heap.size]? = x) : w'.heap[w.heap.size]? = x := h
theorem top_empty (B : Nat) (m : Int) (w : World) (h : NestAt w B 0 [] m) :
    Calls Try.prog 25 #[.pointer (some ⟨B, 0, none⟩)] w fun e w' => e = .returned (.int .i64 (-1)) ∧ ∃ n, w' = w.drewN n := top_any B 0 [] m w h (by simp)
theorem same_of (s : List Int) (L C : Nat) (m : Int) (w W : World) {g : Nat} (hs : Stk s) (h : Dn w W L C 0 s m) (hh : W.heap[g]? = some (.cells (s.map (Value.int .i64)).toArray 3 (0, 0))) :
    Calls Try.prog 29 #[.slice (some ⟨g, 0, none⟩) s.length s.length, .slice (some ⟨L, 0, none⟩) s.length s.length] W fun e w' => e = .returned (.bool (decide (s.length = 0))) ∧ ∃ n, w' = W.drewN n := by
  have hl := hs.le
  have := same_any (some ⟨g, 0, none⟩) (some ⟨L, 0, none⟩) s.length s.length s (List.replicate s.length 99) W (reads_of_heap hh (by omega)) (h.reads hl)
  rw [struck_ne hs, List.length_replicate] at this
  exact this
theorem same_yes (s : List Int) (L C : Nat) (m : Int) (w W : World) {g : Nat} (hs : Stk s) (h0 : s.length = 0) (h : Dn w W L C 0 s m) (hh : W.heap[g]? = some (.cells (s.map (Value.int .i64)).toArray 3 (0, 0))) :
    Calls Try.prog 29 #[.slice (some ⟨g, 0, none⟩) s.length s.length, .slice (some ⟨L, 0, none⟩) s.length s.length] W fun e w' => e = .returned (.bool true) ∧ ∃ n, w' = W.drewN n :=
  (same_of s L C m w W hs h hh).mono fun _ _ ⟨a, b⟩ => ⟨a.trans (ret_bool (decide_eq_true h0)), b⟩
theorem same_no (s : List Int) (L C : Nat) (m : Int) (w W : World) {g : Nat} (hs : Stk s) (h0 : ¬ s.length = 0) (h : Dn w W L C 0 s m) (hh : W.heap[g]? = some (.cells (s.map (Value.int .i64)).toArray 3 (0, 0))) :
    Calls Try.prog 29 #[.slice (some ⟨g, 0, none⟩) s.length s.length, .slice (some ⟨L, 0, none⟩) s.length s.length] W fun e w' => e = .returned (.bool false) ∧ ∃ n, w' = W.drewN n :=
  (same_of s L C m w W hs h hh).mono fun _ _ ⟨a, b⟩ => ⟨a.trans (ret_bool (decide_eq_false h0)), b⟩

set_option maxRecDepth 100000 in
set_option maxHeartbeats 2000000 in
theorem walk (p : Option Addr) (cap : Nat) (zs : List Int) (w : World) (hm : zs.length ≤ 200) (hp : Reads w p zs) :
    Calls Try.prog 5 #[.slice p zs.length cap] w fun e w' => e = .returned (.bool true) ∧ Below w.heap.size w w' := by
  have hgt : decide ((200 : Int) < (zs.length : Int)) = false := decide_eq_false (by omega)
  have Hp := Lib.hid hp.2
  clear hp
  have st0 : In w (w.alloc (.cells (Array.replicate 34 (.int .i64 0)) 33)) [] 0 := ⟨NestAt.new w 33, below_one _ _, by simp, Stk.nil, fun i hi => by simp at hi⟩
  have St0 := Lib.hid st0
  clear st0
  go_enter Try.func5, Try.ntmps5
  go_wp2
  go_loopw [4] (fun i wr => ∃ (k : Nat) (s : List Int) (m : Int), k ≤ zs.length ∧ i = .int .i64 k ∧ In w wr s m) (fun i _ => zs.length - (intOf i).toNat)
  case atStart => exact ⟨0, [], 0, Nat.zero_le _, rfl, St0.out⟩
  case round =>
    obtain ⟨k, s, m, hk, rfl, hst⟩ := hrel
    by_cases hlt : k < zs.length
    · obtain ⟨b, off, rfl, hcells⟩ := Hp.out (by omega)
      have hb : b < w.heap.size := block_lt_of_cell (hcells k hlt)
      have hcell := (hst.bel.cell (p := ⟨b, off + k, none⟩) hb).trans (hcells k hlt)
      clear hcells
      generalize hz : zs.getD k 0 = z at hcell
      have Hz := Lib.hid hz
      clear hz
      have hs32 := hst.stk.le
      by_cases hmay : mayB z s = true
      · have hs31 := (hst.stk.push hmay).2
        have Hmay := Lib.hid hmay
        clear hmay
        go_wp2_with (go_at_call 21; refine (enter_yes w.heap.size 0 z s m _ hst.nest hs31 hst.sz Hmay.out).mono ?_; rintro e w1 ⟨rfl, hn, hg⟩)
        have st1 := hst.push Hmay.out hn hg
        clear hn hg hcell hst
        go_roundw
        case rel => exact ⟨k + 1, _, _, by omega, by go_num, st1⟩
        case measure => simp [intOf]; omega
      · have hmay := eq_false_of_ne_true hmay
        have Hmay := Lib.hid hmay
        clear hmay
        go_wp2_with (go_at_call 21; refine (enter_no w.heap.size 0 z s m _ hst.nest hs32 hst.sz Hmay.out).mono ?_; rintro e w1 ⟨rfl, hb1⟩)
        have st1 := hst.below hb1
        clear hb1 hcell hst
        go_roundw
        case rel => exact ⟨k + 1, _, _, by omega, by go_num, st1⟩
        case measure => simp [intOf]; omega
    · obtain rfl : k = zs.length := by omega
      clear Hp St0
      have hs32 := hst.stk.le
      go_wp2_with (first
        | (go_at_call 30; refine (list_any w.heap.size 0 s m _ hst.nest hs32 hst.sz).mono ?_; rintro e w4 ⟨rfl, hh4, hb4⟩; have hst2 := hst.below hb4; have Hh4 := Lib.hid hh4; clear hh4)
        | (go_at_call 31; refine (copy_any w.heap.size 0 s m _ hst2.nest hs32 hst2.sz).mono ?_; rintro e w5 ⟨rfl, hcp, hb5⟩)
        | (go_at_call 27; refine (deep_any _ 0 s m _ hcp).mono ?_; rintro e w6 ⟨rfl, rfl⟩))
      have hst3 := hst2.below hb5
      have hL : wr.heap.size < w4.heap.size := by
        have := (Array.getElem?_eq_some_iff.1 Hh4.out).1
        exact this
      have dn0 : Dn w w6 wr.heap.size w4.heap.size s.length s m := by
        refine ⟨by rw [List.take_length]; exact hst3.nest, hcp, fun x hx => ?_, fun x => ?_, hst3.bel, hst.sz, hL, ?_⟩
        · rw [if_pos hx]
          refine ((hb5.cell (p := ⟨wr.heap.size, x, none⟩) hL).trans (cell_of_row w4 _ x _ _ _ Hh4.out)).trans ?_
          simp [hx]
        · refine (hb5.frozen (p := ⟨wr.heap.size, x, none⟩) hL).trans ?_
          have hh := Hh4.out
          simp [World.frozen?, hh]
        · exact hcp.lt
      have hstk := hst.stk
      have hup := hst.up
      have Dn0 := Lib.hid dn0
      clear dn0 hst hst2 hst3 Hh4 hb4 hb5 hcp
      generalize hLL : wr.heap.size = L at *
      generalize hCC : w4.heap.size = C at *
      clear hLL hCC
      have hstk := Lib.hid hstk
      have hup := Lib.hid hup
      go_loopw [7] (fun i wr => ∃ (j : Nat), j ≤ s.length ∧ i = .int .i64 ((j : Int) - 1) ∧ Dn w wr L C j s m) (fun i _ => (intOf i + 1).toNat)
      case atStart => exact ⟨s.length, Nat.le_refl _, rfl, Dn0.out⟩
      case round =>
        obtain ⟨j, hj, rfl, hdn⟩ := hrel
        cases j with
        | zero =>
          have hn0 : NestAt wr w.heap.size 0 [] m := hdn.nest
          have hdn := Lib.hid hdn
          by_cases hs0 : s.length = 0
          · have hd0 : decide ((0 : Int) < (s.length : Int)) = false := decide_eq_false (by omega)
            have Hs0 := Lib.hid hs0
            clear hs0
            go_wp2_with (first
              | (go_at_call 23; with_reducible refine (leave_none w.heap.size 0 m _ hn0).mono ?_; rintro e w8 ⟨rfl, rfl⟩)
              | (go_at_call 23; with_reducible refine (leave_nil _).mono ?_; rintro e w8 ⟨rfl, rfl⟩)
              | (go_at_call 25; with_reducible refine (top_empty w.heap.size m _ hn0).mono ?_; rintro e w9 ⟨rfl, n9, rfl⟩; have dn9 := hdn.out.drewN n9)
              | (go_at_call 25; with_reducible refine (top_nil _).mono ?_; rintro e w9 ⟨rfl, rfl⟩)
              | (go_at_call 27; with_reducible refine (deep_any C 0 s m _ dn9.copy).mono ?_; rintro e w9 ⟨rfl, rfl⟩)
              | (go_at_call 27; with_reducible refine (deep_nil _).mono ?_; rintro e w9 ⟨rfl, rfl⟩)
              | (go_at_call 30; with_reducible refine (list_any C 0 s m _ dn9.copy hs32 dn9.szC).mono ?_; rintro e w10 ⟨rfl, hh10, hb10⟩; have dn10 := dn9.below hb10; have Hh10 := Lib.hid (heap_drewN hh10); clear hh10)
              | (go_at_call 29; with_reducible refine (same_yes s L C m _ _ hstk.out Hs0.out dn10 Hh10.out).mono ?_; rintro e w11 ⟨rfl, n11, rfl⟩; have hbel := Lib.hid (dn10.drewN n11).bel)
              | (go_at_call 21; with_reducible refine (enter_nil 3 _).mono ?_; rintro e w12 ⟨rfl, hb12⟩)
              | (go_at_call 28; with_reducible refine (most_nil _).mono ?_; rintro e w12 ⟨rfl, rfl⟩)
              | (go_at_call 30; with_reducible refine (list_nil _).mono ?_; rintro e w12 ⟨rfl, rfl⟩)
              | (go_at_call 31; with_reducible refine (copy_nil _).mono ?_; rintro e w12 ⟨rfl, rfl⟩)
              | (go_at_call 20; refine (alive08 _).mono ?_; rintro e w13 ⟨rfl, hb13⟩))
            all_goals first
              | (exfalso; rename_i hq; exact hq (List.eq_nil_of_length_eq_zero Hs0.out))
              | (go_ret; exact ⟨rfl, below_trans (below_trans hbel.out hb12) hb13⟩)
          · have hd0 : decide ((0 : Int) < (s.length : Int)) = true := decide_eq_true (by omega)
            have Hs0 := Lib.hid hs0
            clear hs0
            go_wp2_with (first
              | (go_at_call 23; with_reducible refine (leave_none w.heap.size 0 m _ hn0).mono ?_; rintro e w8 ⟨rfl, rfl⟩)
              | (go_at_call 23; with_reducible refine (leave_nil _).mono ?_; rintro e w8 ⟨rfl, rfl⟩)
              | (go_at_call 25; with_reducible refine (top_empty w.heap.size m _ hn0).mono ?_; rintro e w9 ⟨rfl, n9, rfl⟩; have dn9 := hdn.out.drewN n9)
              | (go_at_call 25; with_reducible refine (top_nil _).mono ?_; rintro e w9 ⟨rfl, rfl⟩)
              | (go_at_call 27; with_reducible refine (deep_any C 0 s m _ dn9.copy).mono ?_; rintro e w9 ⟨rfl, rfl⟩)
              | (go_at_call 27; with_reducible refine (deep_nil _).mono ?_; rintro e w9 ⟨rfl, rfl⟩)
              | (go_at_call 30; with_reducible refine (list_any C 0 s m _ dn9.copy hs32 dn9.szC).mono ?_; rintro e w10 ⟨rfl, hh10, hb10⟩; have dn10 := dn9.below hb10; have Hh10 := Lib.hid (heap_drewN hh10); clear hh10)
              | (go_at_call 29; with_reducible refine (same_no s L C m _ _ hstk.out Hs0.out dn10 Hh10.out).mono ?_; rintro e w11 ⟨rfl, n11, rfl⟩; have hbel := Lib.hid (dn10.drewN n11).bel)
              | (go_at_call 21; with_reducible refine (enter_nil 3 _).mono ?_; rintro e w12 ⟨rfl, hb12⟩)
              | (go_at_call 28; with_reducible refine (most_nil _).mono ?_; rintro e w12 ⟨rfl, rfl⟩)
              | (go_at_call 30; with_reducible refine (list_nil _).mono ?_; rintro e w12 ⟨rfl, rfl⟩)
              | (go_at_call 31; with_reducible refine (copy_nil _).mono ?_; rintro e w12 ⟨rfl, rfl⟩)
              | (go_at_call 20; refine (alive08 _).mono ?_; rintro e w13 ⟨rfl, hb13⟩))
            all_goals first
              | (exfalso; rename_i hq; have := Hs0.out; omega)
              | (go_ret; exact ⟨rfl, below_trans (below_trans hbel.out hb12) hb13⟩)
        | succ i =>
          have hi : i < s.length := hj
          have hcx := hdn.list i hi
          rw [if_pos (Nat.lt_succ_self i)] at hcx
          obtain ⟨hx0, hx1⟩ := hstk.out i hi
          have hdn := Lib.hid hdn
          have Htk := Lib.hid (take_snoc s i hi)
          cases i with
          | zero =>
            generalize hx : s.getD 0 0 = x at hcx hx0 hx1 Htk
            have Hx := Lib.hid hx
            have e : (((0 + 1 : Nat) : Int) - 1) = 0 := by omega
            rw [e]
            have h1 : decide (x < 0) = false := decide_eq_false (by omega)
            have h2 : decide (31 < x) = false := decide_eq_false (by omega)
            clear hx hx0 hx1
            go_wp2
            go_quiet (fail)
            clear h1 h2 hcx
            go_wp2_with (go_at_call 23; apply stop)
            all_goals (refine Stop.go ?_)
            have hdn1 := hdn.out.drewN nq
            refine (leave_some w.heap.size 0 (s.take 0) x m _ (by rw [← Htk.out]; exact hdn1.nest) (by simp)).mono ?_
            rintro e w7 ⟨rfl, hn7, hg7⟩
            have hd := hdn1.left hn7 hg7
            have hcx := hd.2.2.1 0 hi
            rw [if_pos (Nat.lt_succ_self _), Hx.out] at hcx
            have hfx := hd.2.2.2.1 0
            have Hd := Lib.hid (Dn.strike hi hdn1.sz hdn1.szL hd)
            clear hd hdn1 hn7 hg7
            go_wp2
            go_roundw
            case rel => exact ⟨0, by omega, by go_num, Hd.out⟩
            case measure => simp [intOf]; try omega
          | succ q =>
            have hcy := hdn.out.list q (by omega)
            rw [if_pos (by omega)] at hcy
            have hlt2 := hup.out q hi
            have e : (((q + 1 + 1 : Nat) : Int) - 1) = ((q + 1 : Nat) : Int) := by omega
            rw [e]
            generalize hx : s.getD (q + 1) 0 = x at hcx hx0 hx1 Htk hlt2
            generalize hy : s.getD q 0 = y at hcy hlt2
            have Hx := Lib.hid hx
            clear hx hy
            have h0 : decide (x ≤ y) = false := decide_eq_false (by omega)
            have h1 : decide (x < 0) = false := decide_eq_false (by omega)
            have h2 : decide (31 < x) = false := decide_eq_false (by omega)
            clear hx0 hx1
            have e1 : IntKind.i64.wrap (((q + 1 : Nat) : Int) - 1) = (q : Int) := by rw [IntKind.wrap_i64]; omega
            go_wp2
            go_quiet (fail)
            clear h0 h1 h2 hcx hcy hlt2
            go_wp2_with (go_at_call 23; apply stop)
            all_goals (refine Stop.go ?_)
            have hdn1 := hdn.out.drewN nq
            refine (leave_some w.heap.size 0 (s.take (q + 1)) x m _ (by rw [← Htk.out]; exact hdn1.nest) (by simp; omega)).mono ?_
            rintro e w7 ⟨rfl, hn7, hg7⟩
            have hd := hdn1.left hn7 hg7
            have hcx := hd.2.2.1 (q + 1) hi
            rw [if_pos (Nat.lt_succ_self _), Hx.out] at hcx
            have hfx := hd.2.2.2.1 (q + 1)
            have Hd := Lib.hid (Dn.strike hi hdn1.sz hdn1.szL hd)
            clear hd hdn1 hn7 hg7
            go_wp2
            go_roundw
            case rel => exact ⟨q + 1, by omega, by go_num, Hd.out⟩
            case measure => simp [intOf]; try omega

set_option maxRecDepth 100000 in
set_option maxHeartbeats 1000000 in
theorem walkBig (p : Option Addr) (cap n : Nat) (w : World) (hm : 200 < n) :
    Calls Try.prog 5 #[.slice p n cap] w fun e w' => e = .returned (.bool true) ∧ Below w.heap.size w w' := by
  have hgt : decide ((200 : Int) < (n : Int)) = true := decide_eq_true (by omega)
  go_enter Try.func5, Try.ntmps5
  go_wp2_with (go_at_call 20; refine (alive08 _).mono ?_; rintro e w' ⟨rfl, hb⟩)
  go_ret
  exact ⟨rfl, hb⟩

theorem walkAll (p : Option Addr) (cap : Nat) (zs : List Int) (w : World) (hp : Reads w p zs) :
    Calls Try.prog 5 #[.slice p zs.length cap] w fun e w' => e = .returned (.bool true) ∧ Below w.heap.size w w' := by
  by_cases h : zs.length ≤ 200
  · exact walk p cap zs w h hp
  · exact walkBig p cap zs.length w (by omega)

end Go.Proofs.Ytebhojbllhjkeaa.nestRises
