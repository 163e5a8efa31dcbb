/- The law's 'alive' on pend, and Above. -/
import Derived.Test.YtbbnackahgcegaaDoorPendRaise
namespace Go.Proofs.YtbbnackahgcegaaDoor
open Go.RowKit
set_option linter.all false

/-- what Raise answers, and what it leaves -/
def raiseB (b k : Int) : Bool := levB k && !hasB b k
def raiseW (b k : Int) : Int := if raiseB b k = true then putT b k else b
def raiseR (b r k : Int) : Int := if raiseB b k = true then r + 1 else r
def raiseM (b m k : Int) : Int := if (levB k && hasB b k) = true then m + 1 else m

theorem praise_any (B o : Nat) (k b r m : Int) (w : World) (h : PendAt w B o b r m) (hr : -1000000 ≤ r ∧ r ≤ 1000000) (hm : -1000000 ≤ m ∧ m ≤ 1000000) :
    Calls Tryd.prog 13 #[.pointer (some ⟨B, o, none⟩), .int .i64 k] w fun e w' => e = .returned (.bool (raiseB b k)) ∧ PendAt w' B o (raiseW b k) (raiseR b r k) (raiseM b m k) ∧ w.grownBy w' (some B) := by
  by_cases hk : levB k = true
  · by_cases hh : hasB b k = true
    · refine (raise_had B o k b r m w h hk hh hm).mono fun e w' ⟨he, hp, hg⟩ => ⟨?_, ?_, hg⟩
      · rw [he]; simp [raiseB, hk, hh]
      · simpa [raiseW, raiseR, raiseM, raiseB, hk, hh] using hp
    · have hh := eq_false_of_ne_true hh
      refine (raise_new B o k b r m w h hk hh hr).mono fun e w' ⟨he, hp, hg⟩ => ⟨?_, ?_, hg⟩
      · rw [he]; simp [raiseB, hk, hh]
      · simpa [raiseW, raiseR, raiseM, raiseB, hk, hh] using hp
  · have hk := eq_false_of_ne_true hk
    refine (raise_bad B o k b r m w h hk).mono fun e w' ⟨he, hb⟩ => ⟨?_, ?_, only_of_below hb _⟩
    · rw [he]; simp [raiseB, hk]
    · simpa [raiseW, raiseR, raiseM, raiseB, hk] using h.up hb

theorem ptop_any (B o : Nat) (b r m : Int) (w : World) (h : PendAt w B o b r m) (hT : Tab w) :
    Calls Tryd.prog 14 #[.pointer (some ⟨B, o, none⟩)] w fun e w' => e = .returned (.int .i64 (hiI b)) ∧ w' = w :=
  ptop_of _ b w h.lo h.hi hT (pbits_any B o b r m w h)

/-- what Above answers -/
def aboveI (b l : Int) : Int := if l < hiI b then hiI b else -1
set_option maxHeartbeats 400000 in
theorem above_any (B o : Nat) (b r m l : Int) (w : World) (h : PendAt w B o b r m) (hT : Tab w) :
    Calls Tryd.prog 22 #[.pointer (some ⟨B, o, none⟩), .int .i64 l] w fun e w' => e = .returned (.int .i64 (aboveI b l)) ∧ w' = w := by
  have ht := fun W h hT => ptop_any B o b r m W h hT
  have Ha := Lib.hid (show aboveI b l = if l < hiI b then hiI b else -1 from rfl)
  generalize hiI b = x at *
  by_cases hl : l < x
  · go_enter Tryd.func22, Tryd.ntmps22
    go_wp2_with (go_at_call 14; refine (ht _ h hT).mono ?_; rintro e w' ⟨rfl, rfl⟩)
    go_ret
    exact ⟨ret_int (by rw [Ha.out, if_pos (by omega)]), rfl⟩
  · go_enter Tryd.func22, Tryd.ntmps22
    go_wp2_with (go_at_call 14; refine (ht _ h hT).mono ?_; rintro e w' ⟨rfl, rfl⟩)
    go_ret
    exact ⟨ret_int (by rw [Ha.out, if_neg (by omega)]), rfl⟩

theorem PendAt.new (w : World) (t : TypeId) : PendAt (w.alloc (.cells #[.int .u32 0, .int .i64 0, .int .i64 0] t)) w.heap.size 0 0 0 0 := by
  constructor
  case lo => omega
  case hi => omega
  all_goals (simp [go_sem]; done)

set_option maxRecDepth 10000 in
set_option maxHeartbeats 1000000 in
theorem alive07 (w : World) (hT : Tab w) : Calls Tryd.prog 12 #[] w fun e w' => e = .returned (.bool true) ∧ Below w.heap.size w w' := by
  have st0 := PendAt.new w 27
  have bb0 := below_one w (.cells #[.int .u32 0, .int .i64 0, .int .i64 0] 27)
  have e1 : raiseW 0 3 = 8 := by decide
  have e2 : raiseW 8 1 = 10 := by decide
  have e3 : raiseW 10 3 = 10 := by decide
  have r1 : raiseB 0 3 = true := by decide
  have r2 : raiseB 8 1 = true := by decide
  have r3 : raiseB 10 3 = false := by decide
  have a1 : aboveI 10 1 = 3 := by decide
  have a2 : aboveI 10 3 = -1 := by decide
  have hr1 := fun W h => praise_any w.heap.size 0 3 0 0 0 W h (by omega) (by omega)
  have hr2 := fun W h => praise_any w.heap.size 0 1 8 (raiseR 0 0 3) (raiseM 0 0 3) W h (by decide) (by decide)
  have hr3 := fun W h => praise_any w.heap.size 0 3 10 (raiseR 8 (raiseR 0 0 3) 1) (raiseM 8 (raiseM 0 0 3) 1) W h (by decide) (by decide)
  rw [r1, e1] at hr1
  rw [r2, e2] at hr2
  rw [r3, e3] at hr3
  have ha1 := fun W r m h hT => above_any w.heap.size 0 10 r m 1 W h hT
  have ha2 := fun W r m h hT => above_any w.heap.size 0 10 r m 3 W h hT
  rw [a1] at ha1
  rw [a2] at ha2
  clear e1 e2 e3 r1 r2 r3 a1 a2
  have up : ∀ {W W' : World}, Below w.heap.size w W → W.grownBy W' (some w.heap.size) → w.heap.size ≤ W.heap.size → Below w.heap.size w W' := fun hb hg hs => hb.grown hg hs (fun k hk => by injection hk with hk; omega)
  go_enter Tryd.func12, Tryd.ntmps12
  go_wp2_with (first
    | (go_at_call 13; with_reducible refine (hr1 _ st0).mono ?_; rintro e w1 ⟨rfl, st1, hg1⟩; have bb1 := up bb0 hg1 (bb0.size))
    | (go_at_call 13; with_reducible refine (hr2 _ st1).mono ?_; rintro e w2 ⟨rfl, st2, hg2⟩; have bb2 := up bb1 hg2 (bb1.size))
    | (go_at_call 13; with_reducible refine (hr3 _ st2).mono ?_; rintro e w3 ⟨rfl, st3, hg3⟩; have bb3 := up bb2 hg3 (bb2.size))
    | (go_at_call 22; with_reducible refine (ha1 _ _ _ st3 (hT.below bb3)).mono ?_; rintro e w4 ⟨rfl, rfl⟩)
    | (go_at_call 22; with_reducible refine (ha2 _ _ _ st3 (hT.below bb3)).mono ?_; rintro e w4 ⟨rfl, rfl⟩))
  go_ret
  exact ⟨rfl, by assumption⟩
end Go.Proofs.YtbbnackahgcegaaDoor
