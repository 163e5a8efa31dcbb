/- A rank in memory: 32 rows of at most 16 tasks, their bits, their number. -/
import Derived.Test.YtbbnackahgcegaaDoorWordCB
import Derived.Test.YtbbnackahgcegaaDoorPendBits
import Derived.Test.YtbbnackahgcegaaDoorLabels
import Derived.Test.YtbbnackahgcegaaDoorFoot
import Derived.Deep.QuietTactic
import Derived.BigQuiet
import Derived.BigRegion
import Derived.Deep.RegionWith
import Derived.Deep.RegionHeld3
import Derived.Deep.DeepCutAuto
import Derived.Deep.LoopGhost
import Derived.Deep.MidRow
namespace Go.Proofs.YtbbnackahgcegaaDoor
open Go.RowKit
set_option linter.all false

/-- In block B lies a rank: row p holds the tasks 'q p'; the word b, the number n. -/
structure RK (w : World) (B : Nat) (q : Nat → List Int) (b n : Int) : Prop where
  lev : ∀ p i, p < 32 → i < (q p).length → w.cell? ⟨B, p * 17 + i, none⟩ = some (.int .i64 ((q p).getD i 0))
  any : ∀ p i, p < 32 → i < 16 → ∃ x, w.cell? ⟨B, p * 17 + i, none⟩ = some (.int .i64 x)
  cnt : ∀ p, p < 32 → w.cell? ⟨B, p * 17 + 16, none⟩ = some (.int .i64 ((q p).length : Int))
  cb : w.cell? ⟨B, 544, none⟩ = some (.int .u32 b)
  cn : w.cell? ⟨B, 545, none⟩ = some (.int .i64 n)
  fr : ∀ i, i < 546 → w.frozen? ⟨B, i, none⟩ = false
  len : ∀ p, p < 32 → (q p).length ≤ 16
  lo : 0 ≤ b
  hi : b ≤ 4294967295
  tb : ∀ p, p < 32 → b.toNat.testBit p = decide (q p ≠ [])
theorem RK.lt {w : World} {B : Nat} {q : Nat → List Int} {b n : Int} (h : RK w B q b n) : B < w.heap.size := block_lt_of_cell h.cb
theorem RK.up {w w' : World} {B : Nat} {q : Nat → List Int} {b n : Int} (h : RK w B q b n) (hb : Below w.heap.size w w') : RK w' B q b n :=
  ⟨fun p i hp hi => (hb.cell (p := ⟨B, _, none⟩) h.lt).trans (h.lev p i hp hi), fun p i hp hi => (h.any p i hp hi).elim fun x hx => ⟨x, (hb.cell (p := ⟨B, _, none⟩) h.lt).trans hx⟩, fun p hp => (hb.cell (p := ⟨B, _, none⟩) h.lt).trans (h.cnt p hp), (hb.cell (p := ⟨B, _, none⟩) h.lt).trans h.cb, (hb.cell (p := ⟨B, _, none⟩) h.lt).trans h.cn, fun i hi => (hb.frozen (p := ⟨B, _, none⟩) h.lt).trans (h.fr i hi), h.len, h.lo, h.hi, h.tb⟩
theorem RK.drewN {w : World} {B : Nat} {q : Nat → List Int} {b n : Int} (h : RK w B q b n) (k : Nat) : RK (w.drewN k) B q b n := h.up (below_drewN (Below.refl _ _) k)

/-- the memory of one that calls word.List and reads -/
theorem bitsL_mem {b : Int} (h0 : 0 ≤ b) (h1 : b ≤ 4294967295) : ∀ p : Nat, p < 32 → ((p : Int) ∈ bitsL b ↔ b.toNat.testBit p = true) := by
  have key : ∀ f i w : Nat, ∀ p : Nat, (p : Int) ∈ bitsFrom f i w ↔ (i ≤ p ∧ p < i + f ∧ w.testBit (p - i) = true) := by
    intro f
    induction f with
    | zero => intro i w p; simp [bitsFrom]; omega
    | succ f ih =>
      intro i w p
      have hb : ∀ m, (w / 2).testBit m = w.testBit (m + 1) := fun m => Nat.testBit_div_two ..
      unfold bitsFrom
      by_cases h2 : w % 2 = 1
      · rw [if_pos h2, List.mem_cons, ih]
        have h00 : w.testBit 0 = true := by rw [Nat.testBit_zero]; simpa using h2
        constructor
        · rintro (h | ⟨h3, h4, h5⟩)
          · obtain rfl : p = i := by omega
            exact ⟨by omega, by omega, by simpa using h00⟩
          · rw [hb] at h5
            exact ⟨by omega, by omega, by rwa [show p - (i + 1) + 1 = p - i by omega] at h5⟩
        · rintro ⟨h3, h4, h5⟩
          by_cases e : p = i
          · exact .inl (by omega)
          · exact .inr ⟨by omega, by omega, by rw [hb, show p - (i + 1) + 1 = p - i by omega]; exact h5⟩
      · rw [if_neg h2, ih]
        have h00 : w.testBit 0 = false := by rw [Nat.testBit_zero]; simpa using h2
        constructor
        · rintro ⟨h3, h4, h5⟩
          rw [hb] at h5
          exact ⟨by omega, by omega, by rwa [show p - (i + 1) + 1 = p - i by omega] at h5⟩
        · rintro ⟨h3, h4, h5⟩
          by_cases e : p = i
          · subst e
            rw [Nat.sub_self, h00] at h5
            cases h5
          · exact ⟨by omega, by omega, by rw [hb, show p - (i + 1) + 1 = p - i by omega]; exact h5⟩
  intro p hp
  unfold bitsL
  rw [key]
  simp
  omega

/-- a slice of the bits' numbers, in memory of a callee's own -/
structure LB (w : World) (base : Nat) (a : Option Addr) (l : List Int) : Prop where
  at_ : 0 < l.length → ∃ g, a = some ⟨g, 0, none⟩ ∧ base ≤ g ∧ g < w.heap.size ∧ ∀ i, i < l.length → w.cell? ⟨g, i, none⟩ = some (.int .i64 (l.getD i 0))
theorem list_at (b : Int) (w : World) (b0 : 0 ≤ b) (b1 : b ≤ 4294967295) (hT : Tab w) :
    Calls Tryd.prog 72 #[.int .u32 b] w fun e w' => ∃ a c, e = .returned (.slice a (bitsL b).length c) ∧ LB w' w.heap.size a (bitsL b) ∧ Below w.heap.size w w' :=
  (list32_any b w b0 b1 hT).mono fun e w' ⟨v, he, hv, hb⟩ => by
    obtain ⟨a, c, rfl, _, _, hc⟩ := hv.shape
    exact ⟨a, c, he, ⟨hc⟩, hb⟩

set_option maxRecDepth 100000 in
set_option maxHeartbeats 1000000 in
theorem find_no (B : Nat) (q : Nat → List Int) (b n task : Int) (w : World) (hT : Tab w) (h : RK w B q b n) (hno : ∀ p, p < 32 → ∀ i, i < (q p).length → (q p).getD i 0 ≠ task) :
    Calls Tryd.prog 75 #[.pointer (some ⟨B, 0, none⟩), .int .i64 task] w fun e w' => e = .returned (.tuple #[.int .i64 0, .int .i64 0, .bool false]) ∧ Below w.heap.size w w' := by
  have hls := fun W hT => list_at b W h.lo h.hi hT
  have hcb := h.cb
  have hlen := length_bitsL b
  have hrange := bitsL_range b
  generalize bitsL b = bl at *
  have Hrange := Lib.hid hrange
  have Hno := Lib.hid hno
  clear hrange hno
  go_enter Tryd.func75, Tryd.ntmps75
  go_wp2_with (go_at_call 72; with_reducible refine (hls _ hT).mono ?_; rintro e w1 ⟨a, c, rfl, hv, hb1⟩)
  have hK := h.up hb1
  clear h hls hcb
  go_loopw [19] (fun i wr => ∃ k : Nat, k ≤ bl.length ∧ i = .int .i64 k ∧ ∃ m, wr = w1.drewN m) (fun i _ => bl.length - (intOf i).toNat)
  case atStart => exact ⟨0, Nat.zero_le _, rfl, 0, rfl⟩
  case round =>
    obtain ⟨k, hk, rfl, m, rfl⟩ := hrel
    by_cases hlt : k < bl.length
    · obtain ⟨g, rfl, hg0, hg1, hg⟩ := hv.at_ (by omega)
      have hcell : w1.cell? ⟨g, k, none⟩ = some (.int .i64 (bl.getD k 0)) := hg k hlt
      have hmem : bl.getD k 0 ∈ bl := by simp [hlt]
      obtain ⟨p0, p1⟩ := Hrange.out _ hmem
      obtain ⟨p, hp⟩ := Int.eq_ofNat_of_zero_le p0
      rw [hp] at hcell
      have hp32 : p < 32 := by omega
      clear hmem p0 p1 hp hg
      have hcnt : w1.cell? ⟨B, p * 17 + 16, none⟩ = some (.int .i64 ((q p).length : Int)) := hK.cnt p hp32
      have hql := hK.len p hp32
      have i1 : (p : Int) < 32 := by omega
      have i2 : ((q p).length : Int) ≤ 16 := by omega
      have i3 : (0 : Int) ≤ ((q p).length : Int) := by omega
      go_upto_region 6 with fail
      go_quiet (fail)
      have hlev : ∀ j, j < (q p).length → w1.cell? ⟨B, p * 17 + j, none⟩ = some (.int .i64 ((q p).getD j 0)) := fun j hj => hK.lev p j hp32 hj
      have Hlev := Lib.hid hlev
      clear hlev hcnt hcell
      have hln : (q p).length = (q p).length := rfl
      generalize hL : (q p).length = L at *
      clear hln
      have HL := Lib.hid hL
      clear hL
      go_wp2
      go_loop [38] (fun i => ∃ j : Nat, j ≤ L ∧ i = .int .i64 j) (fun i => L - (intOf i).toNat)
      case atStart => exact ⟨0, Nat.zero_le _, rfl⟩
      case round =>
        obtain ⟨j, hj, rfl⟩ := hrel
        by_cases hjl : j < L
        · have hcell := Hlev.out j hjl
          have hne := Hno.out p hp32 j (by rw [HL.out]; exact hjl)
          generalize (q p).getD j 0 = x at *
          have hnb : (x == task) = false := by simpa using hne
          clear hne
          go_wp2
          go_round
          case rel => exact ⟨_, _, _, _, _, _, ⟨j + 1, by omega, rfl⟩, rfl, rfl, rfl, rfl, rfl, rfl⟩
          case measure => simp [intOf]; omega
        · obtain rfl : j = L := by omega
          go_wp2
          go_roundw
          case rel => exact ⟨k + 1, by omega, by go_num, m + nq, rfl⟩
          case measure => simp [intOf]; omega
    · obtain rfl : k = bl.length := by omega
      go_wp2
      exact bodyPost_ret (v := .tuple #[.int .i64 0, .int .i64 0, .bool false]) (by simp [results, Tryd.results75, go_sem]) rfl ⟨rfl, below_drewN hb1 _⟩
set_option maxRecDepth 100000 in
set_option maxHeartbeats 1000000 in
theorem find_yes (B P J : Nat) (q : Nat → List Int) (b n task : Int) (w : World) (hT : Tab w) (h : RK w B q b n) (hP : P < 32) (hJ : J < (q P).length) (hat : (q P).getD J 0 = task) (hone : ∀ p, p < 32 → ∀ i, i < (q p).length → (q p).getD i 0 = task → p = P ∧ i = J) :
    Calls Tryd.prog 75 #[.pointer (some ⟨B, 0, none⟩), .int .i64 task] w fun e w' => e = .returned (.tuple #[.int .i64 P, .int .i64 J, .bool true]) ∧ Below w.heap.size w w' := by
  have hls := fun W hT => list_at b W h.lo h.hi hT
  have hcb := h.cb
  have hin : (P : Int) ∈ bitsL b := (bitsL_mem h.lo h.hi P hP).2 (by rw [h.tb P hP]; simp; intro e; rw [e] at hJ; simp at hJ)
  have hlen := length_bitsL b
  have hrange := bitsL_range b
  generalize bitsL b = bl at *
  have Hrange := Lib.hid hrange
  obtain ⟨I, hI, hIP⟩ := List.getElem_of_mem hin
  have hIP : bl.getD I 0 = (P : Int) := by simp [hI, hIP]
  have Hat := Lib.hid (And.intro hat (And.intro hIP hJ))
  have Hone := Lib.hid hone
  clear hrange hone hat hin hIP
  go_enter Tryd.func75, Tryd.ntmps75
  go_wp2_with (go_at_call 72; with_reducible refine (hls _ hT).mono ?_; rintro e w1 ⟨a, c, rfl, hv, hb1⟩)
  have hK := h.up hb1
  clear h hls hcb
  go_loopw [19] (fun i wr => ∃ k : Nat, k ≤ I ∧ i = .int .i64 k ∧ ∃ m, wr = w1.drewN m) (fun i _ => bl.length - (intOf i).toNat)
  case atStart => exact ⟨0, Nat.zero_le _, rfl, 0, rfl⟩
  case round =>
    obtain ⟨k, hk, rfl, m, rfl⟩ := hrel
    have hlt : k < bl.length := by omega
    obtain ⟨g, rfl, hg0, hg1, hg⟩ := hv.at_ (by omega)
    have hcell : w1.cell? ⟨g, k, none⟩ = some (.int .i64 (bl.getD k 0)) := hg k hlt
    have hmem : bl.getD k 0 ∈ bl := by simp [hlt]
    obtain ⟨p0, p1⟩ := Hrange.out _ hmem
    obtain ⟨p, hp⟩ := Int.eq_ofNat_of_zero_le p0
    have hpI : k = I → p = P := fun e => by
      have h1 := Hat.out.2.1
      rw [← e, hp] at h1
      omega
    have HpI := Lib.hid hpI
    clear hpI
    rw [hp] at hcell
    have hp32 : p < 32 := by omega
    clear hmem p0 p1 hp hg
    have hcnt : w1.cell? ⟨B, p * 17 + 16, none⟩ = some (.int .i64 ((q p).length : Int)) := hK.cnt p hp32
    have hql := hK.len p hp32
    have i1 : (p : Int) < 32 := by omega
    have i2 : ((q p).length : Int) ≤ 16 := by omega
    have i3 : (0 : Int) ≤ ((q p).length : Int) := by omega
    go_upto_region 6 with fail
    go_quiet (fail)
    have hlev : ∀ j, j < (q p).length → w1.cell? ⟨B, p * 17 + j, none⟩ = some (.int .i64 ((q p).getD j 0)) := fun j hj => hK.lev p j hp32 hj
    have Hlev := Lib.hid hlev
    clear hlev hcnt hcell
    have hln : (q p).length = (q p).length := rfl
    generalize hL : (q p).length = L at *
    clear hln
    have HL := Lib.hid hL
    clear hL
    go_wp2
    go_loop [38] (fun i => ∃ j : Nat, j ≤ L ∧ i = .int .i64 j ∧ (k = I → j ≤ J)) (fun i => L - (intOf i).toNat)
    case atStart => exact ⟨0, Nat.zero_le _, rfl, fun _ => Nat.zero_le _⟩
    case round =>
      obtain ⟨j, hj, rfl, hjJ⟩ := hrel
      have HjJ := Lib.hid hjJ
      clear hjJ
      by_cases hjl : j < L
      · have hcell := Hlev.out j hjl
        have hone2 := Hone.out p hp32 j (by rw [HL.out]; exact hjl)
        have hat2 := Hat.out.1
        by_cases he : (q p).getD j 0 = task
        · obtain ⟨hpP, hjJ⟩ := hone2 he
          rw [he] at hcell
          have hnb : (task == task) = true := by simp
          have Hpj := Lib.hid (And.intro hpP hjJ)
          clear hpP hjJ hone2 hat2 he
          go_wp2
          exact bodyPost_ret (v := .tuple #[.int .i64 P, .int .i64 J, .bool true]) (by simp [results, Tryd.results75, go_sem, Hpj.out.1, Hpj.out.2]) rfl ⟨rfl, below_drewN hb1 _⟩
        have HjJ2 := Lib.hid (show k = I → j + 1 ≤ J from fun e => by
          have h1 := HjJ.out e
          have h2 := HpI.out e
          rcases Nat.lt_or_ge j J with h | h
          · exact h
          · exfalso
            obtain rfl : j = J := by omega
            rw [h2] at he
            exact he hat2)
        clear hone2 hat2
        generalize (q p).getD j 0 = x at *
        have hnb : (x == task) = false := by simpa using he
        clear he
        go_wp2
        go_round
        case rel => exact ⟨_, _, _, _, _, _, ⟨j + 1, by omega, rfl, HjJ2.out⟩, rfl, rfl, rfl, rfl, rfl, rfl⟩
        case measure => simp [intOf]; omega
      · obtain rfl : j = L := by omega
        have hkI : k < I := by
          rcases Nat.lt_or_ge k I with h | h
          · exact h
          · exfalso
            have e : k = I := by omega
            have h1 := HjJ.out e
            have h2 := HpI.out e
            have h3 := Hat.out.2.2
            have h4 := HL.out
            rw [h2] at h4
            omega
        go_wp2
        go_roundw
        case rel => exact ⟨k + 1, by omega, by go_num, m + nq, rfl⟩
        case measure => simp [intOf]; omega

end Go.Proofs.YtbbnackahgcegaaDoor
