/- Arrays of 32 truths in memory, and the document's word functions Bits, word and Put. -/
import Derived.Test.YtbbnackahgcegaaDoorWordCB
import Derived.Test.YtbbnackahgcegaaDoorPendBits
import Derived.Deep.MidRow
import Derived.Deep.DeepCutAuto
namespace Go.Proofs.YtbbnackahgcegaaDoor
open Go.RowKit
set_option linter.all false

theorem results_row1 {P : Program} {fn : Func} {a : Tmp} {t : TypeId} (hr : fn.results = #[.cell a t]) {tmps : Array Value} {x : Addr} (ha : tmps.getD a undef = .pointer (some x)) {v : Value} {w : World} (hl : (loadVar t x).run P w = .ok v w) : (results fn tmps).run P w = .ok v w := by
  unfold results
  rw [hr]
  have ha : tmps[a]?.getD undef = .pointer (some x) := by simpa using ha
  simp [Sem.run_bind, asAddr, ha, hl]
theorem results_row2 {P : Program} {fn : Func} {a b : Tmp} {t : TypeId} (hr : fn.results = #[.cell a t, .tmp b]) {tmps : Array Value} {x : Addr} (ha : tmps.getD a undef = .pointer (some x)) {v u : Value} {w : World} (hl : (loadVar t x).run P w = .ok v w) (hb : tmps.getD b undef = u) : (results fn tmps).run P w = .ok (.tuple #[v, u]) w := by
  unfold results
  rw [hr]
  have ha : tmps[a]?.getD undef = .pointer (some x) := by simpa using ha
  have hb : tmps[b]?.getD undef = u := by simpa using hb
  simp [Sem.run_bind, asAddr, ha, hl, hb]

/-- the truths of a word, as cells -/
def bcells (a : Int) : List Value := (List.range 32).map fun i => .bool (a.toNat.testBit i)
theorem bcells_length (a : Int) : (bcells a).length = 32 := by simp [bcells]
theorem bcells_get (a : Int) {i : Nat} (h : i < 32) : (bcells a)[i]? = some (.bool (a.toNat.testBit i)) := by simp [bcells, h]
theorem bcells_one (a : Int) : ∀ v ∈ bcells a, v.oneCell' = true := by
  intro v hv
  obtain ⟨x, _, rfl⟩ := List.mem_map.1 hv
  rfl
/-- 32 truths lie in block B from cell 0 on -/
structure BA (w : World) (B : Nat) (f : Nat → Bool) : Prop where
  c : ∀ i, i < 32 → w.cell? ⟨B, i, none⟩ = some (.bool (f i))
  f : ∀ i, i < 32 → w.frozen? ⟨B, i, none⟩ = false
theorem BA.lt {w : World} {B : Nat} {f : Nat → Bool} (h : BA w B f) : B < w.heap.size := block_lt_of_cell (h.c 0 (by omega))
theorem BA.up {w w' : World} {B : Nat} {f : Nat → Bool} (h : BA w B f) (hb : Below w.heap.size w w') : BA w' B f :=
  ⟨fun i hi => (hb.cell (p := ⟨B, i, none⟩) h.lt).trans (h.c i hi), fun i hi => (hb.frozen (p := ⟨B, i, none⟩) h.lt).trans (h.f i hi)⟩
theorem BA.set {w : World} {B : Nat} {f : Nat → Bool} (h : BA w B f) {k : Nat} (hk : k < 32) (x : Bool) : BA (w.setCell ⟨B, k, none⟩ (.bool x)) B (fun j => if j = k then x else f j) := by
  refine ⟨fun i hi => ?_, fun i hi => by rw [set_frozen]; exact h.f i hi⟩
  by_cases e : i = k
  · subst e
    rw [set_same (h.c i hi), if_pos rfl]
  · rw [set_other e, if_neg e]
    exact h.c i hi
theorem BA.range {w : World} {B : Nat} {a : Int} (h : BA w B (fun i => a.toNat.testBit i)) : w.rangeAt B 0 (bcells a) := by
  intro j v hj
  have hlt := (List.getElem?_eq_some_iff.1 hj).1
  rw [bcells_length] at hlt
  rw [bcells_get a hlt] at hj
  injection hj with hj
  rw [Nat.zero_add, h.c j hlt, hj]
theorem BA.there {w : World} {B : Nat} {f : Nat → Bool} (h : BA w B f) : w.there B 0 32 := fun j hj => by
  rw [Nat.zero_add]
  exact ⟨by rw [h.c j hj]; rfl, h.f j hj⟩
theorem BA.stored {w : World} {B : Nat} {a : Int} (h : w.there B 0 32) : BA (w.setCells B 0 (bcells a)) B (fun i => a.toNat.testBit i) := by
  have hr := World.rangeAt_setCells_same w B 0 (bcells a) (by rw [bcells_length]; exact h)
  refine ⟨fun i hi => ?_, fun i hi => ?_⟩
  · have := hr i _ (bcells_get a hi)
    rwa [Nat.zero_add] at this
  · rw [World.frozen?_setCells]
    have := (h i hi).2
    rwa [Nat.zero_add] at this
theorem BA.boxed (w : World) (a : Int) (t : TypeId) : BA (w.alloc (.cells (bcells a).toArray t)) w.heap.size (fun i => a.toNat.testBit i) := by
  refine ⟨fun i hi => (World.cell?_alloc_at _ _ _ _ rfl).trans ?_, fun i hi => World.frozen?_alloc_at _ _ _ _ rfl⟩
  rw [List.getElem?_toArray]
  exact bcells_get a hi
theorem BA.new (w : World) (t : TypeId) : BA (w.alloc (.cells #[.bool false, .bool false, .bool false, .bool false, .bool false, .bool false, .bool false, .bool false, .bool false, .bool false, .bool false, .bool false, .bool false, .bool false, .bool false, .bool false, .bool false, .bool false, .bool false, .bool false, .bool false, .bool false, .bool false, .bool false, .bool false, .bool false, .bool false, .bool false, .bool false, .bool false, .bool false, .bool false] t)) w.heap.size (fun _ => false) := by
  have h := BA.boxed w 0 t
  have e : (bcells 0).toArray = #[.bool false, .bool false, .bool false, .bool false, .bool false, .bool false, .bool false, .bool false, .bool false, .bool false, .bool false, .bool false, .bool false, .bool false, .bool false, .bool false, .bool false, .bool false, .bool false, .bool false, .bool false, .bool false, .bool false, .bool false, .bool false, .bool false, .bool false, .bool false, .bool false, .bool false, .bool false, .bool false] := by kernel_rfl
  rw [e] at h
  exact ⟨fun i hi => by have := h.c i hi; simpa using this, h.f⟩

theorem BA.congr {w : World} {B : Nat} {f g : Nat → Bool} (h : BA w B f) (e : ∀ i, i < 32 → f i = g i) : BA w B g := ⟨fun i hi => by rw [← e i hi]; exact h.c i hi, h.f⟩
theorem BA.far {w : World} {B : Nat} {f : Nat → Bool} (h : BA w B f) {q : Addr} (hq : q.block ≠ B) (v : Value) : BA (w.setCell q v) B f :=
  ⟨fun i hi => (set_far hq).trans (h.c i hi), fun i hi => by rw [set_frozen]; exact h.f i hi⟩

theorem tb_half (n i : Nat) : (n / 2 ^ i) % 2 = if n.testBit i = true then 1 else 0 := by
  rw [Nat.testBit_eq_decide_div_mod_eq]
  split
  · rename_i h; simpa using h
  · rename_i h; simp at h; omega

theorem bcells_size (a : Int) : (bcells a).toArray.size = 32 := by rw [List.size_toArray, bcells_length]
theorem u32b : (Tryd.prog.info? 32).map (·.size) = some 32 := by kernel_rfl

theorem u32l (a : Int) : (Tryd.prog.info? 32).map (·.size) = some (bcells a).length := by rw [bcells_length]; exact u32b
theorem u32s (a : Int) : (Tryd.prog.info? 32).map (·.size) = some (bcells a).toArray.size := by rw [bcells_size]; exact u32b
theorem there32 {w : World} {B : Nat} (a : Int) (h : w.there B 0 32) : w.there B 0 (bcells a).toArray.size := by rw [bcells_size]; exact h

set_option maxRecDepth 100000 in
set_option maxHeartbeats 1000000 in
theorem fbits_any (a : Int) (w : World) (a0 : 0 ≤ a) (a1 : a ≤ 4294967295) :
    Calls Tryd.prog 84 #[.int .u32 a] w fun e w' => e = .returned (.agg (bcells a).toArray) ∧ Below w.heap.size w w' := by
  go_enter Tryd.func84, Tryd.ntmps84
  go_upto_region 2 with fail
  refine wp_gen (fun W => BA W w.heap.size (fun _ => false) ∧ BA W (w.heap.size + 1) (fun _ => false) ∧ Below w.heap.size w W) ⟨(BA.new w _).up (below_one _ _), ?_, below_two _ _ _⟩ ?_
  · have := BA.new (w.alloc (.cells #[.bool false, .bool false, .bool false, .bool false, .bool false, .bool false, .bool false, .bool false, .bool false, .bool false, .bool false, .bool false, .bool false, .bool false, .bool false, .bool false, .bool false, .bool false, .bool false, .bool false, .bool false, .bool false, .bool false, .bool false, .bool false, .bool false, .bool false, .bool false, .bool false, .bool false, .bool false, .bool false] 32)) 32
    rwa [show (w.alloc (.cells #[.bool false, .bool false, .bool false, .bool false, .bool false, .bool false, .bool false, .bool false, .bool false, .bool false, .bool false, .bool false, .bool false, .bool false, .bool false, .bool false, .bool false, .bool false, .bool false, .bool false, .bool false, .bool false, .bool false, .bool false, .bool false, .bool false, .bool false, .bool false, .bool false, .bool false, .bool false, .bool false] 32)).heap.size = w.heap.size + 1 by simp] at this
  rintro W ⟨h0, h1, hb⟩
  go_wp2
  go_loopw [0, 4] (fun x i wr => ∃ (k : Nat) (y : Int), k ≤ 32 ∧ x = .int .u32 y ∧ i = .int .i64 k ∧ 0 ≤ y ∧ y ≤ 4294967295 ∧ y.toNat = a.toNat / 2 ^ k ∧ BA wr w.heap.size (fun _ => false) ∧ BA wr (w.heap.size + 1) (fun j => decide (j < k) && a.toNat.testBit j) ∧ Below w.heap.size w wr) (fun _ i _ => 32 - (intOf i).toNat)
  case atStart => exact ⟨0, a, by omega, rfl, rfl, a0, a1, by simp, h0, ⟨fun i hi => by rw [h1.c i hi]; simp, h1.f⟩, hb⟩
  case round =>
    clear h0 h1 hb
    obtain ⟨k, y, hk, rfl, rfl, y0, y1, hy, h0, h1, hb⟩ := hrel
    by_cases hlt : k < 32
    · have hcell := h1.c k hlt
      have hfro := h1.f k hlt
      have kl : (k : Int) < 32 := by omega
      have hbit : (y % 2 == 1) = a.toNat.testBit k := by
        have h2 := tb_half a.toNat k
        rw [← hy] at h2
        cases hb : a.toNat.testBit k <;> rw [hb] at h2 <;> simp at h2 ⊢ <;> omega
      have hhalf : (y / 2).toNat = a.toNat / 2 ^ (k + 1) := by
        rw [Nat.pow_succ, ← Nat.div_div_eq_div_mul, ← hy]
        omega
      have Hy := Lib.hid (And.intro hbit hhalf)
      clear hbit hhalf hy
      go_wp2
      refine ⟨⟨k + 1, y / 2, by omega, rfl, by go_num, by omega, by omega, Hy.out.2, h0.far (by show w.heap.size + 1 ≠ w.heap.size; omega) _, ?_, hb.setCell (by show w.heap.size ≤ w.heap.size + 1; omega) _⟩, by simp [intOf]; omega⟩
      refine (h1.set hlt (y % 2 == 1)).congr fun i hi => ?_
      rw [Hy.out.1]
      by_cases e : i = k
      · subst e; simp
      · rw [if_neg e]
        have : decide (i < k + 1) = decide (i < k) := by rw [decide_eq_decide]; omega
        rw [this]
    · obtain rfl : k = 32 := by omega
      have h1 := h1.congr (g := fun j => a.toNat.testBit j) (fun i hi => by simp [hi])
      have hr := Lib.hid h1.range
      have ht := Lib.hid h0.there
      have hS := Lib.hid (BA.stored (a := a) h0.there)
      clear hy hlt
      go_wp2_with (first
        | (refine wpList_load_mid rfl 32 _ rfl (w.heap.size + 1) 0 rfl (bcells a) _ hr.out Tryd.underlying32 rfl (u32l a) ?_)
        | (refine wpList_store_mid rfl 32 _ _ rfl w.heap.size 0 (bcells a).toArray rfl rfl (there32 a ht.out) (u32s a) (all_oneCell_toArray (bcells_one a)) ?_))
      have hld := run_loadVar_mid (P := Tryd.prog) (wr.setCells w.heap.size 0 (bcells a)) w.heap.size 0 32 (bcells a) _ hS.out.range Tryd.underlying32 rfl (u32l a)
      exact bodyPost_ret (v := .agg (bcells a).toArray) (results_row1 Tryd.results84 rfl hld) rfl ⟨rfl, below_setCells (bcells a) 0 _ hb (Nat.le_refl _)⟩

set_option maxRecDepth 100000 in
set_option maxHeartbeats 1000000 in
theorem fword_any (a : Int) (w : World) (a0 : 0 ≤ a) (a1 : a ≤ 4294967295) :
    Calls Tryd.prog 85 #[.agg (bcells a).toArray] w fun e w' => e = .returned (.int .u32 a) ∧ Below w.heap.size w w' := by
  have hB := BA.boxed w a 32
  go_enter Tryd.func85, Tryd.ntmps85
  go_upto_region 2 with fail
  refine wp_gen (fun W => BA W w.heap.size (fun i => a.toNat.testBit i) ∧ Below w.heap.size w W) ⟨hB, below_one _ _⟩ ?_
  clear hB
  rintro W ⟨hB, hb⟩
  go_wp2
  go_loop [3, 4] (fun x i => ∃ (k : Nat) (n y : Int), k ≤ 32 ∧ n = (k : Int) - 1 ∧ x = .int .u32 y ∧ i = .int .i64 n ∧ 0 ≤ y ∧ y ≤ 4294967295 ∧ y.toNat = a.toNat / 2 ^ k) (fun _ i => (intOf i + 1).toNat)
  case atStart => exact ⟨32, 31, 0, by omega, rfl, rfl, rfl, by omega, by omega, by rw [Nat.div_eq_of_lt (by omega)]; rfl⟩
  case round =>
    obtain ⟨k, n, y, hk, hn, rfl, rfl, y0, y1, hy⟩ := hrel
    by_cases h0 : k = 0
    · subst h0
      obtain rfl : n = -1 := by omega
      obtain rfl : y = a := by simp at hy; omega
      clear hn hy
      go_wp2
      go_ret
      exact ⟨rfl, hb⟩
    · obtain ⟨m, rfl⟩ : ∃ m, k = m + 1 := ⟨k - 1, by omega⟩
      obtain rfl : n = (m : Int) := by omega
      have hcell := hB.c m (by omega)
      have m1 : (m : Int) < 32 := by omega
      have h2 := tb_half a.toNat m
      have h3 : a.toNat / 2 ^ (m + 1) = a.toNat / 2 ^ m / 2 := by rw [Nat.pow_succ, Nat.div_div_eq_div_mul]
      have h4 : a.toNat / 2 ^ m ≤ a.toNat := Nat.div_le_self _ _
      have y2 : y ≤ 2147483647 := by omega
      have Hy := Lib.hid (And.intro hy (And.intro h2 h3))
      clear hy h2 h3 h4 hn
      cases hb : a.toNat.testBit m
      · rw [hb] at hcell Hy
        go_wp2
        go_round
        case rel => exact ⟨m, (m : Int) - 1, y * 2, by omega, rfl, by go_num, by go_num, by omega, by omega, by have := Hy.out; simp at this; omega⟩
        case measure => simp [intOf]
      · rw [hb] at hcell Hy
        go_wp2
        go_round
        case rel => exact ⟨m, (m : Int) - 1, y * 2 + 1, by omega, rfl, by go_num, by go_num, by omega, by omega, by have := Hy.out; simp at this; omega⟩
        case measure => simp [intOf]

/-- what Put tells -/
def putX (a i : Int) (x : Bool) : Int := if x = true then putT a i else putF a i
theorem putX_bd (a i : Int) (x : Bool) (h0 : 0 ≤ a) (h1 : a ≤ 4294967295) : 0 ≤ putX a i x ∧ putX a i x ≤ 4294967295 := by
  unfold putX
  split
  · exact putT_bd a i h0 h1
  · exact putF_bd a i h0 h1
theorem tb_putX {a : Int} {k : Nat} (x : Bool) (h0 : 0 ≤ a) (h1 : a ≤ 4294967295) (hk : k < 32) (j : Nat) : (putX a k x).toNat.testBit j = if j = k then x else a.toNat.testBit j := by
  cases x
  · show (putF a k).toNat.testBit j = _
    rw [tb_putF h0 h1 (by omega) (by omega)]
    by_cases e : j = k
    · simp [e]
    · simp [e]
  · show (putT a k).toNat.testBit j = _
    rw [tb_putT h0 (by omega) (by omega)]
    by_cases e : j = k
    · simp [e]
    · simp [e]

set_option maxRecDepth 100000 in
set_option maxHeartbeats 1000000 in
theorem fput_any (a : Int) (k : Nat) (x : Bool) (w : World) (a0 : 0 ≤ a) (a1 : a ≤ 4294967295) (hk : k < 32) :
    Calls Tryd.prog 69 #[.int .u32 a, .int .i64 k, .bool x] w fun e w' => e = .returned (.int .u32 (putX a k x)) ∧ Below w.heap.size w w' := by
  have hbi := fun W => fbits_any a W a0 a1
  have hp := putX_bd a k x a0 a1
  have hwo := fun W => fword_any (putX a k x) W hp.1 hp.2
  have htb := Lib.hid (fun j => tb_putX (k := k) x a0 a1 hk j)
  have k1 : (k : Int) < 32 := by omega
  generalize putX a k x = a' at *
  go_enter Tryd.func69, Tryd.ntmps69
  go_upto_region 2 with (first
    | (go_at_call 84; with_reducible refine (hbi _).mono ?_; rintro e w1 ⟨rfl, hb1⟩; have ht := Lib.hid (BA.there (BA.new w1 32)))
    | (refine wpList_store_mid rfl 32 _ _ rfl w1.heap.size 0 (bcells a).toArray rfl rfl (there32 a ht.out) (u32s a) (all_oneCell_toArray (bcells_one a)) ?_))
  refine wp_gen (fun W => BA W w1.heap.size (fun i => a.toNat.testBit i) ∧ Below w.heap.size w W) ⟨BA.stored ht.out, below_setCells (bcells a) 0 _ (hb1.alloc hb1.size _) hb1.size⟩ ?_
  have hge := hb1.size
  clear hb1 ht hbi
  generalize w1.heap.size = G at *
  clear w1
  rintro W ⟨hB, hb⟩
  have hcell := hB.c k hk
  have hfro := hB.f k hk
  simp only [Act.put]
  go_upto_region 4 with fail
  have hB2 := (hB.set hk x).congr (g := fun j => a'.toNat.testBit j) (fun i hi => (htb.out i).symm)
  refine wp_gen (fun W => BA W G (fun i => a'.toNat.testBit i) ∧ Below w.heap.size w W) ⟨hB2, hb.setCell hge _⟩ ?_
  clear hB hB2 hb hcell hfro htb
  clear W
  rintro W ⟨hB, hb⟩
  have hr := Lib.hid hB.range
  go_wp2_with (first
    | (refine wpList_load_mid rfl 32 _ rfl G 0 rfl (bcells a') _ hr.out Tryd.underlying32 rfl (u32l a') ?_)
    | (go_at_call 85; with_reducible refine (hwo _).mono ?_; rintro e w2 ⟨rfl, hb2⟩))
  go_ret
  exact ⟨rfl, below_trans hb hb2⟩
end Go.Proofs.YtbbnackahgcegaaDoor
