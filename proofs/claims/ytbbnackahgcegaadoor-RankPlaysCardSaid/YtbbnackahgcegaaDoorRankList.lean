/- rank.List, Copy. -/
import Derived.Test.YtbbnackahgcegaaDoorRankOps
import Derived.Laws.AppendOwn
import Derived.ScopeJumps
namespace Go.Proofs.YtbbnackahgcegaaDoor
open Go.RowKit
set_option linter.all false

/-- the rows below c, the greatest first -/
def catQ (q : Nat → List Int) : Nat → List Int
  | 0 => []
  | c + 1 => q c ++ catQ q c
theorem catQ_skip {q : Nat → List Int} {p : Nat} : ∀ {c : Nat}, p ≤ c → (∀ j, p ≤ j → j < c → q j = []) → catQ q c = catQ q p
  | 0, h, _ => by obtain rfl : p = 0 := by omega
                  rfl
  | c + 1, h, hn => by
    by_cases e : p = c + 1
    · rw [e]
    · rw [catQ, hn c (by omega) (by omega), List.nil_append]
      exact catQ_skip (by omega) (fun j h1 h2 => hn j h1 (by omega))
theorem catQ_len {q : Nat → List Int} (h : ∀ p, p < 32 → (q p).length ≤ 16) : ∀ c, c ≤ 32 → (catQ q c).length ≤ 16 * c
  | 0, _ => by simp [catQ]
  | c + 1, hc => by
    have h1 := catQ_len h c (by omega)
    have h2 := h c (by omega)
    rw [catQ, List.length_append]
    omega

/-- one row's cells -/
structure RowC (cs : List Value) (l : List Int) : Prop where
  len : cs.length = 17
  lev : ∀ i, i < l.length → cs[i]? = some (.int .i64 (l.getD i 0))
  cnt : cs[16]? = some (.int .i64 (l.length : Int))
  one : ∀ v ∈ cs, v.oneCell' = true
theorem RK.row {w : World} {B : Nat} {q : Nat → List Int} {b n : Int} (h : RK w B q b n) (p : Nat) (hp : p < 32) : ∃ cs, RowC cs (q p) ∧ w.rangeAt B (p * 17) cs := by
  have hall : ∀ i, i < 17 → ∃ n, w.cell? ⟨B, p * 17 + i, none⟩ = some (.int .i64 n) := fun i hi => by
    by_cases h1 : i < 16
    · exact h.any p i hp h1
    · obtain rfl : i = 16 := by omega
      exact ⟨_, h.cnt p hp⟩
  have hat : ∀ i v, i < 17 → w.cell? ⟨B, p * 17 + i, none⟩ = some v → ((List.range 17).map fun i => (w.cell? ⟨B, p * 17 + i, none⟩).getD undef)[i]? = some v := by
    intro i v hi hv
    rw [List.getElem?_map, List.getElem?_range hi]
    simp [hv]
  have hlen := h.len p hp
  refine ⟨(List.range 17).map fun i => (w.cell? ⟨B, p * 17 + i, none⟩).getD undef, ⟨by simp, fun i hi => hat i _ (by omega) (h.lev p i hp hi), hat 16 _ (by omega) (h.cnt p hp), ?_⟩, ?_⟩
  · intro v hv
    obtain ⟨i, hi, rfl⟩ := List.mem_map.1 hv
    obtain ⟨n, hn⟩ := hall i (by simpa using hi)
    rw [hn]
    rfl
  · intro j v hj
    have hlt : j < 17 := by have := (List.getElem?_eq_some_iff.1 hj).1; simpa using this
    rw [List.getElem?_map, List.getElem?_range hlt] at hj
    obtain ⟨n, hn⟩ := hall j hlt
    simp [hn] at hj
    rw [hn, hj]

/-- what holds at List's label -/
def RLJ (w : World) (B : Nat) (q : Nat → List Int) (a' : Act) (w' : World) : Prop :=
  ∃ (x : Int) (v : Value) (acc : List Int) (c : Nat) (u4 u5 u6 u7 u8 u9 u10 u11 u12 u13 u14 u15 u16 u17 u18 u19 u20 u21 u22 u23 u24 u25 u26 u27 : Value), a' = { tmps := #[.pointer (some ⟨B, 0, none⟩), undef, v, .int .u32 x, u4, u5, u6, u7, u8, u9, u10, u11, u12, u13, u14, u15, u16, u17, u18, u19, u20, u21, u22, u23, u24, u25, u26, u27], defers := [] } ∧
    0 ≤ x ∧ x ≤ 4294967295 ∧ c ≤ 32 ∧ (∀ j, j < 32 → x.toNat.testBit j = (decide (q j ≠ []) && decide (j < c))) ∧ acc ++ catQ q c = catQ q 32 ∧ Iv w' w.heap.size v acc ∧ Below w.heap.size w w'
def RLM (a' : Act) (_ : World) : Nat := Lib.bitLen (intOf (a'.tmps.getD 3 undef)).toNat

theorem below_append0 {w0 w1 w2 : World} {base n : Nat} {e : TypeId} {size : Nat} {v : Value} {xs : List Value} (hb : Below base w0 w1) (hbs : base ≤ w1.heap.size) (hown : w1.ownsRow base e size v n xs) (hg : w1.grownBy w2 v.ownBlock) : Below base w0 w2 :=
  hb.grown hg hbs (fun k hk => (hown.lt k hk).1)

theorem stored_row {w w1 : World} {v : Value} {acc l : List Int} {cs : List Value} {C : Array Value} {t : TypeId} (hv : Iv w1 w.heap.size v acc) (hb : Below w.heap.size w w1) (hr : RowC cs l) (ht : (w1.alloc (.cells C t)).there w1.heap.size 0 17) (hl : l.length ≤ 16) :
    Iv ((w1.alloc (.cells C t)).setCells w1.heap.size 0 cs) w.heap.size v acc ∧ Below w.heap.size w ((w1.alloc (.cells C t)).setCells w1.heap.size 0 cs) ∧ w1.heap.size < ((w1.alloc (.cells C t)).setCells w1.heap.size 0 cs).heap.size ∧
    (∀ i, i < l.length → ((w1.alloc (.cells C t)).setCells w1.heap.size 0 cs).cell? ⟨w1.heap.size, i, none⟩ = some (.int .i64 (l.getD i 0))) ∧ ((w1.alloc (.cells C t)).setCells w1.heap.size 0 cs).cell? ⟨w1.heap.size, 16, none⟩ = some (.int .i64 (l.length : Int)) := by
  have hlen := hr.len
  have hrg := World.rangeAt_setCells_same (w1.alloc (.cells C t)) w1.heap.size 0 cs (by rw [hlen]; exact ht)
  have hg : w1.grownBy ((w1.alloc (.cells C t)).setCells w1.heap.size 0 cs) (some w1.heap.size) := only_setCells cs 0 _ (only_alloc (only_refl _ _) _)
  have hc16 := hrg 16 _ hr.cnt
  rw [Nat.zero_add] at hc16
  refine ⟨hv.kept hg ?_, below_setCells cs 0 _ (hb.alloc hb.size _) hb.size, block_lt_of_cell hc16, fun i hi => ?_, hc16⟩
  · cases hk : v.ownBlock with
    | none => exact .inl rfl
    | some k => exact .inr (fun e => by have := hv.lt k hk; injection e with e; omega)
  · have := hrg i _ (hr.lev i hi)
    rwa [Nat.zero_add] at this

set_option maxRecDepth 100000 in
set_option maxHeartbeats 1000000 in
theorem rlist_any (B : Nat) (q : Nat → List Int) (b n : Int) (w : World) (h : RK w B q b n) :
    Calls Tryd.prog 50 #[.pointer (some ⟨B, 0, none⟩)] w fun e w' => ∃ v, e = .returned v ∧ Iv w' w.heap.size v (catQ q 32) ∧ Below w.heap.size w w' := by
  obtain ⟨i0, hi, hz0, hz1, hz2⟩ := info_parts infoI
  have hbi := fun W h => rbits_any B q b n W h
  have Hlen := Lib.hid h.len
  go_enter Tryd.func50, Tryd.ntmps50
  go_upto_region 1 with fail
  refine wp_scope_one 0 (RLJ w B q) RLM rfl ?_ ?_
  · go_wp2_with (go_at_call 46; with_reducible refine (hbi _ h).mono ?_; rintro e w1 ⟨rfl, rfl⟩)
    exact ⟨b, .slice none 0 0, [], 32, _, _, _, _, _, _, _, _, _, _, _, _, _, _, _, _, _, _, _, _, _, _, _, _, rfl, h.lo, h.hi, by omega, fun j hj => by rw [h.tb j hj]; simp [hj], rfl, World.ownsRow_nil _ _ _ _, Below.refl _ _⟩
  · rintro a' w1 ⟨x, v, acc, c, u4, u5, u6, u7, u8, u9, u10, u11, u12, u13, u14, u15, u16, u17, u18, u19, u20, u21, u22, u23, u24, u25, u26, u27, rfl, x0, x1, hc, hx, hcat, hv, hb⟩
    have h1 := h.up hb
    have hhg := fun W => high_any x W x0 x1
    by_cases hz : x = 0
    · subst hz
      have hnil : ∀ j, 0 ≤ j → j < c → q j = [] := fun j _ hj => by
        have := hx j (by omega)
        simp [hj] at this
        exact this
      rw [catQ_skip (Nat.zero_le c) hnil, catQ, List.append_nil] at hcat
      have e0 : ((Lib.bitLen (0 : Int).toNat : Int) - 1) = -1 := by decide
      rw [e0] at hhg
      clear hx hnil h h1
      have Hv := Lib.hid (And.intro hcat hv)
      clear hcat hv
      go_wp2_with (go_at_call 77; with_reducible refine (hhg _).mono ?_; rintro e w2 ⟨rfl, rfl⟩)
      simp only [Exit.jump]
      go_ret
      exact ⟨v, rfl, by rw [← Hv.out.1]; exact Hv.out.2, hb⟩
    · obtain ⟨t1, t2, t3, t4⟩ := bitLen_tb (w := x.toNat) (by omega) (by omega)
      have hM : RLM { tmps := #[.pointer (some ⟨B, 0, none⟩), undef, v, .int .u32 x, u4, u5, u6, u7, u8, u9, u10, u11, u12, u13, u14, u15, u16, u17, u18, u19, u20, u21, u22, u23, u24, u25, u26, u27], defers := [] } w1 = Lib.bitLen x.toNat := rfl
      have HM := Lib.hid hM
      clear hM
      obtain ⟨p, hp⟩ : ∃ p, Lib.bitLen x.toNat = p + 1 := ⟨Lib.bitLen x.toNat - 1, by omega⟩
      rw [hp] at t1 t2 t4 hhg
      have e0 : (((p + 1 : Nat) : Int) - 1) = (p : Int) := by omega
      rw [e0] at hhg
      have hpx := hx p (by omega)
      rw [show p + 1 - 1 = p by omega] at t1
      rw [t1] at hpx
      simp at hpx
      obtain ⟨hqp, hpc⟩ := hpx
      have hskip : catQ q c = q p ++ catQ q p := catQ_skip (p := p + 1) (by omega) (fun j j1 j2 => by
        have h3 := hx j (by omega)
        rw [t2 j j1] at h3
        simp [j2] at h3
        exact h3)
      have hp32 : p < 32 := by omega
      have hwi := fun W => without_any x p W x0 x1
      have hpb := putF_bd x p x0 x1
      have hless : Lib.bitLen (putF x p).toNat < p + 1 := by
        have := hiI_less (w := x) x0 x1 (by unfold hiI; omega)
        unfold hiI at this
        rw [hp, e0] at this
        omega
      have htb : ∀ j, j < 32 → (putF x p).toNat.testBit j = (decide (q j ≠ []) && decide (j < p)) := fun j hj => by
        rw [tb_putF x0 x1 (by omega) (by omega)]
        rcases Nat.lt_trichotomy j p with e | e | e
        · rw [hx j hj]
          have : j < c := by omega
          simp [e, this, show j ≠ p by omega]
        · simp [e]
        · rw [t2 j (by omega)]
          simp [show ¬ j < p by omega]
      have hlacc : acc.length + (q p).length ≤ 512 := by
        have h4 := catQ_len Hlen.out 32 (by omega)
        rw [← hcat, hskip, List.length_append, List.length_append] at h4
        omega
      have hqlen := Hlen.out p hp32
      obtain ⟨cs, hrow, hrg⟩ := h1.row p hp32
      have hlen := hrow.len
      have hone := hrow.one
      have p1 : (p : Int) < 32 := by omega
      have p2 : decide ((0 : Int) ≤ (p : Int)) = true := decide_eq_true (by omega)
      have HF := Lib.hid (And.intro htb (And.intro hskip (And.intro hcat (And.intro hless (And.intro hpb (And.intro hp hrow))))))
      clear htb hskip hcat hless hpb hx t1 t2 t3 t4 hqp hp h
      generalize putF x p = x2 at *
      go_upto_region 4 with (go_at_call 77; with_reducible refine (hhg _).mono ?_; rintro e w2 ⟨rfl, rfl⟩)
      go_upto_region 5 with (first
        | (with_reducible show wpList _ _ _ (⟨_, Op.load 64 _, _, _, _, none⟩ :: _) _ _; refine wpList_load_mid rfl 64 _ rfl B (p * 17) rfl cs _ hrg Tryd.underlying64 rfl (by rw [hlen]; kernel_rfl) ?_)
        | (with_reducible show wpList _ _ _ (⟨none, Op.store 64 _ _, _, _, _, none⟩ :: _) _ _; refine wpList_store_mid rfl 64 _ _ rfl w1.heap.size 0 cs.toArray rfl rfl (there_new _ _ _ _ (by simp [hlen])) (by rw [List.size_toArray, hlen]; kernel_rfl) (all_oneCell_toArray hone) ?_))
      refine wp_gen (fun W => Iv W w.heap.size v acc ∧ Below w.heap.size w W ∧ w1.heap.size < W.heap.size ∧ (∀ i, i < (q p).length → W.cell? ⟨w1.heap.size, i, none⟩ = some (.int .i64 ((q p).getD i 0))) ∧ W.cell? ⟨w1.heap.size, 16, none⟩ = some (.int .i64 ((q p).length : Int))) (stored_row hv hb hrow (there_new _ _ _ 17 (by simp)) hqlen) ?_
      rintro W ⟨hvW, hbW, hsW, hcW, hnW⟩
      have HcW := Lib.hid hcW
      have hnews : ∀ j u, ((q p).map (Value.int .i64))[j]? = some u → W.cell? ((⟨w1.heap.size, 0, none⟩ : Addr).add j) = some u := fun j u hj => by
        rw [List.getElem?_map] at hj
        have hjl : j < (q p).length := by
          rcases Nat.lt_or_ge j (q p).length with h | h
          · exact h
          · rw [List.getElem?_eq_none h] at hj; cases hj
        rw [List.getElem?_eq_getElem hjl] at hj
        have := HcW.out j hjl
        rw [Addr.add_mid, Nat.zero_add, this]
        simp [hjl] at hj ⊢
        exact hj
      have Hnews := Lib.hid hnews
      have j3 : ((q p).length : Int) ≤ 16 := by omega
      have j4 : (0 : Int) ≤ ((q p).length : Int) := by omega
      have Hw := Lib.hid (And.intro hvW hbW)
      simp only [Act.put]
      clear hcW hnews hrow hrg hlen hone hv hb hvW hbW h1 hhg
      have hnl : ((q p).map (Value.int .i64)).length = (q p).length * 1 := by simp
      generalize hN : (q p).map (Value.int .i64) = news at *
      have HN := Lib.hid hN
      generalize hL : (q p).length = L at *
      have HL := Lib.hid hL
      clear hL hN hnl
      generalize w1.heap.size = G at *
      go_upto_region 6 with (at_builtin; apply stop)
      refine Stop.go ?_
      have Hh1 : ∀ u ∈ news, u.oneCell' = true := fun u hu => by
        rw [← HN.out] at hu
        obtain ⟨y, _, rfl⟩ := List.mem_map.1 hu
        rfl
      refine wpList_append_own _ rfl (.tmp 18) (.tmp 22) 22 rfl w.heap.size 3 i0 (.int .i64 0) 1 8 Tryd.underlying22 hi hz0 hz1 hz2 rfl (by decide) v acc.length (acc.map (Value.int .i64)) rfl Hw.out.1 ⟨G, 0, none⟩ L 16 news rfl (by rw [← HN.out, List.length_map, HL.out]; omega) Hnews.out Hh1 (by unfold maxLen; omega) (by omega) Hw.out.2.size ?_
      intro v3 w3 hown3 hgr3 _
      have hb3 := below_append0 Hw.out.2 Hw.out.2.size Hw.out.1 hgr3
      clear hi hgr3
      have HO := Lib.hid hown3
      clear hown3
      go_wp2_with (go_at_call 68; with_reducible refine (hwi _).mono ?_; rintro e w4 ⟨rfl, rfl⟩)
      go_step3
      refine ⟨rfl, ⟨x2, v3, acc ++ q p, p, _, _, _, _, _, _, _, _, _, _, _, _, _, _, _, _, _, _, _, _, _, _, _, _, rfl, HF.out.2.2.2.2.1.1, HF.out.2.2.2.2.1.2, by omega, HF.out.1, ?_, ?_, hb3⟩, ?_⟩
      · rw [List.append_assoc, ← HF.out.2.1]
        exact HF.out.2.2.1
      · have hO := HO.out
        rw [← HN.out, ← List.map_append, ← HL.out, ← List.length_append] at hO
        exact hO
      · rw [HM.out, HF.out.2.2.2.2.2.1]
        exact HF.out.2.2.2.1
/-- all cells of a rank -/
theorem RK.all {w : World} {B : Nat} {q : Nat → List Int} {b n : Int} (h : RK w B q b n) : ∃ cs : List Value, cs.length = 546 ∧ w.rangeAt B 0 cs ∧ (∀ v ∈ cs, v.oneCell' = true) ∧ (∀ i, i < 546 → cs[i]? = w.cell? ⟨B, i, none⟩) := by
  have hall : ∀ i, i < 546 → ∃ v, w.cell? ⟨B, i, none⟩ = some v ∧ v.oneCell' = true := fun i hi => by
    by_cases h1 : i < 544
    · by_cases h2 : i % 17 < 16
      · obtain ⟨x, hx⟩ := h.any (i / 17) (i % 17) (by omega) h2
        rw [show i / 17 * 17 + i % 17 = i by omega] at hx
        exact ⟨_, hx, rfl⟩
      · have hx := h.cnt (i / 17) (by omega)
        rw [show i / 17 * 17 + 16 = i by omega] at hx
        exact ⟨_, hx, rfl⟩
    · by_cases h2 : i = 544
      · subst h2; exact ⟨_, h.cb, rfl⟩
      · obtain rfl : i = 545 := by omega
        exact ⟨_, h.cn, rfl⟩
  have hat : ∀ i, i < 546 → ((List.range 546).map fun i => (w.cell? ⟨B, i, none⟩).getD undef)[i]? = w.cell? ⟨B, i, none⟩ := fun i hi => by
    obtain ⟨v, hv, _⟩ := hall i hi
    rw [List.getElem?_map, List.getElem?_range hi]
    simp [hv]
  refine ⟨(List.range 546).map fun i => (w.cell? ⟨B, i, none⟩).getD undef, by simp, fun j v hj => ?_, fun v hv => ?_, hat⟩
  · have hlt : j < 546 := by have := (List.getElem?_eq_some_iff.1 hj).1; simpa using this
    rw [hat j hlt] at hj
    rw [Nat.zero_add]
    exact hj
  · obtain ⟨i, hi, rfl⟩ := List.mem_map.1 hv
    obtain ⟨u, hu, h1⟩ := hall i (by simpa using hi)
    rw [hu]
    exact h1
theorem RK.moved {w W : World} {B G : Nat} {q : Nat → List Int} {b n : Int} (h : RK w B q b n) (hc : ∀ i, i < 546 → W.cell? ⟨G, i, none⟩ = w.cell? ⟨B, i, none⟩) (hf : ∀ i, i < 546 → W.frozen? ⟨G, i, none⟩ = false) : RK W G q b n :=
  ⟨fun p i hp hi => by have := h.len p hp; rw [hc _ (by omega)]; exact h.lev p i hp hi, fun p i hp hi => (h.any p i hp hi).elim fun x hx => ⟨x, by rw [hc _ (by omega)]; exact hx⟩, fun p hp => by rw [hc _ (by omega)]; exact h.cnt p hp, by rw [hc _ (by omega)]; exact h.cb, by rw [hc _ (by omega)]; exact h.cn, hf, h.len, h.lo, h.hi, h.tb⟩

set_option maxRecDepth 100000 in
set_option maxHeartbeats 1000000 in
theorem rcopy_any (B : Nat) (q : Nat → List Int) (b n : Int) (w : World) (h : RK w B q b n) :
    Calls Tryd.prog 52 #[.pointer (some ⟨B, 0, none⟩)] w fun e w' => e = .returned (.pointer (some ⟨w.heap.size, 0, none⟩)) ∧ RK w' w.heap.size q b n ∧ Below w.heap.size w w' := by
  obtain ⟨cs, hlen, hrg, hone, hat⟩ := h.all
  have hzs : (Tryd.zeroCells67).size = 546 := by kernel_rfl
  go_enter Tryd.func52, Tryd.ntmps52
  go_upto_region 3 with fail
  go_upto_region 4 with (first
    | (with_reducible show wpList _ _ _ (⟨_, Op.load 67 _, _, _, _, none⟩ :: _) _ _; refine wpList_load_mid rfl 67 _ rfl B 0 rfl cs _ hrg Tryd.underlying67 rfl (by rw [hlen]; kernel_rfl) ?_)
    | (with_reducible show wpList _ _ _ (⟨none, Op.store 67 _ _, _, _, _, none⟩ :: _) _ _; refine wpList_store_mid rfl 67 _ _ rfl w.heap.size 0 cs.toArray rfl rfl (there_new _ _ _ _ (by rw [hzs, List.size_toArray, hlen]; exact Nat.le_refl _)) (by rw [List.size_toArray, hlen]; kernel_rfl) (all_oneCell_toArray hone) ?_))
  go_wp2
  go_ret
  refine ⟨rfl, h.moved (fun i hi => ?_) (fun i hi => (World.frozen?_setCells ..).trans ?_), below_setCells cs 0 _ (below_one _ _) (Nat.le_refl _)⟩
  rotate_left
  · have hft := (there_new w Tryd.zeroCells67 67 546 (by rw [hzs]; exact Nat.le_refl _) i hi).2
    rw [Nat.zero_add] at hft
    exact hft
  have hs := World.rangeAt_setCells_same (w.alloc (.cells Tryd.zeroCells67 67)) w.heap.size 0 cs (there_new w Tryd.zeroCells67 67 _ (by rw [hzs, hlen]; exact Nat.le_refl _)) i (cs[i]'(by omega)) (List.getElem?_eq_getElem (by omega))
  rw [Nat.zero_add] at hs
  refine hs.trans ?_
  rw [← List.getElem?_eq_getElem (by omega)]
  exact hat i hi
end Go.Proofs.YtbbnackahgcegaaDoor
