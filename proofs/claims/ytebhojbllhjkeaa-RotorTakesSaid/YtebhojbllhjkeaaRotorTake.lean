/- rotor.Take and the document's Take: the choices of n turns. -/
import Derived.Test.YtebhojbllhjkeaaRotorSkip
import Derived.Test.YtebhojbllhjkeaaSame
import Derived.Laws.AppendOwn
namespace Go.Proofs.Ytebhojbllhjkeaa
open Go.RowKit
set_option linter.all false
attribute [local go_sem] run_store_cx

/-- the slice value 'v' reads as the integers 's'; its cells lie in new memory from block 'base' on -/
abbrev Iv (w : World) (base : Nat) (v : Value) (s : List Int) : Prop := w.ownsRow base 3 1 v s.length (s.map (Value.int .i64))
theorem infoI : (Try.prog.info? 3).map (fun i => (i.zero, i.size, i.bytes)) = some (some (.int .i64 0), 1, 8) := by kernel_rfl
theorem Iv.shape {w : World} {base : Nat} {v : Value} {s : List Int} (h : Iv w base v s) : ∃ a c, v = .slice a s.length c := by
  rcases h.2 with ⟨rfl, hn⟩ | ⟨g, cap, cur, rfl, hb, hg, hn, hc, hs, ht⟩
  · exact ⟨none, 0, by rw [hn]⟩
  · exact ⟨_, cap, rfl⟩
theorem Iv.reads {w : World} {base c : Nat} {a : Option Addr} {s : List Int} (h : Iv w base (.slice a s.length c) s) (hs : s.length ≤ 1000000) : Reads w a s := by
  rcases h.2 with ⟨he, hn⟩ | ⟨g, cap, cur, he, hb, hg, hn, hc, hs, ht⟩
  · exact ⟨by omega, fun hp => by omega⟩
  · injection he with h1 h2 h3
    subst h1 h3
    refine ⟨by omega, fun hp => ⟨g, 0, rfl, fun i hi => ?_⟩⟩
    have := h.cells (g := g) rfl i (.int .i64 (s.getD i 0)) (by simp [hi])
    rwa [Addr.add_mid] at this
theorem Iv.below {w w' : World} {base : Nat} {v : Value} {s : List Int} (h : Iv w base v s) (hb : Below w.heap.size w w') : Iv w' base v s :=
  h.kept (only_of_below hb none) (by cases hv : v.ownBlock <;> simp)
theorem only_set7 (w : World) (B : Nat) (z a c : Pt) (p : Int) : w.grownBy (set7 w B z a c p) (some B) :=
  only_set (only_set (only_set (only_set (only_set (only_set (only_set (only_refl w (some B)) _) _) _) _) _) _) _
theorem Iv.set7 {w : World} {base B : Nat} {v : Value} {s : List Int} {z a c : Pt} {p : Int} (h : Iv w base v s) (hB : B < base) : Iv (set7 w B z a c p) base v s :=
  h.kept (only_set7 w B z a c p) (.inr fun e => by have := (h.lt B e).1; omega)
theorem Iv.drew {w : World} {base : Nat} {v : Value} {s : List Int} (h : Iv w base v s) : Iv w.drew base v s := h.below (Below.refl _ _).drew

/-- a choice -/
def chI (p lv cm : Int) (y : Pt) : Int := if (y.1 * p + y.2) % (cm + lv) < lv then (y.1 * p + y.2) % (cm + lv) + 1 else 0
/-- the choices of k turns -/
def takeL (X : Nat → Pt) (p lv cm : Int) : Nat → List Int
  | 0 => []
  | k + 1 => takeL X p lv cm k ++ [chI p lv cm (X (k + 1))]
theorem takeL_length (X : Nat → Pt) (p lv cm : Int) : ∀ k, (takeL X p lv cm k).length = k
  | 0 => rfl
  | k + 1 => by simp [takeL, takeL_length X p lv cm k]

theorem Iv.snoc {w : World} {base m : Nat} {v : Value} {s : List Int} {x : Int} (h : w.ownsRow base 3 1 v m (s.map (Value.int .i64) ++ [.int .i64 x])) (hm : m = s.length + 1) : Iv w base v (s ++ [x]) := by
  subst hm
  exact ⟨by simp, by have := h.2; simpa using this⟩

/-- Take's own memory -/
structure TK (w W : World) (D : Nat) (z a c : Pt) (p : Int) (v : Value) (s : List Int) : Prop where
  m : XM w W z a c p
  t : TU W D a c
  hD : w.heap.size + 1 < D
  v : Iv W (D + 1) v s
theorem TK.below {w W W' : World} {D : Nat} {z a c : Pt} {p : Int} {v : Value} {s : List Int} (h : TK w W D z a c p v s) (hb : Below W.heap.size W W') : TK w W' D z a c p v s := ⟨h.m.below hb, h.t.up hb, h.hD, h.v.below hb⟩
theorem TK.setz {w W : World} {D : Nat} {z a c z' : Pt} {p : Int} {v : Value} {s : List Int} (h : TK w W D z a c p v s) : TK w (Go.Proofs.Ytebhojbllhjkeaa.set7 W w.heap.size z' a c p) D z' a c p v s :=
  ⟨h.m.set7, h.t.far7 (by have := h.hD; omega), h.hD, h.v.set7 (by have := h.hD; omega)⟩

theorem TK.snoc {w W w3 : World} {D m : Nat} {z a c : Pt} {p : Int} {v v3 : Value} {s s' : List Int} {o : Obj} {x : Int} (h : TK w W D z a c p v s) (hown : w3.ownsRow (D + 1) 3 1 v3 m (s.map (Value.int .i64) ++ [.int .i64 x])) (hg : (W.alloc o).grownBy w3 v.ownBlock) (hs : s' = s ++ [x]) (hm : m = s.length + 1 := by rfl) : TK w w3 D z a c p v3 s' := by
  have hlt : ∀ k, v.ownBlock = some k → D + 1 ≤ k := fun k hk => (h.v.lt k hk).1
  have hc : ∀ b i, b < D + 1 → b < W.heap.size → w3.cell? ⟨b, i, none⟩ = W.cell? ⟨b, i, none⟩ := fun b i hb hb2 =>
    (World.cell?_of_block (hg.block b (by simp; omega) (fun e => by have := hlt b e.symm; omega))).trans ((below_one W o).cell (p := ⟨b, i, none⟩) hb2)
  have hf : ∀ b i, b < D + 1 → b < W.heap.size → w3.frozen? ⟨b, i, none⟩ = W.frozen? ⟨b, i, none⟩ := fun b i hb hb2 =>
    (World.frozen?_of_block (hg.block b (by simp; omega) (fun e => by have := hlt b e.symm; omega))).trans ((below_one W o).frozen (p := ⟨b, i, none⟩) hb2)
  have l1 := h.m.b.lt
  have l2 := h.m.r.lt
  have l3 := h.t.lt
  have hD := h.hD
  refine ⟨⟨h.m.b.same (fun i => hc _ i (by omega) l1) (fun i => hf _ i (by omega) l1), h.m.r.same (fun i => hc _ i (by omega) l2) (fun i => hf _ i (by omega) l2), ?_⟩, h.t.same (fun i => hc _ i (by omega) l3) (fun i => hf _ i (by omega) l3), h.hD, ?_⟩
  · exact below_append' h.m.bel h.m.bel.size (owns_base h.v (by omega)) hg
  · subst hs
    exact Iv.snoc hown hm

set_option maxRecDepth 10000 in
set_option maxHeartbeats 4000000 in
theorem rtake_yes (z a c : Pt) (p lv cm : Int) (n : Nat) (w : World) (h : rrB z a c p = true) (hn : (n : Int) ≤ 65536) (hl : 0 ≤ lv ∧ lv ≤ 31) (hc : 1 ≤ cm ∧ cm ≤ 1000) :
    Calls Try.prog 52 #[rotV z a c p, .int .i64 n, .int .i64 lv, .int .i64 cm] w fun e w' => ∃ pa cap, e = .returned (.tuple #[.slice pa n cap, rotV (it (ap a c p) n z) a c p, .bool true]) ∧ Reads w' pa (takeL (fun k => it (ap a c p) k z) p lv cm n) ∧ Below w.heap.size w w' := by
  obtain ⟨hp, hz, ha, hcc⟩ := of_rrB h
  have hri := fun W => rright_any z a c p W
  rw [h] at hri
  have htu := fun W => rturn_any z a c p W
  have hin := fun k => inP.it hp.1 a c hz k
  have hdo := fun k W => rdone_any a c (it (ap a c p) k z) a c p W hp ha hcc (hin k)
  simp only [← it_succ] at hdo
  have wn := fun W => rwithin_any n 0 65536 W
  have wl := fun W => rwithin_any lv 0 31 W
  have wc := fun W => rwithin_any cm 1 1000 W
  rw [wrB_yes (by omega)] at wn wl wc
  have hlen := takeL_length (fun k => it (ap a c p) k z) p lv cm
  have hsn : ∀ k, takeL (fun k => it (ap a c p) k z) p lv cm (k + 1) = takeL (fun k => it (ap a c p) k z) p lv cm k ++ [chI p lv cm (it (ap a c p) (k + 1) z)] := fun k => rfl
  have h0s : takeL (fun k => it (ap a c p) k z) p lv cm 0 = [] := rfl
  have hz0 : it (ap a c p) 0 z = z := rfl
  have St0 := Lib.hid (XM.new w z a c p 75 75)
  clear h
  generalize hL : takeL (fun k => it (ap a c p) k z) p lv cm = L at *
  clear hL
  generalize hX : (fun n => it (ap a c p) n z) = X at *
  have Hx : ∀ n, it (ap a c p) n z = X n := fun n => by rw [← hX]
  simp only [Hx] at hdo hz0 hin hsn ⊢
  clear hX Hx
  obtain ⟨i0, hi, hi0, hi1, hi2⟩ := info_parts infoI
  have Hin := Lib.hid hin
  have Hsn := Lib.hid hsn
  have Hlen := Lib.hid hlen
  clear hin hsn hlen
  go_enter Try.func52, Try.ntmps52
  go_wp2_with (first
    | (go_at_call 62; with_reducible refine (hri _).mono ?_; rintro e w1 ⟨rfl, hb1⟩; have st1 := St0.out.below hb1; obtain ⟨x0, x1, x2, x3, x4, x5, x6⟩ := st1.all)
    | (go_at_call 80; with_reducible refine (wn _).mono ?_; rintro e w' ⟨rfl, rfl⟩)
    | (go_at_call 80; with_reducible refine (wl _).mono ?_; rintro e w' ⟨rfl, rfl⟩)
    | (go_at_call 80; with_reducible refine (wc _).mono ?_; rintro e w' ⟨rfl, rfl⟩)
    | (go_at_call 81; with_reducible refine (htu _).mono ?_; rintro e w2 ⟨rfl, hb2⟩; have st2 := st1.below hb2; clear x0 x1 x2 x3 x4 x5 x6 st1 hb1 hb2))
  refine wp_gen (fun W => TK w W w2.heap.size z a c p (.slice none 0 0) (L 0)) ⟨st2.below (below_one _ _), TU.new _ _ _ _, st2.r.lt, by rw [h0s]; exact World.ownsRow_nil _ _ _ _⟩ ?_
  clear st2 St0 hri htu wn wl wc h0s
  intro W hT0
  generalize w2.heap.size = D at *
  clear w2
  go_loopw [8, 35] (fun v i wr => ∃ k : Nat, k ≤ n ∧ i = .int .i64 k ∧ TK w wr D (X k) a c p v (L k)) (fun _ i _ => n - (intOf i).toNat)
  case atStart => exact ⟨0, Nat.zero_le _, rfl, by rw [hz0]; exact hT0⟩
  case round =>
    clear hT0
    obtain ⟨k, hk, rfl, hT⟩ := hrel
    obtain ⟨x0, x1, x2, x3, x4, x5, x6, f0, f1, f2, f3, f4, f5, f6⟩ := hT.m.b
    by_cases hlt : k < n
    · have t0 := hT.t.x0
      have t1 := hT.t.x1
      go_upto_region 7 with (go_at_call 82; with_reducible refine (hdo k _).mono ?_; rintro e w3 ⟨rfl, hb3⟩; have hT2 := hT.below hb3; clear t0 t1 x0 x1 x2 x3 x4 x5 x6 f0 f1 f2 f3 f4 f5 f6; obtain ⟨x0, x1, x2, x3, x4, x5, x6, f0, f1, f2, f3, f4, f5, f6⟩ := hT2.m.b)
      refine wp_gen (fun W => TK w W D (X (k + 1)) a c p u8 (L k)) (hT2.setz (z' := X (k + 1))) ?_
      clear hT hT2 hb3 x0 x1 x2 x3 x4 x5 x6 f0 f1 f2 f3 f4 f5 f6
      intro W hT
      clear w3
      obtain ⟨y0, y1, y2, y3⟩ := Hin.out (k + 1)
      have hs := Hsn.out k
      have hle := Hlen.out k
      obtain ⟨x0, x1, x2, x3, x4, x5, x6⟩ := hT.m.all
      generalize hy : X (k + 1) = y at *
      have Hy := Lib.hid hy
      clear hy
      have hm0 : 0 ≤ y.1 * p ∧ y.1 * p ≤ 999000 := ⟨Int.mul_nonneg y0 (by omega), by have := Int.mul_le_mul (a := y.1) (b := p) (c := 999) (d := 1000) (by omega) hp.2 (by omega) (by omega); omega⟩
      have hq0 : 0 ≤ (y.1 * p + y.2) % (cm + lv) := Int.emod_nonneg _ (by omega)
      have hq1 : (y.1 * p + y.2) % (cm + lv) < cm + lv := Int.emod_lt_of_pos _ (by omega)
      have hcv : ¬ cm + lv = 0 := by omega
      have Hs := Lib.hid hs
      have Hle := Lib.hid hle
      have hbase : D + 1 ≤ W.heap.size := hT.t.lt
      clear hs hle
      by_cases hge : lv ≤ (y.1 * p + y.2) % (cm + lv)
      · have Hch := Lib.hid (show chI p lv cm y = 0 by unfold chI; rw [if_neg (by omega)])
        go_wp2_with (at_builtin; apply stop)
        refine Stop.go ?_
        refine wpList_append_own _ rfl (.tmp 57) (.tmp 60) 29 rfl (D + 1) 3 i0 (.int .i64 0) 1 8 Try.underlying29 hi hi0 hi1 hi2 rfl (by decide) _ (L k).length ((L k).map (Value.int .i64)) rfl (hT.v.alloc _) ⟨W.heap.size, 0, none⟩ 1 1 [.int .i64 (0)] rfl (by simp) (cell_one_new _ _ _) (by simp [Value.oneCell']) (by have := Hle.out; unfold maxLen; omega) (by have := Hle.out; omega) (by simp; omega) ?_
        intro v3 w3 hown3 hgr3 _
        have hT3 := hT.snoc hown3 hgr3 (s' := L (k + 1)) (x := 0) (by rw [Hs.out, Hch.out])
        clear hgr3 hown3 x0 x1 x2 x3 x4 x5 x6 hT
        go_wp2
        go_roundw
        case rel => exact ⟨k + 1, by omega, by go_num, by rw [Hy.out]; exact hT3⟩
        case measure => simp [intOf]; omega
      · have Hch := Lib.hid (show chI p lv cm y = (y.1 * p + y.2) % (cm + lv) + 1 by unfold chI; rw [if_pos (by omega)])
        go_wp2_with (at_builtin; apply stop)
        refine Stop.go ?_
        refine wpList_append_own _ rfl (.tmp 57) (.tmp 60) 29 rfl (D + 1) 3 i0 (.int .i64 0) 1 8 Try.underlying29 hi hi0 hi1 hi2 rfl (by decide) _ (L k).length ((L k).map (Value.int .i64)) rfl (hT.v.alloc _) ⟨W.heap.size, 0, none⟩ 1 1 [.int .i64 ((y.1 * p + y.2) % (cm + lv) + 1)] rfl (by simp) (cell_one_new _ _ _) (by simp [Value.oneCell']) (by have := Hle.out; unfold maxLen; omega) (by have := Hle.out; omega) (by simp; omega) ?_
        intro v3 w3 hown3 hgr3 _
        have hT3 := hT.snoc hown3 hgr3 (s' := L (k + 1)) (x := (y.1 * p + y.2) % (cm + lv) + 1) (by rw [Hs.out, Hch.out])
        clear hgr3 hown3 x0 x1 x2 x3 x4 x5 x6 hT
        go_wp2
        go_roundw
        case rel => exact ⟨k + 1, by omega, by go_num, by rw [Hy.out]; exact hT3⟩
        case measure => simp [intOf]; omega
    · obtain rfl : k = n := by omega
      obtain ⟨pa, cap, rfl⟩ := hT.v.shape
      have hle := Hlen.out k
      rw [hle] at hT
      obtain ⟨y0, y1, y2, y3, y4, y5, y6, g0, g1, g2, g3, g4, g5, g6⟩ := hT.m.r
      clear hk hlt hdo Hin Hsn hi hi0 hi1 hi2
      rw [hle]
      clear hle
      have hv := Lib.hid (hT.v.set7 (z := X k) (a := a) (c := c) (p := p) (B := w.heap.size + 1) (by have := hT.hD; omega)).drew
      have hbel := Lib.hid (below_set7 (z := X k) (a := a) (c := c) (p := p) (B := w.heap.size + 1) hT.m.bel (by omega)).drew
      have hle := Lib.hid (Hlen.out k)
      clear hT
      go_wp2
      go_region
      all_goals
        go_wp2
        exact bodyPost_ret (v := .tuple #[.slice pa k cap, rotV (X k) a c p, .bool true]) (by simp [results, Try.results52, go_sem, y0, y1, y2, y3, y4, y5, y6]) rfl ⟨pa, cap, rfl, Iv.reads (base := D + 1) (c := cap) (by rw [hle.out]; exact hv.out) (by rw [hle.out]; omega), hbel.out⟩

theorem XM.zero (w : World) (z a c : Pt) (p : Int) (t t' : TypeId) : XM w ((w.alloc (.cells #[.int .i64 z.1, .int .i64 z.2, .int .i64 a.1, .int .i64 a.2, .int .i64 c.1, .int .i64 c.2, .int .i64 p] t)).alloc (.cells #[.int .i64 0, .int .i64 0, .int .i64 0, .int .i64 0, .int .i64 0, .int .i64 0, .int .i64 0] t')) z a c p := XM.new w z a c p t t'

set_option maxRecDepth 10000 in
set_option maxHeartbeats 1000000 in
theorem rtake_no_r (z a c : Pt) (p n lv cm : Int) (w : World) (hr : rrB z a c p = false) :
    Calls Try.prog 52 #[rotV z a c p, .int .i64 n, .int .i64 lv, .int .i64 cm] w fun e w' => e = .returned (.tuple #[.slice none 0 0, rotN, .bool false]) ∧ Below w.heap.size w w' := by
  have hri := fun W => rright_any z a c p W
  rw [hr] at hri
  have St0 := Lib.hid (XM.new w z a c p 75 75)
  go_enter Try.func52, Try.ntmps52
  go_wp2_with (first
    | (go_at_call 62; with_reducible refine (hri _).mono ?_; rintro e w1 ⟨rfl, hb1⟩; have st1 := St0.out.below hb1; obtain ⟨y0, y1, y2, y3, y4, y5, y6, g0, g1, g2, g3, g4, g5, g6⟩ := st1.r))
  exact bodyPost_ret (v := .tuple #[.slice none 0 0, rotN, .bool false]) (by simp [results, Try.results52, go_sem, y0, y1, y2, y3, y4, y5, y6]) rfl ⟨rfl, below_set7 (z := (0, 0)) (a := (0, 0)) (c := (0, 0)) (p := 0) st1.bel (by omega)⟩

set_option maxRecDepth 10000 in
set_option maxHeartbeats 1000000 in
theorem rtake_no_n (z a c : Pt) (p n lv cm : Int) (w : World) (hr : rrB z a c p = true) (h1 : wrB n 0 65536 = false) :
    Calls Try.prog 52 #[rotV z a c p, .int .i64 n, .int .i64 lv, .int .i64 cm] w fun e w' => e = .returned (.tuple #[.slice none 0 0, rotN, .bool false]) ∧ Below w.heap.size w w' := by
  have hri := fun W => rright_any z a c p W
  rw [hr] at hri
  have wn := fun W => rwithin_any n 0 65536 W
  rw [h1] at wn
  have St0 := Lib.hid (XM.new w z a c p 75 75)
  go_enter Try.func52, Try.ntmps52
  go_wp2_with (first
    | (go_at_call 62; with_reducible refine (hri _).mono ?_; rintro e w1 ⟨rfl, hb1⟩; have st1 := St0.out.below hb1; obtain ⟨y0, y1, y2, y3, y4, y5, y6, g0, g1, g2, g3, g4, g5, g6⟩ := st1.r)
    | (go_at_call 80; with_reducible refine (wn _).mono ?_; rintro e w' ⟨rfl, rfl⟩))
  exact bodyPost_ret (v := .tuple #[.slice none 0 0, rotN, .bool false]) (by simp [results, Try.results52, go_sem, y0, y1, y2, y3, y4, y5, y6]) rfl ⟨rfl, below_set7 (z := (0, 0)) (a := (0, 0)) (c := (0, 0)) (p := 0) st1.bel (by omega)⟩

set_option maxRecDepth 10000 in
set_option maxHeartbeats 1000000 in
theorem rtake_no_l (z a c : Pt) (p n lv cm : Int) (w : World) (hr : rrB z a c p = true) (h1 : wrB n 0 65536 = true) (h2 : wrB lv 0 31 = false) :
    Calls Try.prog 52 #[rotV z a c p, .int .i64 n, .int .i64 lv, .int .i64 cm] w fun e w' => e = .returned (.tuple #[.slice none 0 0, rotN, .bool false]) ∧ Below w.heap.size w w' := by
  have hri := fun W => rright_any z a c p W
  rw [hr] at hri
  have wn := fun W => rwithin_any n 0 65536 W
  rw [h1] at wn
  have wl := fun W => rwithin_any lv 0 31 W
  rw [h2] at wl
  have St0 := Lib.hid (XM.new w z a c p 75 75)
  go_enter Try.func52, Try.ntmps52
  go_wp2_with (first
    | (go_at_call 62; with_reducible refine (hri _).mono ?_; rintro e w1 ⟨rfl, hb1⟩; have st1 := St0.out.below hb1; obtain ⟨y0, y1, y2, y3, y4, y5, y6, g0, g1, g2, g3, g4, g5, g6⟩ := st1.r)
    | (go_at_call 80; with_reducible refine (wn _).mono ?_; rintro e w' ⟨rfl, rfl⟩)
    | (go_at_call 80; with_reducible refine (wl _).mono ?_; rintro e w' ⟨rfl, rfl⟩))
  exact bodyPost_ret (v := .tuple #[.slice none 0 0, rotN, .bool false]) (by simp [results, Try.results52, go_sem, y0, y1, y2, y3, y4, y5, y6]) rfl ⟨rfl, below_set7 (z := (0, 0)) (a := (0, 0)) (c := (0, 0)) (p := 0) st1.bel (by omega)⟩

set_option maxRecDepth 10000 in
set_option maxHeartbeats 1000000 in
theorem rtake_no_c (z a c : Pt) (p n lv cm : Int) (w : World) (hr : rrB z a c p = true) (h1 : wrB n 0 65536 = true) (h2 : wrB lv 0 31 = true) (h3 : wrB cm 1 1000 = false) :
    Calls Try.prog 52 #[rotV z a c p, .int .i64 n, .int .i64 lv, .int .i64 cm] w fun e w' => e = .returned (.tuple #[.slice none 0 0, rotN, .bool false]) ∧ Below w.heap.size w w' := by
  have hri := fun W => rright_any z a c p W
  rw [hr] at hri
  have wn := fun W => rwithin_any n 0 65536 W
  rw [h1] at wn
  have wl := fun W => rwithin_any lv 0 31 W
  rw [h2] at wl
  have wc := fun W => rwithin_any cm 1 1000 W
  rw [h3] at wc
  have St0 := Lib.hid (XM.new w z a c p 75 75)
  go_enter Try.func52, Try.ntmps52
  go_wp2_with (first
    | (go_at_call 62; with_reducible refine (hri _).mono ?_; rintro e w1 ⟨rfl, hb1⟩; have st1 := St0.out.below hb1; obtain ⟨y0, y1, y2, y3, y4, y5, y6, g0, g1, g2, g3, g4, g5, g6⟩ := st1.r)
    | (go_at_call 80; with_reducible refine (wn _).mono ?_; rintro e w' ⟨rfl, rfl⟩)
    | (go_at_call 80; with_reducible refine (wl _).mono ?_; rintro e w' ⟨rfl, rfl⟩)
    | (go_at_call 80; with_reducible refine (wc _).mono ?_; rintro e w' ⟨rfl, rfl⟩))
  exact bodyPost_ret (v := .tuple #[.slice none 0 0, rotN, .bool false]) (by simp [results, Try.results52, go_sem, y0, y1, y2, y3, y4, y5, y6]) rfl ⟨rfl, below_set7 (z := (0, 0)) (a := (0, 0)) (c := (0, 0)) (p := 0) st1.bel (by omega)⟩

/-- the document's Take's own memory -/
structure FK (w W : World) (z a c : Pt) (p : Int) (v : Value) (s : List Int) : Prop where
  m : XM w W z a c p
  v : Iv W (w.heap.size + 2) v s
theorem FK.below {w W W' : World} {z a c : Pt} {p : Int} {v : Value} {s : List Int} (h : FK w W z a c p v s) (hb : Below W.heap.size W W') : FK w W' z a c p v s := ⟨h.m.below hb, h.v.below hb⟩
theorem FK.setz {w W : World} {z a c z' : Pt} {p : Int} {v : Value} {s : List Int} (h : FK w W z a c p v s) : FK w (Go.Proofs.Ytebhojbllhjkeaa.set7 W w.heap.size z' a c p) z' a c p v s := ⟨h.m.set7, h.v.set7 (by omega)⟩
theorem FK.snoc {w W w3 : World} {m : Nat} {z a c : Pt} {p : Int} {v v3 : Value} {s s' : List Int} {o : Obj} {x : Int} (h : FK w W z a c p v s) (hown : w3.ownsRow (w.heap.size + 2) 3 1 v3 m (s.map (Value.int .i64) ++ [.int .i64 x])) (hg : (W.alloc o).grownBy w3 v.ownBlock) (hs : s' = s ++ [x]) (hm : m = s.length + 1 := by rfl) : FK w w3 z a c p v3 s' := by
  have hlt : ∀ k, v.ownBlock = some k → w.heap.size + 2 ≤ k := fun k hk => (h.v.lt k hk).1
  have hc : ∀ b i, b < w.heap.size + 2 → b < W.heap.size → w3.cell? ⟨b, i, none⟩ = W.cell? ⟨b, i, none⟩ := fun b i hb hb2 =>
    (World.cell?_of_block (hg.block b (by simp; omega) (fun e => by have := hlt b e.symm; omega))).trans ((below_one W o).cell (p := ⟨b, i, none⟩) hb2)
  have hf : ∀ b i, b < w.heap.size + 2 → b < W.heap.size → w3.frozen? ⟨b, i, none⟩ = W.frozen? ⟨b, i, none⟩ := fun b i hb hb2 =>
    (World.frozen?_of_block (hg.block b (by simp; omega) (fun e => by have := hlt b e.symm; omega))).trans ((below_one W o).frozen (p := ⟨b, i, none⟩) hb2)
  have l1 := h.m.b.lt
  have l2 := h.m.r.lt
  refine ⟨⟨h.m.b.same (fun i => hc _ i (by omega) l1) (fun i => hf _ i (by omega) l1), h.m.r.same (fun i => hc _ i (by omega) l2) (fun i => hf _ i (by omega) l2), ?_⟩, ?_⟩
  · exact below_append' h.m.bel h.m.bel.size (owns_base h.v (by omega)) hg
  · subst hs
    exact Iv.snoc hown hm

set_option maxRecDepth 10000 in
set_option maxHeartbeats 4000000 in
theorem ftake_yes (z a c : Pt) (p lv cm : Int) (n : Nat) (w : World) (h : rrB z a c p = true) (hn : (n : Int) ≤ 65536) (hl : 0 ≤ lv ∧ lv ≤ 31) (hc : 1 ≤ cm ∧ cm ≤ 1000) :
    Calls Try.prog 54 #[rotV z a c p, .int .i64 n, .int .i64 lv, .int .i64 cm] w fun e w' => ∃ pa cap, e = .returned (.tuple #[.slice pa n cap, rotV (it (ap a c p) n z) a c p, .bool true]) ∧ Reads w' pa (takeL (fun k => it (ap a c p) k z) p lv cm n) ∧ Below w.heap.size w w' := by
  obtain ⟨hp, hz, ha, hcc⟩ := of_rrB h
  have hri := fun W => fright_any z a c p W
  rw [h] at hri
  have hin := fun k => inP.it hp.1 a c hz k
  have hnx := fun k W => fnext_yes (it (ap a c p) k z) a c p W (rrB_it h k)
  simp only [← it_succ] at hnx
  have d1 : decide ((n : Int) < 0) = false := decide_eq_false (by omega)
  have d2 : decide ((65536 : Int) < n) = false := decide_eq_false (by omega)
  have d3 : decide (lv < 0) = false := decide_eq_false (by omega)
  have d4 : decide ((31 : Int) < lv) = false := decide_eq_false (by omega)
  have d5 : decide (cm < 1) = false := decide_eq_false (by omega)
  have d6 : decide ((1000 : Int) < cm) = false := decide_eq_false (by omega)
  have hlen := takeL_length (fun k => it (ap a c p) k z) p lv cm
  have hsn : ∀ k, takeL (fun k => it (ap a c p) k z) p lv cm (k + 1) = takeL (fun k => it (ap a c p) k z) p lv cm k ++ [chI p lv cm (it (ap a c p) (k + 1) z)] := fun k => rfl
  have h0s : takeL (fun k => it (ap a c p) k z) p lv cm 0 = [] := rfl
  have hz0 : it (ap a c p) 0 z = z := rfl
  have St0 := Lib.hid (XM.new w z a c p 73 73)
  clear h
  generalize hL : takeL (fun k => it (ap a c p) k z) p lv cm = L at *
  clear hL
  generalize hX : (fun n => it (ap a c p) n z) = X at *
  have Hx : ∀ n, it (ap a c p) n z = X n := fun n => by rw [← hX]
  simp only [Hx] at hnx hz0 hin hsn ⊢
  clear hX Hx
  obtain ⟨i0, hi, hi0, hi1, hi2⟩ := info_parts infoI
  have Hin := Lib.hid hin
  have Hsn := Lib.hid hsn
  have Hlen := Lib.hid hlen
  clear hin hsn hlen
  go_enter Try.func54, Try.ntmps54
  go_wp2_with (go_at_call 63; with_reducible refine (hri _).mono ?_; rintro e w2 ⟨rfl, hb1⟩; have st2 := St0.out.below hb1)
  refine wp_gen (fun W => FK w W z a c p (.slice none 0 0) (L 0)) ⟨st2, by rw [h0s]; exact World.ownsRow_nil _ _ _ _⟩ ?_
  clear st2 St0 hri h0s d1 d2 d3 d4 d5 d6 hb1
  intro W hT0
  clear w2
  go_loopw [11, 12] (fun v i wr => ∃ k : Nat, k ≤ n ∧ i = .int .i64 k ∧ FK w wr (X k) a c p v (L k)) (fun _ i _ => n - (intOf i).toNat)
  case atStart => exact ⟨0, Nat.zero_le _, rfl, by rw [hz0]; exact hT0⟩
  case round =>
    clear hT0
    obtain ⟨k, hk, rfl, hT⟩ := hrel
    obtain ⟨x0, x1, x2, x3, x4, x5, x6, f0, f1, f2, f3, f4, f5, f6⟩ := hT.m.b
    by_cases hlt : k < n
    · go_upto_region 8 with (go_at_call 59; with_reducible refine (hnx k _).mono ?_; rintro e w3 ⟨rfl, hb3⟩; have hT2 := hT.below hb3; clear x0 x1 x2 x3 x4 x5 x6 f0 f1 f2 f3 f4 f5 f6; obtain ⟨x0, x1, x2, x3, x4, x5, x6, f0, f1, f2, f3, f4, f5, f6⟩ := hT2.m.b)
      refine wp_gen (fun W => FK w W (X (k + 1)) a c p u11 (L k)) (hT2.setz (z' := X (k + 1))) ?_
      clear hT hT2 hb3 x0 x1 x2 x3 x4 x5 x6 f0 f1 f2 f3 f4 f5 f6
      intro W hT
      clear w3
      obtain ⟨y0, y1, y2, y3⟩ := Hin.out (k + 1)
      have hs := Hsn.out k
      have hle := Hlen.out k
      obtain ⟨x0, x1, x2, x3, x4, x5, x6⟩ := hT.m.all
      generalize hy : X (k + 1) = y at *
      have Hy := Lib.hid hy
      clear hy
      have hm0 : 0 ≤ y.1 * p ∧ y.1 * p ≤ 999000 := ⟨Int.mul_nonneg y0 (by omega), by have := Int.mul_le_mul (a := y.1) (b := p) (c := 999) (d := 1000) (by omega) hp.2 (by omega) (by omega); omega⟩
      have hq0 : 0 ≤ (y.1 * p + y.2) % (cm + lv) := Int.emod_nonneg _ (by omega)
      have hq1 : (y.1 * p + y.2) % (cm + lv) < cm + lv := Int.emod_lt_of_pos _ (by omega)
      have hcv : ¬ cm + lv = 0 := by omega
      have Hs := Lib.hid hs
      have Hle := Lib.hid hle
      have hbase : w.heap.size + 2 ≤ W.heap.size := hT.m.r.lt
      clear hs hle
      by_cases hge : (y.1 * p + y.2) % (cm + lv) < lv
      · have Hch := Lib.hid (show chI p lv cm y = (y.1 * p + y.2) % (cm + lv) + 1 by unfold chI; rw [if_pos (by omega)])
        go_wp2_with (at_builtin; apply stop)
        refine Stop.go ?_
        refine wpList_append_own _ rfl (.tmp 69) (.tmp 72) 29 rfl (w.heap.size + 2) 3 i0 (.int .i64 0) 1 8 Try.underlying29 hi hi0 hi1 hi2 rfl (by decide) _ (L k).length ((L k).map (Value.int .i64)) rfl (hT.v.alloc _) ⟨W.heap.size, 0, none⟩ 1 1 [.int .i64 ((y.1 * p + y.2) % (cm + lv) + 1)] rfl (by simp) (cell_one_new _ _ _) (by simp [Value.oneCell']) (by have := Hle.out; unfold maxLen; omega) (by have := Hle.out; omega) (by simp; omega) ?_
        intro v3 w3 hown3 hgr3 _
        have hT3 := hT.snoc hown3 hgr3 (s' := L (k + 1)) (x := (y.1 * p + y.2) % (cm + lv) + 1) (by rw [Hs.out, Hch.out])
        clear hgr3 hown3 x0 x1 x2 x3 x4 x5 x6 hT
        go_wp2
        go_roundw
        case rel => exact ⟨k + 1, by omega, by go_num, by rw [Hy.out]; exact hT3⟩
        case measure => simp [intOf]; omega
      · have Hch := Lib.hid (show chI p lv cm y = 0 by unfold chI; rw [if_neg (by omega)])
        go_wp2_with (at_builtin; apply stop)
        refine Stop.go ?_
        refine wpList_append_own _ rfl (.tmp 74) (.tmp 75) 29 rfl (w.heap.size + 2) 3 i0 (.int .i64 0) 1 8 Try.underlying29 hi hi0 hi1 hi2 rfl (by decide) _ (L k).length ((L k).map (Value.int .i64)) rfl (hT.v.alloc _) ⟨W.heap.size, 0, none⟩ 1 1 [.int .i64 (0)] rfl (by simp) (cell_one_new _ _ _) (by simp [Value.oneCell']) (by have := Hle.out; unfold maxLen; omega) (by have := Hle.out; omega) (by simp; omega) ?_
        intro v3 w3 hown3 hgr3 _
        have hT3 := hT.snoc hown3 hgr3 (s' := L (k + 1)) (x := 0) (by rw [Hs.out, Hch.out])
        clear hgr3 hown3 x0 x1 x2 x3 x4 x5 x6 hT
        go_wp2
        go_roundw
        case rel => exact ⟨k + 1, by omega, by go_num, by rw [Hy.out]; exact hT3⟩
        case measure => simp [intOf]; omega
    · obtain rfl : k = n := by omega
      obtain ⟨pa, cap, rfl⟩ := hT.v.shape
      have hle := Hlen.out k
      rw [hle] at hT
      obtain ⟨y0, y1, y2, y3, y4, y5, y6, g0, g1, g2, g3, g4, g5, g6⟩ := hT.m.r
      clear hk hlt hnx Hin Hsn hi hi0 hi1 hi2
      rw [hle]
      clear hle
      have hv := Lib.hid (hT.v.set7 (z := X k) (a := a) (c := c) (p := p) (B := w.heap.size + 1) (by omega)).drew
      have hbel := Lib.hid (below_set7 (z := X k) (a := a) (c := c) (p := p) (B := w.heap.size + 1) hT.m.bel (by omega)).drew
      have hle := Lib.hid (Hlen.out k)
      clear hT
      go_wp2
      go_region
      all_goals
        go_wp2
        exact bodyPost_ret (v := .tuple #[.slice pa k cap, rotV (X k) a c p, .bool true]) (by simp [results, Try.results54, go_sem, y0, y1, y2, y3, y4, y5, y6]) rfl ⟨pa, cap, rfl, Iv.reads (base := w.heap.size + 2) (c := cap) (by rw [hle.out]; exact hv.out) (by rw [hle.out]; omega), hbel.out⟩

set_option maxRecDepth 10000 in
set_option maxHeartbeats 1000000 in
theorem ftake_no_r (z a c : Pt) (p n lv cm : Int) (w : World) (hr : rrB z a c p = false) :
    Calls Try.prog 54 #[rotV z a c p, .int .i64 n, .int .i64 lv, .int .i64 cm] w fun e w' => e = .returned (.tuple #[.slice none 0 0, rotN, .bool false]) ∧ Below w.heap.size w w' := by
  have hri := fun W => fright_any z a c p W
  rw [hr] at hri
  have St0 := Lib.hid (XM.new w z a c p 73 73)
  go_enter Try.func54, Try.ntmps54
  go_wp2_with (go_at_call 63; with_reducible refine (hri _).mono ?_; rintro e w1 ⟨rfl, hb1⟩; have st1 := St0.out.below hb1; obtain ⟨y0, y1, y2, y3, y4, y5, y6, g0, g1, g2, g3, g4, g5, g6⟩ := st1.r)
  exact bodyPost_ret (v := .tuple #[.slice none 0 0, rotN, .bool false]) (by simp [results, Try.results54, go_sem, y0, y1, y2, y3, y4, y5, y6]) rfl ⟨rfl, below_set7 (z := (0, 0)) (a := (0, 0)) (c := (0, 0)) (p := 0) st1.bel (by omega)⟩

set_option maxRecDepth 10000 in
set_option maxHeartbeats 1000000 in
theorem ftake_no_a (z a c : Pt) (p n lv cm : Int) (w : World) (hr : rrB z a c p = true) (d0 : decide (n < 0) = true) :
    Calls Try.prog 54 #[rotV z a c p, .int .i64 n, .int .i64 lv, .int .i64 cm] w fun e w' => e = .returned (.tuple #[.slice none 0 0, rotN, .bool false]) ∧ Below w.heap.size w w' := by
  have hri := fun W => fright_any z a c p W
  rw [hr] at hri
  have St0 := Lib.hid (XM.new w z a c p 73 73)
  go_enter Try.func54, Try.ntmps54
  go_wp2_with (go_at_call 63; with_reducible refine (hri _).mono ?_; rintro e w1 ⟨rfl, hb1⟩; have st1 := St0.out.below hb1; obtain ⟨y0, y1, y2, y3, y4, y5, y6, g0, g1, g2, g3, g4, g5, g6⟩ := st1.r)
  exact bodyPost_ret (v := .tuple #[.slice none 0 0, rotN, .bool false]) (by simp [results, Try.results54, go_sem, y0, y1, y2, y3, y4, y5, y6]) rfl ⟨rfl, below_set7 (z := (0, 0)) (a := (0, 0)) (c := (0, 0)) (p := 0) st1.bel (by omega)⟩

set_option maxRecDepth 10000 in
set_option maxHeartbeats 1000000 in
theorem ftake_no_b (z a c : Pt) (p n lv cm : Int) (w : World) (hr : rrB z a c p = true) (d0 : decide (n < 0) = false) (d1 : decide ((65536 : Int) < n) = true) :
    Calls Try.prog 54 #[rotV z a c p, .int .i64 n, .int .i64 lv, .int .i64 cm] w fun e w' => e = .returned (.tuple #[.slice none 0 0, rotN, .bool false]) ∧ Below w.heap.size w w' := by
  have hri := fun W => fright_any z a c p W
  rw [hr] at hri
  have St0 := Lib.hid (XM.new w z a c p 73 73)
  go_enter Try.func54, Try.ntmps54
  go_wp2_with (go_at_call 63; with_reducible refine (hri _).mono ?_; rintro e w1 ⟨rfl, hb1⟩; have st1 := St0.out.below hb1; obtain ⟨y0, y1, y2, y3, y4, y5, y6, g0, g1, g2, g3, g4, g5, g6⟩ := st1.r)
  exact bodyPost_ret (v := .tuple #[.slice none 0 0, rotN, .bool false]) (by simp [results, Try.results54, go_sem, y0, y1, y2, y3, y4, y5, y6]) rfl ⟨rfl, below_set7 (z := (0, 0)) (a := (0, 0)) (c := (0, 0)) (p := 0) st1.bel (by omega)⟩

set_option maxRecDepth 10000 in
set_option maxHeartbeats 1000000 in
theorem ftake_no_c (z a c : Pt) (p n lv cm : Int) (w : World) (hr : rrB z a c p = true) (d0 : decide (n < 0) = false) (d1 : decide ((65536 : Int) < n) = false) (d2 : decide (lv < 0) = true) :
    Calls Try.prog 54 #[rotV z a c p, .int .i64 n, .int .i64 lv, .int .i64 cm] w fun e w' => e = .returned (.tuple #[.slice none 0 0, rotN, .bool false]) ∧ Below w.heap.size w w' := by
  have hri := fun W => fright_any z a c p W
  rw [hr] at hri
  have St0 := Lib.hid (XM.new w z a c p 73 73)
  go_enter Try.func54, Try.ntmps54
  go_wp2_with (go_at_call 63; with_reducible refine (hri _).mono ?_; rintro e w1 ⟨rfl, hb1⟩; have st1 := St0.out.below hb1; obtain ⟨y0, y1, y2, y3, y4, y5, y6, g0, g1, g2, g3, g4, g5, g6⟩ := st1.r)
  exact bodyPost_ret (v := .tuple #[.slice none 0 0, rotN, .bool false]) (by simp [results, Try.results54, go_sem, y0, y1, y2, y3, y4, y5, y6]) rfl ⟨rfl, below_set7 (z := (0, 0)) (a := (0, 0)) (c := (0, 0)) (p := 0) st1.bel (by omega)⟩

set_option maxRecDepth 10000 in
set_option maxHeartbeats 1000000 in
theorem ftake_no_d (z a c : Pt) (p n lv cm : Int) (w : World) (hr : rrB z a c p = true) (d0 : decide (n < 0) = false) (d1 : decide ((65536 : Int) < n) = false) (d2 : decide (lv < 0) = false) (d3 : decide ((31 : Int) < lv) = true) :
    Calls Try.prog 54 #[rotV z a c p, .int .i64 n, .int .i64 lv, .int .i64 cm] w fun e w' => e = .returned (.tuple #[.slice none 0 0, rotN, .bool false]) ∧ Below w.heap.size w w' := by
  have hri := fun W => fright_any z a c p W
  rw [hr] at hri
  have St0 := Lib.hid (XM.new w z a c p 73 73)
  go_enter Try.func54, Try.ntmps54
  go_wp2_with (go_at_call 63; with_reducible refine (hri _).mono ?_; rintro e w1 ⟨rfl, hb1⟩; have st1 := St0.out.below hb1; obtain ⟨y0, y1, y2, y3, y4, y5, y6, g0, g1, g2, g3, g4, g5, g6⟩ := st1.r)
  exact bodyPost_ret (v := .tuple #[.slice none 0 0, rotN, .bool false]) (by simp [results, Try.results54, go_sem, y0, y1, y2, y3, y4, y5, y6]) rfl ⟨rfl, below_set7 (z := (0, 0)) (a := (0, 0)) (c := (0, 0)) (p := 0) st1.bel (by omega)⟩

set_option maxRecDepth 10000 in
set_option maxHeartbeats 1000000 in
theorem ftake_no_e (z a c : Pt) (p n lv cm : Int) (w : World) (hr : rrB z a c p = true) (d0 : decide (n < 0) = false) (d1 : decide ((65536 : Int) < n) = false) (d2 : decide (lv < 0) = false) (d3 : decide ((31 : Int) < lv) = false) (d4 : decide (cm < 1) = true) :
    Calls Try.prog 54 #[rotV z a c p, .int .i64 n, .int .i64 lv, .int .i64 cm] w fun e w' => e = .returned (.tuple #[.slice none 0 0, rotN, .bool false]) ∧ Below w.heap.size w w' := by
  have hri := fun W => fright_any z a c p W
  rw [hr] at hri
  have St0 := Lib.hid (XM.new w z a c p 73 73)
  go_enter Try.func54, Try.ntmps54
  go_wp2_with (go_at_call 63; with_reducible refine (hri _).mono ?_; rintro e w1 ⟨rfl, hb1⟩; have st1 := St0.out.below hb1; obtain ⟨y0, y1, y2, y3, y4, y5, y6, g0, g1, g2, g3, g4, g5, g6⟩ := st1.r)
  exact bodyPost_ret (v := .tuple #[.slice none 0 0, rotN, .bool false]) (by simp [results, Try.results54, go_sem, y0, y1, y2, y3, y4, y5, y6]) rfl ⟨rfl, below_set7 (z := (0, 0)) (a := (0, 0)) (c := (0, 0)) (p := 0) st1.bel (by omega)⟩

set_option maxRecDepth 10000 in
set_option maxHeartbeats 1000000 in
theorem ftake_no_f (z a c : Pt) (p n lv cm : Int) (w : World) (hr : rrB z a c p = true) (d0 : decide (n < 0) = false) (d1 : decide ((65536 : Int) < n) = false) (d2 : decide (lv < 0) = false) (d3 : decide ((31 : Int) < lv) = false) (d4 : decide (cm < 1) = false) (d5 : decide ((1000 : Int) < cm) = true) :
    Calls Try.prog 54 #[rotV z a c p, .int .i64 n, .int .i64 lv, .int .i64 cm] w fun e w' => e = .returned (.tuple #[.slice none 0 0, rotN, .bool false]) ∧ Below w.heap.size w w' := by
  have hri := fun W => fright_any z a c p W
  rw [hr] at hri
  have St0 := Lib.hid (XM.new w z a c p 73 73)
  go_enter Try.func54, Try.ntmps54
  go_wp2_with (go_at_call 63; with_reducible refine (hri _).mono ?_; rintro e w1 ⟨rfl, hb1⟩; have st1 := St0.out.below hb1; obtain ⟨y0, y1, y2, y3, y4, y5, y6, g0, g1, g2, g3, g4, g5, g6⟩ := st1.r)
  exact bodyPost_ret (v := .tuple #[.slice none 0 0, rotN, .bool false]) (by simp [results, Try.results54, go_sem, y0, y1, y2, y3, y4, y5, y6]) rfl ⟨rfl, below_set7 (z := (0, 0)) (a := (0, 0)) (c := (0, 0)) (p := 0) st1.bel (by omega)⟩
end Go.Proofs.Ytebhojbllhjkeaa
