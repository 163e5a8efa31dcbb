/- GaussReckons: for any numbers, gauss' sums, products, turns, conjugates and norms are the document's. -/
import Derived.Test.YtebhojbllhjkeaaGaussSame
import Derived.Test.YtebhojbllhjkeaaGaussAlive
import Derived.Test.YtebhojbllhjkeaaGaussTurn
import Derived.Test.YtebhojbllhjkeaaGaussRefTurn
import Derived.ProofKit
import Derived.OpenShut
import Derived.Deep.DeepCutAuto
import Derived.ChangeOld
import Derived.Laws.AppendOwn
namespace Go.Proofs.Ytebhojbllhjkeaa.gaussReckons
open Go.ChangeShapes Go.WideShapes Go.ChangeAt Go.RowKit
set_option linter.all false

/-- a box of two -/
structure Bx (W : World) (g : Nat) (u v : Int) : Prop where
  x : W.cell? ⟨g, 0, none⟩ = some (.int .i64 u)
  y : W.cell? ⟨g, 1, none⟩ = some (.int .i64 v)
theorem Bx.lt {W : World} {g : Nat} {u v : Int} (h : Bx W g u v) : g < W.heap.size := block_lt_of_cell h.x
theorem Bx.below {W W' : World} {g B : Nat} {u v : Int} (h : Bx W g u v) (hb : Below B W W') (hg : g < B) : Bx W' g u v :=
  ⟨(hb.cell (p := ⟨g, 0, none⟩) hg).trans h.x, (hb.cell (p := ⟨g, 1, none⟩) hg).trans h.y⟩
theorem Bx.up {W W' : World} {g : Nat} {u v : Int} (h : Bx W g u v) (hb : Below W.heap.size W W') : Bx W' g u v := h.below hb h.lt
theorem Bx.new (W : World) (u v : Int) (t : TypeId) : Bx (W.alloc (.cells #[.int .i64 u, .int .i64 v] t)) W.heap.size u v :=
  ⟨World.cell?_alloc_at _ _ _ _ rfl, World.cell?_alloc_at _ _ _ _ rfl⟩

/-- the law's arguments and their copies -/
structure GM (w W : World) (a b c d : Int) (p q B : Nat) : Prop where
  b0 : Bx W w.heap.size a b
  b1 : Bx W (w.heap.size + 1) c d
  b2 : Bx W p a b
  b3 : Bx W q c d
  l0 : w.heap.size + 1 < B
  l1 : p < B
  l2 : q < B
  lB : B ≤ W.heap.size
  bel : Below w.heap.size w W
theorem GM.below {w W W' : World} {a b c d : Int} {p q B : Nat} (h : GM w W a b c d p q B) (hb : Below B W W') : GM w W' a b c d p q B :=
  ⟨h.b0.below hb (by have := h.l0; omega), h.b1.below hb h.l0, h.b2.below hb h.l1, h.b3.below hb h.l2, h.l0, h.l1, h.l2, Nat.le_trans h.lB hb.size, h.bel.trans (hb.mono (by have := h.l0; omega))⟩
theorem GM.up {w W W' : World} {a b c d : Int} {p q B : Nat} (h : GM w W a b c d p q B) (hb : Below W.heap.size W W') : GM w W' a b c d p q B := h.below (hb.mono h.lB)

theorem GM.new1 (w : World) (a b c d : Int) (t s : TypeId) : GM w ((((w.alloc (.cells #[.int .i64 a, .int .i64 b] t)).alloc (.cells #[.int .i64 c, .int .i64 d] t)).alloc (.cells #[.int .i64 a, .int .i64 b] s)).alloc (.cells #[.int .i64 c, .int .i64 d] s)).drew a b c d (w.heap.size + 1 + 1) (w.heap.size + 1 + 1 + 1) (w.heap.size + 1 + 1 + 1 + 1) := by
  constructor
  case bel => exact (below_four _ _ _ _ _).drew
  case b0 => constructor <;> (simp [go_sem]; done)
  case b1 => constructor <;> (simp [go_sem]; done)
  case b2 => constructor <;> (simp [go_sem]; done)
  case b3 => constructor <;> (simp [go_sem]; done)
  all_goals first | omega | (simp; done)
theorem GM.new2 (w : World) (a b c d : Int) (t s : TypeId) : GM w ((((w.alloc (.cells #[.int .i64 a, .int .i64 b] t)).alloc (.cells #[.int .i64 c, .int .i64 d] t)).alloc (.cells #[.int .i64 c, .int .i64 d] s)).alloc (.cells #[.int .i64 a, .int .i64 b] s)).drew a b c d (w.heap.size + 1 + 1 + 1) (w.heap.size + 1 + 1) (w.heap.size + 1 + 1 + 1 + 1) := by
  constructor
  case bel => exact (below_four _ _ _ _ _).drew
  case b0 => constructor <;> (simp [go_sem]; done)
  case b1 => constructor <;> (simp [go_sem]; done)
  case b2 => constructor <;> (simp [go_sem]; done)
  case b3 => constructor <;> (simp [go_sem]; done)
  all_goals first | omega | (simp; done)

/-- the cells of a row of numbers -/
def flat : List (Int × Int) → List Value
  | [] => []
  | (a, b) :: t => .int .i64 a :: .int .i64 b :: flat t
theorem flat_append (s t : List (Int × Int)) : flat (s ++ t) = flat s ++ flat t := by
  induction s with
  | nil => rfl
  | cons z s ih => obtain ⟨a, b⟩ := z; simp [flat, ih]
theorem flat_length (s : List (Int × Int)) : (flat s).length = s.length * 2 := by
  induction s with
  | nil => rfl
  | cons z s ih => obtain ⟨a, b⟩ := z; simp [flat, ih]; omega
theorem flat_get : ∀ (s : List (Int × Int)) (i : Nat), i < s.length → (flat s)[i * 2]? = some (.int .i64 (s.getD i (0, 0)).1) ∧ (flat s)[i * 2 + 1]? = some (.int .i64 (s.getD i (0, 0)).2)
  | [], i, h => by simp at h
  | (a, b) :: s, 0, _ => by simp [flat]
  | (a, b) :: s, i + 1, h => by
    have := flat_get s i (by simpa using h)
    rw [show (i + 1) * 2 = i * 2 + 2 by omega]
    simpa [flat] using this
theorem reads_own {W : World} {base n : Nat} {e : TypeId} {v : Value} {zs : List (Int × Int)} (h : W.ownsRow base e 2 v n (flat zs)) (hn : zs.length ≤ 1000000) : ∃ p c, v = .slice p zs.length c ∧ ReadsN W p zs := by
  have hl := h.1
  rw [flat_length] at hl
  obtain rfl : n = zs.length := by omega
  rcases h.2 with ⟨rfl, h0⟩ | ⟨g, cap, cur, rfl, hb, hg, hn', hc, hs, ht⟩
  · exact ⟨none, 0, by rw [h0], hn, fun h1 => by omega⟩
  · refine ⟨_, _, rfl, hn, fun _ => ⟨g, 0, rfl, (Array.getElem?_eq_some_iff.1 hg).1, fun i hi => ?_⟩⟩
    obtain ⟨h1, h2⟩ := flat_get zs i hi
    have hat : ∀ j u, (flat zs)[j]? = some u → W.cell? ⟨g, 0 + j, none⟩ = some u := by
      intro j u hj
      have hlt := (List.getElem?_eq_some_iff.1 hj).1
      rw [flat_length] at hlt
      rw [← ht, List.getElem?_take, if_pos hlt] at hj
      simp [World.cell?, hg]
      simpa using hj
    exact ⟨hat _ _ h1, by have := hat _ _ h2; simpa [Nat.add_assoc] using this⟩

theorem cell_two_new (W : World) (u v : Value) (t : TypeId) (j : Nat) (x : Value) (hj : [u, v][j]? = some x) : (W.alloc (.cells #[u, v] t)).cell? ((⟨W.heap.size, 0, none⟩ : Addr).add j) = some x := by
  rw [Addr.add_mid, Nat.zero_add, World.cell?_alloc_at _ _ _ _ rfl]
  simpa using hj

theorem readsN_below {W W' : World} {p : Option Addr} {zs : List (Int × Int)} (h : ReadsN W p zs) (hb : Below W.heap.size W W') : ReadsN W' p zs :=
  ⟨h.1, fun h0 => by
    obtain ⟨b, off, hp, hl, hc⟩ := h.2 h0
    exact ⟨b, off, hp, Nat.lt_of_lt_of_le hl hb.size, fun i hi => ⟨(hb.cell (p := ⟨b, _, none⟩) hl).trans (hc i hi).1, (hb.cell (p := ⟨b, _, none⟩) hl).trans (hc i hi).2⟩⟩⟩
/-- what stands in memory behind the loop: the arguments, the copies, and the answers so far -/
structure RM (w W : World) (a b c d : Int) (p1 q1 B : Nat) (p p2 : Option Addr) (zs : List (Int × Int)) (G : List (Nat × Int × Int)) : Prop where
  m : GM w W a b c d p1 q1 B
  ra : ReadsN W p zs
  ro : ReadsN W p2 zs
  g : ∀ x ∈ G, Bx W x.1 x.2.1 x.2.2
theorem RM.up {w W W' : World} {a b c d : Int} {p1 q1 B : Nat} {p p2 : Option Addr} {zs : List (Int × Int)} {G : List (Nat × Int × Int)} (h : RM w W a b c d p1 q1 B p p2 zs G) (hb : Below W.heap.size W W') : RM w W' a b c d p1 q1 B p p2 zs G :=
  ⟨h.m.up hb, readsN_below h.ra hb, readsN_below h.ro hb, fun x hx => (h.g x hx).up hb⟩
theorem RM.drew {w W : World} {a b c d : Int} {p1 q1 B : Nat} {p p2 : Option Addr} {zs : List (Int × Int)} {G : List (Nat × Int × Int)} (h : RM w W a b c d p1 q1 B p p2 zs G) : RM w W.drew a b c d p1 q1 B p p2 zs G := h.up (Below.refl _ _).drew
theorem RM.push {w W w1 : World} {a b c d u v : Int} {p1 q1 B : Nat} {p p2 : Option Addr} {zs : List (Int × Int)} {G : List (Nat × Int × Int)} (h : RM w W a b c d p1 q1 B p p2 zs G) (hb : Below W.heap.size W w1) (t : TypeId) :
    RM w (w1.alloc (.cells #[.int .i64 u, .int .i64 v] t)) a b c d p1 q1 B p p2 zs ((w1.heap.size, u, v) :: G) := by
  have h1 := (h.up hb).up (below_one w1 (.cells #[.int .i64 u, .int .i64 v] t))
  refine ⟨h1.m, h1.ra, h1.ro, fun x hx => ?_⟩
  rcases List.mem_cons.1 hx with rfl | hx
  · exact Bx.new _ _ _ _
  · exact h1.g x hx

theorem infoNum : (Try.prog.info? 50).map (fun i => (i.zero, i.size, i.bytes)) = some (some (.agg #[.int .i64 0, .int .i64 0]), 2, 16) := by kernel_rfl

set_option maxRecDepth 100000 in
set_option maxHeartbeats 4000000 in
theorem walk (a b c d k : Int) (p : Option Addr) (cap : Nat) (zs : List (Int × Int)) (w : World) (hm : zs.length ≤ 40) (hp : ReadsN w p zs) :
    Calls Try.prog 6 #[numV a b, numV c d, .int .i64 k, .slice p zs.length cap] w fun e w' => e = .returned (.bool true) ∧ Below w.heap.size w w' := by
  have hgt : decide ((40 : Int) < (zs.length : Int)) = false := decide_eq_false (by omega)
  have Hp := Lib.hid hp
  clear hp
  have hb2 := below_two w (.cells #[.int .i64 a, .int .i64 b] 48) (.cells #[.int .i64 c, .int .i64 d] 48)
  go_enter Try.func6, Try.ntmps6
  go_upto_region 3 with fail
  go_cut [9, 10] (fun x y wx => ∃ p q B, x = .pointer (some ⟨p, 0, none⟩) ∧ y = .pointer (some ⟨q, 0, none⟩) ∧ GM w wx a b c d p q B)
  case first =>
    go_region
    · go_wp2
      go_meet
      case rel => exact ⟨_, _, _, rfl, rfl, GM.new1 w a b c d _ _⟩
    · go_wp2
      go_meet
      case rel => exact ⟨_, _, _, rfl, rfl, GM.new2 w a b c d _ _⟩
  case rest =>
    obtain ⟨p1, q1, B, rfl, rfl, hM⟩ := hcut
    clear hb2
    obtain ⟨i0, hi, hz0, hz1, hz2⟩ := info_parts infoNum
    go_wp2
    go_loopw [11, 12] (fun v i wr => ∃ (n : Nat), n ≤ zs.length ∧ i = .int .i64 n ∧ GM w wr a b c d p1 q1 B ∧ wr.ownsRow B 50 2 v n (flat (zs.take n))) (fun _ i _ => zs.length - (intOf i).toNat)
    case atStart => exact ⟨0, Nat.zero_le _, rfl, hM, World.ownsRow_nil _ _ _ _⟩
    case round =>
      obtain ⟨n, hn, rfl, hM, hown⟩ := hrel
      by_cases hlt : n < zs.length
      · obtain ⟨g, off, rfl, hg, hc⟩ := Hp.out.2 (by omega)
        obtain ⟨hc0, hc1⟩ := hc n hlt
        have hd0 := (hM.bel.cell (p := ⟨g, off + n * 2, none⟩) hg).trans hc0
        have hd1 := (hM.bel.cell (p := ⟨g, off + n * 2 + 1, none⟩) hg).trans hc1
        have Hg := Lib.hid hg
        have htake : zs.take (n + 1) = zs.take n ++ [zs.getD n (0, 0)] := by rw [List.take_succ_eq_append_getElem hlt]; simp [hlt]
        have Htake := Lib.hid htake
        clear htake hc0 hc1 hc hg
        generalize hz : zs.getD n (0, 0) = z at *
        obtain ⟨x, y⟩ := z
        simp only at hd0 hd1
        clear hz
        go_wp2_with (at_builtin; apply stop)
        refine Stop.go ?_
        refine wpList_append_own _ rfl (.tmp 45) (.tmp 50) 51 rfl B 50 i0 (.agg #[.int .i64 0, .int .i64 0]) 2 16 Try.underlying51 hi hz0 hz1 hz2 rfl (by decide) _ n (flat (zs.take n)) rfl (hown.alloc _) ⟨wr.heap.size, 0, none⟩ 1 1 [.int .i64 x, .int .i64 y] rfl (by simp) (cell_two_new _ _ _ _) (by simp [Value.oneCell']) (by unfold maxLen; omega) (by omega) (by have := hM.lB; simp; omega) ?_
        intro v3 w3 hown3 hgr3 _
        have hb3 := below_append' (Below.refl _ _) hM.lB hown hgr3
        have hM3 := hM.below hb3
        clear hgr3 hd0 hd1 hown hb3
        go_wp2
        go_roundw
        case rel =>
          refine ⟨n + 1, by omega, by go_num, hM3, ?_⟩
          rw [Htake.out, flat_append]
          exact hown3
        case measure => simp [intOf]; omega
      · obtain rfl : n = zs.length := by omega
        rw [List.take_length] at hown
        obtain ⟨p2, c2, rfl, hO⟩ := reads_own hown Hp.out.1
        have hR : RM w wr a b c d p1 q1 B p p2 zs [] := ⟨hM, readsN_below Hp.out hM.bel, hO, fun x hx => by cases hx⟩
        clear hown hO hM hn hlt
        obtain ⟨r1, s1, k1, e1⟩ : ∃ r s ok, opV a b c d (a + c) (b + d) = .tuple #[numV r s, .bool ok] := ⟨_, _, _, rfl⟩
        have ga1 := fun W => add_any a b c d W
        have ra1 := fun W => refAdd_any a b c d W
        rw [e1] at ga1 ra1
        clear e1
        obtain ⟨r2, s2, k2, e2⟩ : ∃ r s ok, opV a b c d (a * c - b * d) (a * d + b * c) = .tuple #[numV r s, .bool ok] := ⟨_, _, _, rfl⟩
        have ga2 := fun W => mul_any a b c d W
        have ra2 := fun W => refMul_any a b c d W
        rw [e2] at ga2 ra2
        clear e2
        obtain ⟨r3, s3, k3, e3⟩ : ∃ r s ok, toldV (rightB a b) (rotR (quarters k) a b) (rotI (quarters k) a b) = .tuple #[numV r s, .bool ok] := ⟨_, _, _, rfl⟩
        have ga3 := fun W => turn_any a b k W
        have ra3 := fun W => refTurn_any a b k W
        rw [e3] at ga3 ra3
        clear e3
        obtain ⟨r4, s4, k4, e4⟩ : ∃ r s ok, opV a b a b a (-b) = .tuple #[numV r s, .bool ok] := ⟨_, _, _, rfl⟩
        have ga4 := fun W => conj_any a b W
        have ra4 := fun W => refConj_any a b W
        rw [e4] at ga4 ra4
        clear e4
        obtain ⟨r5, s5, k5, e5⟩ : ∃ r s ok, sumV zs = .tuple #[numV r s, .bool ok] := ⟨_, _, _, rfl⟩
        have ga5 := fun W (hW : ReadsN W p2 zs) => sum_any p2 c2 zs W hW
        have ra5 := fun W (hW : ReadsN W p zs) => refSum_any p cap zs W hW
        rw [e5] at ga5 ra5
        clear e5
        have y0 := hR.m.b2.x
        have y1 := hR.m.b2.y
        have y2 := hR.m.b3.x
        have y3 := hR.m.b3.y
        go_upto_region 10 with (go_at_call 33; with_reducible refine (ga1 _).mono ?_; rintro e w1 ⟨rfl, hb1⟩)
        refine wp_gen (fun W => RM w W a b c d p1 q1 B p p2 zs ((w1.heap.size, r1, s1) :: [])) (hR.push hb1 _) ?_
        clear y0 y1 y2 y3 hR hb1
        intro W hR
        generalize w1.heap.size = g1 at *
        clear w1
        have y0 := hR.m.b0.x
        have y1 := hR.m.b0.y
        have y2 := hR.m.b1.x
        have y3 := hR.m.b1.y
        go_upto_region 11 with (go_at_call 34; with_reducible refine (ra1 _).mono ?_; rintro e w1 ⟨rfl, hb1⟩)
        refine wp_gen (fun W => RM w W a b c d p1 q1 B p p2 zs ((w1.heap.size, r1, s1) :: (g1, r1, s1) :: [])) (hR.push hb1 _) ?_
        clear y0 y1 y2 y3 hR hb1
        intro W hR
        generalize w1.heap.size = h1 at *
        clear w1
        have y0 := hR.m.b2.x
        have y1 := hR.m.b2.y
        have y2 := hR.m.b3.x
        have y3 := hR.m.b3.y
        go_upto_region 12 with (go_at_call 35; with_reducible refine (ga2 _).mono ?_; rintro e w1 ⟨rfl, hb1⟩)
        refine wp_gen (fun W => RM w W a b c d p1 q1 B p p2 zs ((w1.heap.size, r2, s2) :: (h1, r1, s1) :: (g1, r1, s1) :: [])) (hR.push hb1 _) ?_
        clear y0 y1 y2 y3 hR hb1
        intro W hR
        generalize w1.heap.size = g2 at *
        clear w1
        have y0 := hR.m.b0.x
        have y1 := hR.m.b0.y
        have y2 := hR.m.b1.x
        have y3 := hR.m.b1.y
        go_upto_region 13 with (go_at_call 36; with_reducible refine (ra2 _).mono ?_; rintro e w1 ⟨rfl, hb1⟩)
        refine wp_gen (fun W => RM w W a b c d p1 q1 B p p2 zs ((w1.heap.size, r2, s2) :: (g2, r2, s2) :: (h1, r1, s1) :: (g1, r1, s1) :: [])) (hR.push hb1 _) ?_
        clear y0 y1 y2 y3 hR hb1
        intro W hR
        generalize w1.heap.size = h2 at *
        clear w1
        have y0 := hR.m.b2.x
        have y1 := hR.m.b2.y
        have y2 := hR.m.b3.x
        have y3 := hR.m.b3.y
        go_upto_region 14 with (go_at_call 37; with_reducible refine (ga3 _).mono ?_; rintro e w1 ⟨rfl, hb1⟩)
        refine wp_gen (fun W => RM w W a b c d p1 q1 B p p2 zs ((w1.heap.size, r3, s3) :: (h2, r2, s2) :: (g2, r2, s2) :: (h1, r1, s1) :: (g1, r1, s1) :: [])) (hR.push hb1 _) ?_
        clear y0 y1 y2 y3 hR hb1
        intro W hR
        generalize w1.heap.size = g3 at *
        clear w1
        have y0 := hR.m.b0.x
        have y1 := hR.m.b0.y
        have y2 := hR.m.b1.x
        have y3 := hR.m.b1.y
        go_upto_region 15 with (go_at_call 38; with_reducible refine (ra3 _).mono ?_; rintro e w1 ⟨rfl, hb1⟩)
        refine wp_gen (fun W => RM w W a b c d p1 q1 B p p2 zs ((w1.heap.size, r3, s3) :: (g3, r3, s3) :: (h2, r2, s2) :: (g2, r2, s2) :: (h1, r1, s1) :: (g1, r1, s1) :: [])) (hR.push hb1 _) ?_
        clear y0 y1 y2 y3 hR hb1
        intro W hR
        generalize w1.heap.size = h3 at *
        clear w1
        have y0 := hR.m.b2.x
        have y1 := hR.m.b2.y
        have y2 := hR.m.b3.x
        have y3 := hR.m.b3.y
        go_upto_region 16 with (go_at_call 39; with_reducible refine (ga4 _).mono ?_; rintro e w1 ⟨rfl, hb1⟩)
        refine wp_gen (fun W => RM w W a b c d p1 q1 B p p2 zs ((w1.heap.size, r4, s4) :: (h3, r3, s3) :: (g3, r3, s3) :: (h2, r2, s2) :: (g2, r2, s2) :: (h1, r1, s1) :: (g1, r1, s1) :: [])) (hR.push hb1 _) ?_
        clear y0 y1 y2 y3 hR hb1
        intro W hR
        generalize w1.heap.size = g4 at *
        clear w1
        have y0 := hR.m.b0.x
        have y1 := hR.m.b0.y
        have y2 := hR.m.b1.x
        have y3 := hR.m.b1.y
        go_upto_region 17 with (go_at_call 40; with_reducible refine (ra4 _).mono ?_; rintro e w1 ⟨rfl, hb1⟩)
        refine wp_gen (fun W => RM w W a b c d p1 q1 B p p2 zs ((w1.heap.size, r4, s4) :: (g4, r4, s4) :: (h3, r3, s3) :: (g3, r3, s3) :: (h2, r2, s2) :: (g2, r2, s2) :: (h1, r1, s1) :: (g1, r1, s1) :: [])) (hR.push hb1 _) ?_
        clear y0 y1 y2 y3 hR hb1
        intro W hR
        generalize w1.heap.size = h4 at *
        clear w1
        have y0 := hR.m.b2.x
        have y1 := hR.m.b2.y
        have y2 := hR.m.b3.x
        have y3 := hR.m.b3.y
        go_upto_region 18 with (go_at_call 41; with_reducible refine (ga5 _ hR.ro).mono ?_; rintro e w1 ⟨rfl, hb1⟩)
        refine wp_gen (fun W => RM w W a b c d p1 q1 B p p2 zs ((w1.heap.size, r5, s5) :: (h4, r4, s4) :: (g4, r4, s4) :: (h3, r3, s3) :: (g3, r3, s3) :: (h2, r2, s2) :: (g2, r2, s2) :: (h1, r1, s1) :: (g1, r1, s1) :: [])) (hR.push hb1 _) ?_
        clear y0 y1 y2 y3 hR hb1
        intro W hR
        generalize w1.heap.size = g5 at *
        clear w1
        have y0 := hR.m.b0.x
        have y1 := hR.m.b0.y
        have y2 := hR.m.b1.x
        have y3 := hR.m.b1.y
        go_upto_region 19 with (go_at_call 42; with_reducible refine (ra5 _ hR.ra).mono ?_; rintro e w1 ⟨rfl, hb1⟩)
        refine wp_gen (fun W => RM w W a b c d p1 q1 B p p2 zs ((w1.heap.size, r5, s5) :: (g5, r5, s5) :: (h4, r4, s4) :: (g4, r4, s4) :: (h3, r3, s3) :: (g3, r3, s3) :: (h2, r2, s2) :: (g2, r2, s2) :: (h1, r1, s1) :: (g1, r1, s1) :: [])) (hR.push hb1 _) ?_
        clear y0 y1 y2 y3 hR hb1
        intro W hR
        generalize w1.heap.size = h5 at *
        clear w1
        have hS : ∀ W, RM w W a b c d p1 q1 B p p2 zs ((h5, r5, s5) :: (g5, r5, s5) :: (h4, r4, s4) :: (g4, r4, s4) :: (h3, r3, s3) :: (g3, r3, s3) :: (h2, r2, s2) :: (g2, r2, s2) :: (h1, r1, s1) :: (g1, r1, s1) :: []) → (W.cell? ⟨g1, 0, none⟩ = some (.int .i64 r1) ∧ W.cell? ⟨g1, 1, none⟩ = some (.int .i64 s1) ∧ W.cell? ⟨h1, 0, none⟩ = some (.int .i64 r1) ∧ W.cell? ⟨h1, 1, none⟩ = some (.int .i64 s1) ∧ W.cell? ⟨g2, 0, none⟩ = some (.int .i64 r2) ∧ W.cell? ⟨g2, 1, none⟩ = some (.int .i64 s2) ∧ W.cell? ⟨h2, 0, none⟩ = some (.int .i64 r2) ∧ W.cell? ⟨h2, 1, none⟩ = some (.int .i64 s2) ∧ W.cell? ⟨g3, 0, none⟩ = some (.int .i64 r3) ∧ W.cell? ⟨g3, 1, none⟩ = some (.int .i64 s3) ∧ W.cell? ⟨h3, 0, none⟩ = some (.int .i64 r3) ∧ W.cell? ⟨h3, 1, none⟩ = some (.int .i64 s3) ∧ W.cell? ⟨g4, 0, none⟩ = some (.int .i64 r4) ∧ W.cell? ⟨g4, 1, none⟩ = some (.int .i64 s4) ∧ W.cell? ⟨h4, 0, none⟩ = some (.int .i64 r4) ∧ W.cell? ⟨h4, 1, none⟩ = some (.int .i64 s4) ∧ W.cell? ⟨g5, 0, none⟩ = some (.int .i64 r5) ∧ W.cell? ⟨g5, 1, none⟩ = some (.int .i64 s5) ∧ W.cell? ⟨h5, 0, none⟩ = some (.int .i64 r5) ∧ W.cell? ⟨h5, 1, none⟩ = some (.int .i64 s5) ∧ W.cell? ⟨w.heap.size, 0, none⟩ = some (.int .i64 a) ∧ W.cell? ⟨w.heap.size, 1, none⟩ = some (.int .i64 b) ∧ W.cell? ⟨p1, 0, none⟩ = some (.int .i64 a) ∧ W.cell? ⟨p1, 1, none⟩ = some (.int .i64 b)) := fun W hR => ⟨(hR.g (g1, r1, s1) (by simp)).x, (hR.g (g1, r1, s1) (by simp)).y, (hR.g (h1, r1, s1) (by simp)).x, (hR.g (h1, r1, s1) (by simp)).y, (hR.g (g2, r2, s2) (by simp)).x, (hR.g (g2, r2, s2) (by simp)).y, (hR.g (h2, r2, s2) (by simp)).x, (hR.g (h2, r2, s2) (by simp)).y, (hR.g (g3, r3, s3) (by simp)).x, (hR.g (g3, r3, s3) (by simp)).y, (hR.g (h3, r3, s3) (by simp)).x, (hR.g (h3, r3, s3) (by simp)).y, (hR.g (g4, r4, s4) (by simp)).x, (hR.g (g4, r4, s4) (by simp)).y, (hR.g (h4, r4, s4) (by simp)).x, (hR.g (h4, r4, s4) (by simp)).y, (hR.g (g5, r5, s5) (by simp)).x, (hR.g (g5, r5, s5) (by simp)).y, (hR.g (h5, r5, s5) (by simp)).x, (hR.g (h5, r5, s5) (by simp)).y, hR.m.b0.x, hR.m.b0.y, hR.m.b2.x, hR.m.b2.y⟩
        have hC := hS _ hR
        obtain ⟨c0, c1, c2, c3, c4, c5, c6, c7, c8, c9, c10, c11, c12, c13, c14, c15, c16, c17, c18, c19, c20, c21, c22, c23⟩ := hC
        go_region_held3 (fun W => W.cell? ⟨g1, 0, none⟩ = some (.int .i64 r1) ∧ W.cell? ⟨g1, 1, none⟩ = some (.int .i64 s1) ∧ W.cell? ⟨h1, 0, none⟩ = some (.int .i64 r1) ∧ W.cell? ⟨h1, 1, none⟩ = some (.int .i64 s1) ∧ W.cell? ⟨g2, 0, none⟩ = some (.int .i64 r2) ∧ W.cell? ⟨g2, 1, none⟩ = some (.int .i64 s2) ∧ W.cell? ⟨h2, 0, none⟩ = some (.int .i64 r2) ∧ W.cell? ⟨h2, 1, none⟩ = some (.int .i64 s2) ∧ W.cell? ⟨g3, 0, none⟩ = some (.int .i64 r3) ∧ W.cell? ⟨g3, 1, none⟩ = some (.int .i64 s3) ∧ W.cell? ⟨h3, 0, none⟩ = some (.int .i64 r3) ∧ W.cell? ⟨h3, 1, none⟩ = some (.int .i64 s3) ∧ W.cell? ⟨g4, 0, none⟩ = some (.int .i64 r4) ∧ W.cell? ⟨g4, 1, none⟩ = some (.int .i64 s4) ∧ W.cell? ⟨h4, 0, none⟩ = some (.int .i64 r4) ∧ W.cell? ⟨h4, 1, none⟩ = some (.int .i64 s4) ∧ W.cell? ⟨g5, 0, none⟩ = some (.int .i64 r5) ∧ W.cell? ⟨g5, 1, none⟩ = some (.int .i64 s5) ∧ W.cell? ⟨h5, 0, none⟩ = some (.int .i64 r5) ∧ W.cell? ⟨h5, 1, none⟩ = some (.int .i64 s5) ∧ W.cell? ⟨w.heap.size, 0, none⟩ = some (.int .i64 a) ∧ W.cell? ⟨w.heap.size, 1, none⟩ = some (.int .i64 b) ∧ W.cell? ⟨p1, 0, none⟩ = some (.int .i64 a) ∧ W.cell? ⟨p1, 1, none⟩ = some (.int .i64 b)) (first
          | exact hS _ (by assumption)
          | exact hS _ (RM.drew (by assumption))) (first
          | (go_at_call 43; with_reducible refine (same_self r1 s1 k1 _).mono ?_; rintro e x1 ⟨rfl, xb1⟩; have xR1 := RM.up (by first | assumption | exact RM.drew (by assumption)) xb1)
          | (go_at_call 43; with_reducible refine (same_self r2 s2 k2 _).mono ?_; rintro e x2 ⟨rfl, xb2⟩; have xR2 := RM.up (by first | assumption | exact RM.drew (by assumption)) xb2)
          | (go_at_call 43; with_reducible refine (same_self r3 s3 k3 _).mono ?_; rintro e x3 ⟨rfl, xb3⟩; have xR3 := RM.up (by first | assumption | exact RM.drew (by assumption)) xb3)
          | (go_at_call 43; with_reducible refine (same_self r4 s4 k4 _).mono ?_; rintro e x4 ⟨rfl, xb4⟩; have xR4 := RM.up (by first | assumption | exact RM.drew (by assumption)) xb4)
          | (go_at_call 43; with_reducible refine (same_self r5 s5 k5 _).mono ?_; rintro e x5 ⟨rfl, xb5⟩; have xR5 := RM.up (by first | assumption | exact RM.drew (by assumption)) xb5)
          | (go_at_call 44; with_reducible refine (norm_any a b _).mono ?_; rintro e x6 ⟨rfl, xb6⟩; have xR6 := RM.up (by first | assumption | exact RM.drew (by assumption)) xb6)
          | (go_at_call 45; with_reducible refine (refNorm_any a b _).mono ?_; rintro e x7 ⟨rfl, xb7⟩; have xR7 := RM.up (by first | assumption | exact RM.drew (by assumption)) xb7)
          | (go_at_call 46; with_reducible refine (right_any a b _).mono ?_; rintro e x8 ⟨rfl, xb8⟩; have xR8 := RM.up (by first | assumption | exact RM.drew (by assumption)) xb8)
          | (go_at_call 47; with_reducible refine (refRight_any a b _).mono ?_; rintro e x9 ⟨rfl, xb9⟩; have xR9 := RM.up (by first | assumption | exact RM.drew (by assumption)) xb9)
          | (go_at_call 32; with_reducible refine (alive_gauss _).mono ?_; rintro e x10 ⟨rfl, xb10⟩; have xR10 := RM.up (by first | assumption | exact RM.drew (by assumption)) xb10))
        all_goals
          have hbel := xR10.m.bel
          clear hR hS xR1 xR2 xR3 xR4 xR5 xR6 xR7 xR8 xR9 xR10 ga1 ga2 ga3 ga4 ga5 ra1 ra2 ra3 ra4 ra5 Hp
          go_wp2
          go_ret
          exact ⟨rfl, hbel⟩

set_option maxRecDepth 100000 in
set_option maxHeartbeats 1000000 in
theorem walkBig (a b c d k : Int) (p : Option Addr) (cap n : Nat) (w : World) (hm : 40 < n) :
    Calls Try.prog 6 #[numV a b, numV c d, .int .i64 k, .slice p n cap] w fun e w' => e = .returned (.bool true) ∧ Below w.heap.size w w' := by
  have hgt : decide ((40 : Int) < (n : Int)) = true := decide_eq_true (by omega)
  go_enter Try.func6, Try.ntmps6
  go_wp2_with (go_at_call 32; refine (alive_gauss _).mono ?_; rintro e w' ⟨rfl, hb⟩)
  go_ret
  exact ⟨rfl, (below_two w _ _).trans (hb.mono (by simp; omega))⟩

theorem walkAll (a b c d k : Int) (p : Option Addr) (cap n : Nat) (w : World) (hp : n ≤ 40 → ∃ zs : List (Int × Int), n = zs.length ∧ ReadsN w p zs) :
    Calls Try.prog 6 #[numV a b, numV c d, .int .i64 k, .slice p n cap] w fun e w' => e = .returned (.bool true) ∧ Below w.heap.size w w' := by
  by_cases h : n ≤ 40
  · obtain ⟨zs, rfl, hz⟩ := hp h
    exact walk a b c d k p cap zs w h hz
  · exact walkBig a b c d k p cap n w (by omega)

end Go.Proofs.Ytebhojbllhjkeaa.gaussReckons
