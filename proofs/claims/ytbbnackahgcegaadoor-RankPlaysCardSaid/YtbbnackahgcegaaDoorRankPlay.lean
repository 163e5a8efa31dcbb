/- One step of the rank beside the document's: Add, Remove, Turn; what is read of both. -/
import Derived.Test.YtbbnackahgcegaaDoorRefRankG
import Derived.Test.YtbbnackahgcegaaDoorRankLaw
namespace Go.Proofs.YtbbnackahgcegaaDoor
open Go.RowKit
set_option linter.all false

theorem nat_room : ∀ (n : Nat) (l : List Nat), l.Nodup → (∀ x ∈ l, x < n) → l.length ≤ n
  | 0, [], _, _ => Nat.le_refl _
  | 0, x :: l, _, h => absurd (h x (List.mem_cons_self ..)) (Nat.not_lt_zero _)
  | n + 1, l, hn, h => by
    by_cases hm : n ∈ l
    · have h1 := nat_room n (l.erase n) (hn.erase n) (fun x hx => by
        have h2 := h x (List.mem_of_mem_erase hx)
        have h3 : x ≠ n := fun e => by
          subst e
          exact (List.Nodup.not_mem_erase hn) hx
        omega)
      rw [List.length_erase_of_mem hm] at h1
      omega
    · have h1 := nat_room n l hn (fun x hx => by
        have h2 := h x hx
        have h3 : x ≠ n := fun e => hm (e ▸ hx)
        omega)
      omega
theorem Good.len {L : List (Int × Int)} (h : Good L) : L.length ≤ 16 := by
  have := nat_room 16 (L.map (fun x => x.1.toNat)) (by
    have h1 := h.one
    rw [List.Nodup, List.pairwise_map] at h1 ⊢
    refine List.Pairwise.imp_of_mem (fun {a b} ha hb hne => ?_) h1
    have h2 := (h.bd a ha).1
    have h3 := (h.bd b hb).1
    omega) (fun x hx => by
    obtain ⟨y, hy, rfl⟩ := List.mem_map.1 hx
    have := h.bd y hy
    omega)
  simpa using this
theorem Good.no {L : List (Int × Int)} {t P : Int} {A B : List (Int × Int)} (h : Good L) (e : L = A ++ (t, P) :: B) : t ∉ (A ++ B).map (·.1) := by
  have hone := h.one
  rw [e, List.map_append, List.map_cons, List.nodup_append, List.nodup_cons] at hone
  obtain ⟨_, ⟨hB, _⟩, hA⟩ := hone
  rw [List.map_append, List.mem_append]
  rintro (hm | hm)
  · exact hA t hm t (List.mem_cons_self ..) rfl
  · exact hB hm

/-- what the program's rank does -/
abbrev RStep (fn : Nat) (args : List Value) (L L' : List (Int × Int)) (s : Bool) : Prop :=
  ∀ (W : World) (B : Nat) (b : Int), Tab W → 0 < B → RK W B (rowL L) b L.length →
    Calls Tryd.prog fn (Value.pointer (some ⟨B, 0, none⟩) :: args).toArray W fun e w' => e = .returned (.bool s) ∧ (∃ b', RK w' B (rowL L') b' L'.length) ∧ W.grownBy w' (some B)
/-- what the document's does -/
abbrev FStep (fn : Nat) (args : List Value) (L L' : List (Int × Int)) (s : Bool) : Prop :=
  ∀ (W : World) (base : Nat) (v : Value), OL W base v L → base ≤ W.heap.size →
    Calls Tryd.prog fn (Value.agg #[v] :: args).toArray W fun e w' => ∃ v', e = .returned (.tuple #[.agg #[v'], .bool s]) ∧ OL w' base v' L' ∧ Below W.heap.size W w'

theorem step_add (L : List (Int × Int)) (t p : Int) (hG : Good L) : ∃ L' s, Good L' ∧
    RStep 36 [.int .i64 t, .int .i64 p] L L' s ∧ FStep 37 [.int .i64 t, .int .i64 p] L L' s := by
  have hl := hG.len
  have fbad : ∀ {W : World} {base : Nat} {v : Value}, OL W base v L → (∀ a c, RdL W a L → Calls Tryd.prog 37 #[.agg #[.slice a L.length c], .int .i64 t, .int .i64 p] W fun e w' => e = .returned (.tuple #[.agg #[.slice a L.length c], .bool false]) ∧ Below W.heap.size W w') →
      Calls Tryd.prog 37 #[.agg #[v], .int .i64 t, .int .i64 p] W fun e w' => ∃ v', e = .returned (.tuple #[.agg #[v'], .bool false]) ∧ OL w' base v' L ∧ Below W.heap.size W w' := fun {W base v} hO hc => by
    obtain ⟨a, c, rfl, hR⟩ := hO.parts (by omega)
    exact (hc a c hR).mono (fun e w' ⟨h1, h2⟩ => ⟨_, h1, hO.up h2, h2⟩)
  have fbads : ∀ (W : World) (base : Nat) (v : Value), OL W base v L → ¬ (0 ≤ t ∧ t < 16 ∧ 0 ≤ p ∧ p < 32) →
      Calls Tryd.prog 37 #[.agg #[v], .int .i64 t, .int .i64 p] W fun e w' => ∃ v', e = .returned (.tuple #[.agg #[v'], .bool false]) ∧ OL w' base v' L ∧ Below W.heap.size W w' := fun W base v hO hbad => by
    refine fbad hO (fun a c _ => ?_)
    by_cases d0 : t < 0
    · exact fadd_lo a L.length c t p W (decide_eq_true d0)
    · by_cases d1 : 15 < t
      · exact fadd_hi a L.length c t p W (decide_eq_false d0) (decide_eq_true d1)
      · by_cases d2 : p < 0
        · exact fadd_plo a L.length c t p W (decide_eq_false d0) (decide_eq_false d1) (decide_eq_true d2)
        · exact fadd_phi a L.length c t p W (decide_eq_false d0) (decide_eq_false d1) (decide_eq_false d2) (decide_eq_true (by omega))
  by_cases hin : t ∈ L.map (·.1)
  · obtain ⟨A, P, B, e⟩ := split_at hin
    have hbd := hG.bd (t, P) (by rw [e]; simp)
    simp only at hbd
    obtain ⟨P', hP⟩ := Int.eq_ofNat_of_zero_le hbd.2.2.1
    refine ⟨L, false, hG, fun W B' b hT _ h => ?_, fun W base v hO hb => ?_⟩
    · subst hP
      obtain ⟨h1, h2, h3⟩ := rowL_at (show Good (A ++ (t, (P' : Int)) :: B) from e ▸ hG)
      rw [← e] at h1 h2 h3
      refine (radd_no_had B' t p P' (rowL A P').length true rfl W (find_yes B' P' (rowL A P').length (rowL L) b L.length t W hT h (by omega) h1 h2 h3)).mono (fun e w' ⟨h4, h5⟩ => ⟨h4, ⟨b, h.up h5⟩, only_of_below h5 _⟩)
    · by_cases hok : 0 ≤ t ∧ t < 16 ∧ 0 ≤ p ∧ p < 32
      · refine fbad hO (fun a c hR => ?_)
        obtain ⟨hno, hat, hlt⟩ := place_yes (show Good (A ++ (t, P) :: B) from e ▸ hG)
        rw [← e] at hno hat hlt
        refine fadd_had a L.length c t p W (decide_eq_false (by omega)) (decide_eq_false (by omega)) (decide_eq_false (by omega)) (decide_eq_false (by omega)) A.length (fun W' hb' => ?_)
        have := place_any a c A.length L t W' (hR.up hb') (by omega) hno (fun _ => by rw [hat])
        rwa [if_pos hlt] at this
      · exact fbads W base v hO hok
  · by_cases hok : 0 ≤ t ∧ t < 16 ∧ 0 ≤ p ∧ p < 32
    · obtain ⟨P, hP⟩ := Int.eq_ofNat_of_zero_le hok.2.2.1
      subst hP
      have hG' := hG.add (P := P) hin hok.1 hok.2.1 (by omega)
      have hl' := hG'.len
      rw [List.length_append] at hl'
      simp only [List.length_singleton] at hl'
      refine ⟨_, true, hG', fun W B' b hT _ h => ?_, fun W base v hO hb => ?_⟩
      · refine (radd_yes B' P (rowL L) b L.length t W hT h (rowL_no hin) hok.1 hok.2.1 (by omega) (by have := rowL_len L P; omega) (by omega)).mono (fun e w' ⟨h4, h5, h6⟩ => ⟨h4, ⟨putT b P, ?_⟩, h6⟩)
        rw [rowL_add, List.length_append]
        simpa using h5
      · exact (fadd_ok v L base t P W hO (by omega) hin hok.1 hok.2.1 hok.2.2.1 hok.2.2.2).mono (fun e w' ⟨v', h4, h5, h6⟩ => ⟨v', h4, owns_base h5 hb, h6⟩)
    · exact ⟨L, false, hG, fun W B' b hT _ h => (radd_bad B' (rowL L) b L.length t p W hT h (rowL_no hin) hok).mono (fun e w' ⟨h4, h5⟩ => ⟨h4, ⟨b, h.up h5⟩, only_of_below h5 _⟩), fun W base v hO hb => fbads W base v hO hok⟩

theorem step_remove (L : List (Int × Int)) (t : Int) (hG : Good L) : ∃ L' s, Good L' ∧
    RStep 38 [.int .i64 t] L L' s ∧ FStep 39 [.int .i64 t] L L' s := by
  have hl := hG.len
  by_cases hin : t ∈ L.map (·.1)
  · obtain ⟨A, P, B, rfl⟩ := split_at hin
    have hbd := hG.bd (t, P) (by simp)
    simp only at hbd
    obtain ⟨P', hP⟩ := Int.eq_ofNat_of_zero_le hbd.2.2.1
    subst hP
    have hG' := hG.del
    have hpos : 0 < (A ++ (t, (P' : Int)) :: B).length := by simp; omega
    refine ⟨A ++ B, true, hG', fun W B' b hT _ h => ?_, fun W base v hO hb => ?_⟩
    · obtain ⟨h1, h2, h3⟩ := rowL_at hG
      refine (rremove_yes B' P' (rowL A P').length (rowL (A ++ (t, (P' : Int)) :: B)) b _ t W hT h (by omega) h1 h2 h3 (by omega) _ rfl).mono (fun e w' ⟨h4, h5, h6⟩ => ⟨h4, ⟨(if (rowL (A ++ (t, (P' : Int)) :: B) P').length = 1 then putF b P' else b), ?_⟩, h6⟩)
      rw [rowL_del A B t P']
      have e : (((A ++ (t, (P' : Int)) :: B).length : Nat) : Int) - 1 = ((A ++ B).length : Nat) := by simp; omega
      rw [e] at h5
      exact h5
    · exact (fremove_ok v A B base t P' W hO hG hl).mono (fun e w' ⟨v', h4, h5, h6⟩ => ⟨v', h4, owns_base h5 hb, h6⟩)
  · refine ⟨L, false, hG, fun W B' b hT _ h => (rremove_no B' (rowL L) b L.length t W hT h (rowL_no hin)).mono (fun e w' ⟨h4, h5⟩ => ⟨h4, ⟨b, h.up h5⟩, only_of_below h5 _⟩), fun W base v hO hb => ?_⟩
    obtain ⟨a, c, rfl, hR⟩ := hO.parts (by omega)
    exact (fremove_no a c L t W hR hin).mono (fun e w' ⟨h1, h2⟩ => ⟨_, h1, hO.up h2, h2⟩)

theorem step_turn (L : List (Int × Int)) (t : Int) (hG : Good L) : ∃ L' s, Good L' ∧
    RStep 40 [.int .i64 t] L L' s ∧ FStep 41 [.int .i64 t] L L' s := by
  have hl := hG.len
  by_cases hin : t ∈ L.map (·.1)
  · obtain ⟨A, P, B, rfl⟩ := split_at hin
    have hbd := hG.bd (t, P) (by simp)
    simp only at hbd
    obtain ⟨P', hP⟩ := Int.eq_ofNat_of_zero_le hbd.2.2.1
    subst hP
    have hG' := hG.del.add (P := P') (hG.no rfl) hbd.1 hbd.2.1 (by omega)
    have hpos : 0 < (A ++ (t, (P' : Int)) :: B).length := by simp; omega
    refine ⟨(A ++ B) ++ [(t, (P' : Int))], true, hG', fun W B' b hT hTB h => ?_, fun W base v hO hb => ?_⟩
    · obtain ⟨h1, h2, h3⟩ := rowL_at hG
      refine (rturn_yes B' P' (rowL A P').length (rowL (A ++ (t, (P' : Int)) :: B)) b _ t W hT h (by omega) h1 h2 h3 (by omega) hbd.1 hbd.2.1 hTB).mono (fun e w' ⟨h4, ⟨b', h5⟩, h6⟩ => ⟨h4, ⟨b', ?_⟩, h6⟩)
      rw [rowL_add, rowL_del A B t P']
      have e : (((A ++ (t, (P' : Int)) :: B).length : Nat) : Int) = (((A ++ B) ++ [(t, (P' : Int))]).length : Nat) := by simp; try omega
      rw [e] at h5
      exact h5
    · obtain ⟨g, c, rfl⟩ := hO.some (by omega) hpos
      exact (fturn_yes g c base A B t P' W hO hG hl).mono (fun e w' ⟨v', h4, h5, h6⟩ => ⟨v', h4, owns_base h5 hb, h6⟩)
  · refine ⟨L, false, hG, fun W B' b hT _ h => (rturn_no B' (rowL L) b L.length t W hT h (rowL_no hin)).mono (fun e w' ⟨h4, h5⟩ => ⟨h4, ⟨b, h.up h5⟩, only_of_below h5 _⟩), fun W base v hO hb => ?_⟩
    obtain ⟨a, c, rfl, hR⟩ := hO.parts (by omega)
    exact (fturn_no a c L t W hR hin).mono (fun e w' ⟨h1, h2⟩ => ⟨_, h1, hO.up h2, h2⟩)

theorem look_prio (L : List (Int × Int)) (t : Int) (hG : Good L) : ∃ (x : Int) (s : Bool),
    (∀ (W : World) (B : Nat) (b : Int), Tab W → RK W B (rowL L) b L.length → Calls Tryd.prog 44 #[.pointer (some ⟨B, 0, none⟩), .int .i64 t] W fun e w' => e = .returned (.tuple #[.int .i64 x, .bool s]) ∧ Below W.heap.size W w') ∧
    (∀ (W : World) (a : Option Addr) (c : Nat), RdL W a L → Calls Tryd.prog 45 #[.agg #[.slice a L.length c], .int .i64 t] W fun e w' => e = .returned (.tuple #[.int .i64 x, .bool s]) ∧ Below W.heap.size W w') := by
  have hl := hG.len
  by_cases hin : t ∈ L.map (·.1)
  · obtain ⟨A, P, B, rfl⟩ := split_at hin
    have hbd := hG.bd (t, P) (by simp)
    simp only at hbd
    obtain ⟨P', hP⟩ := Int.eq_ofNat_of_zero_le hbd.2.2.1
    subst hP
    refine ⟨P', true, fun W B' b hT h => ?_, fun W a c hR => ?_⟩
    · obtain ⟨h1, h2, h3⟩ := rowL_at hG
      exact rprio_any B' t P' (rowL A P').length true W (find_yes B' P' (rowL A P').length _ b _ t W hT h (by omega) h1 h2 h3)
    · obtain ⟨hno, hat, hlt⟩ := place_yes hG
      exact fprio_yes a c A.length _ t P' W hR hlt hno hat
  · exact ⟨0, false, fun W B' b hT h => rprio_any B' t 0 0 false W (find_no B' (rowL L) b _ t W hT h (rowL_no hin)), fun W a c hR => fprio_no a c L t W hR hin⟩

theorem look_first (L : List (Int × Int)) (hG : Good L) : ∃ (x : Int) (s : Bool),
    (∀ (W : World) (B : Nat) (b : Int), RK W B (rowL L) b L.length → Calls Tryd.prog 42 #[.pointer (some ⟨B, 0, none⟩)] W fun e w' => e = .returned (.tuple #[.int .i64 x, .bool s]) ∧ Below W.heap.size W w') ∧
    (∀ (W : World) (a : Option Addr) (c : Nat), RdL W a L → Calls Tryd.prog 43 #[.agg #[.slice a L.length c]] W fun e w' => e = .returned (.tuple #[.int .i64 x, .bool s]) ∧ Below W.heap.size W w') := by
  have hl := hG.len
  refine ⟨(catQ (rowL L) 32).getD 0 0, decide (0 < (catQ (rowL L) 32).length), fun W B b h => ?_, fun W a c hR => ffirst_any a c L W hR hl⟩
  rcases Nat.eq_zero_or_pos (catQ (rowL L) 32).length with h0 | h0
  · have e0 : (L.length : Int) = 0 := by
      rcases L with _ | ⟨x, L⟩
      · rfl
      · exfalso
        have hbd := hG.bd x (List.mem_cons_self ..)
        obtain ⟨P', hP⟩ := Int.eq_ofNat_of_zero_le hbd.2.2.1
        have hm : x.1 ∈ catQ (rowL (x :: L)) 32 := mem_catQ.2 ⟨P', by omega, rowL_mem.2 (by rw [← hP]; exact List.mem_cons_self ..)⟩
        rw [List.eq_nil_of_length_eq_zero h0] at hm
        cases hm
    rw [List.eq_nil_of_length_eq_zero h0]
    exact rfirst_no B (rowL L) b L.length W h e0
  · obtain ⟨P, hP, hq, hupq, hls⟩ := catQ_top h0
    rw [decide_eq_true h0]
    have e0 : (catQ (rowL L) 32).getD 0 0 = (rowL L P).getD 0 0 := by
      rw [hls, List.getD_eq_getElem?_getD, List.getD_eq_getElem?_getD, List.getElem?_append_left hq]
    rw [e0]
    exact rfirst_yes B P (rowL L) b L.length W h (by have := rowL_len L P; omega) hP (h.hiI_eq hP hq hupq) hq

theorem look_bits (L : List (Int × Int)) (hG : Good L) (b : Int) {W0 : World} {B0 : Nat} (h0 : RK W0 B0 (rowL L) b L.length) :
    ∀ (W : World) (a : Option Addr) (c : Nat), RdL W a L → Calls Tryd.prog 47 #[.agg #[.slice a L.length c]] W fun e w' => e = .returned (.int .u32 b) ∧ Below W.heap.size W w' := by
  intro W a c hR
  refine (fbits23_any a c L W hR (fun x hx => (hG.bd x hx).2.2)).mono (fun e w' ⟨b', h1, h2, h3, h4, h5⟩ => ⟨?_, h5⟩)
  have hlo := h0.lo
  have hhi := h0.hi
  have e0 : b'.toNat = b.toNat := Nat.eq_of_testBit_eq (fun p => by
    by_cases hp : p < 32
    · rw [h4 p hp, h0.tb p hp]
      apply decide_eq_decide.2
      constructor
      · rintro ⟨k, hk, hz⟩ he
        have hm : (L.getD k (0, 0)).1 ∈ rowL L p := rowL_mem.2 (by
          rw [← hz]
          have : L.getD k (0, 0) = L[k] := by simp [hk]
          rw [this]
          exact List.getElem_mem hk)
        rw [he] at hm
        cases hm
      · intro hne
        obtain ⟨x, hx⟩ := List.exists_mem_of_ne_nil _ hne
        obtain ⟨k, hk, e⟩ := List.getElem_of_mem (rowL_mem.1 hx)
        exact ⟨k, hk, by simp [hk, e]⟩
    · rw [tb_high (by omega) (by omega), tb_high (by omega) (by omega)])
  have e1 : b' = b := by omega
  rw [h1, e1]
end Go.Proofs.YtbbnackahgcegaaDoor
