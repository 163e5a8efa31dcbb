/- Div's inner function: the whole number that is nearest to n by d. -/
import Derived.Test.YtebhojbllhjkeaaGauss
namespace Go.Proofs.Ytebhojbllhjkeaa
open Go.RowKit
set_option linter.all false

/-- the whole number nearest to n by d, d above 0 -/
def nearI (n d : Int) : Int := (2 * n + d) / (2 * d)

theorem near_cut (k m : Int) (hm : 0 < m) : (if k.tmod m < 0 then k.tdiv m - 1 else k.tdiv m) = k / m := by
  have h1 := Int.mul_tdiv_add_tmod k m
  have h2 : -m < k.tmod m := Int.lt_tmod_of_pos k hm
  have h3 : k.tmod m < m := Int.tmod_lt_of_pos k hm
  by_cases h : k.tmod m < 0
  · rw [if_pos h]
    exact ((Int.ediv_emod_unique hm (a := k) (r := k.tmod m + m) (q := k.tdiv m - 1)).2 ⟨by rw [Int.mul_sub, Int.mul_one]; omega, by omega, by omega⟩).1.symm
  · rw [if_neg h]
    exact ((Int.ediv_emod_unique hm (a := k) (r := k.tmod m) (q := k.tdiv m)).2 ⟨by omega, by omega, by omega⟩).1.symm

set_option maxRecDepth 10000 in
set_option maxHeartbeats 800000 in
theorem near_any (x : Nat) (n d : Int) (D : Nat) (w : World) (hx : Fl x n) (n0 : -8796093022208 ≤ n) (n1 : n ≤ 8796093022208) (d0 : 0 < d) (d1 : d ≤ 8796093022208) (hc : w.cell? ⟨D, 0, none⟩ = some (.int .i64 d)) :
    Calls Try.prog 78 #[.float .f64 x, .pointer (some ⟨D, 0, none⟩)] w fun e w' => e = .returned (.int .i64 (nearI n d)) ∧ w' = w := by
  have cx := fun W => run_convert_float_int (P := Try.prog) W 106 3 .f64 .i64 x n (by kernel_rfl) Try.underlying3 (fl_toInt hx (by omega) (by omega))
  have hk := near_cut (2 * n + d) (2 * d) (by omega)
  by_cases h : (2 * n + d).tmod (2 * d) < 0
  · rw [if_pos h] at hk
    have Hk := Lib.hid hk
    clear hk
    go_enter Try.func78, Try.ntmps78
    go_wp2
    go_ret
    refine ⟨ret_int ?_, rfl⟩
    have hq := Int.natAbs_tdiv_le_natAbs (2 * n + d) (2 * d)
    have := Hk.out
    unfold nearI wrap64
    omega
  · rw [if_neg h] at hk
    have Hk := Lib.hid hk
    clear hk
    go_enter Try.func78, Try.ntmps78
    go_wp2
    go_ret
    exact ⟨ret_int Hk.out, rfl⟩
end Go.Proofs.Ytebhojbllhjkeaa
