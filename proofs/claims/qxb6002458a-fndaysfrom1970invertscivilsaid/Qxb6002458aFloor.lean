import Derived.Test.Qxb6002458aRows
import Derived.WalkKit
import Derived.ProofKit
import Derived.OpenShut
import Derived.ShutString
namespace Go.Proofs.Qxb6002458a.Cal
open Go.ChangeShapes Go.WideShapes Go.ChangeAt Go.RowKit
set_option linter.unusedVariables false

theorem ret_int {k : IntKind} {a b : Int} (h : a = b) : Ending.returned (.int k a) = .returned (.int k b) := by rw [h]

theorem tmod_neg_of (a b : Int) (h : a < 0) : a.tmod b = -((-a) % b) := by
  have e : a = -(-a) := by omega
  rw [e, Int.neg_tmod, Int.tmod_eq_emod_of_nonneg (by omega)]
  simp

theorem tdiv_neg_of (a b : Int) (h : a < 0) : a.tdiv b = -((-a) / b) := by
  have e : a = -(-a) := by omega
  rw [e, Int.neg_tdiv, Int.tdiv_eq_ediv_of_nonneg (by omega)]
  simp

theorem div_of (a b q r : Int) (h : r + b * q = a) (h0 : 0 ≤ r) (h1 : r < b) : q = a / b :=
  ((Int.ediv_emod_unique (show 0 < b by omega)).2 ⟨h, h0, h1⟩).1.symm

theorem fdiv_down (a b : Int) (hb : 1 ≤ b) (h : 0 < (-a) % b) : -((-a) / b) - 1 = a / b := by
  have h1 := Int.mul_ediv_add_emod (-a) b
  have h5 := Int.emod_lt_of_pos (-a) (show 0 < b by omega)
  refine div_of a b _ (b - (-a) % b) ?_ (by omega) (by omega)
  rw [Int.mul_sub, Int.mul_neg]; omega

theorem fdiv_even (a b : Int) (hb : 1 ≤ b) (h : ¬ 0 < (-a) % b) : -((-a) / b) = a / b := by
  have h3 := Int.emod_nonneg (-a) (show b ≠ 0 by omega)
  have h0 : (-a) % b = 0 := by omega
  have h1 := Int.mul_ediv_add_emod (-a) b
  have : a = b * (-((-a) / b)) := by rw [Int.mul_neg]; omega
  conv => rhs; rw [this]
  rw [Int.mul_ediv_cancel_left _ (by omega)]

theorem floorDiv_any (a b : Int) (w : World) (h1 : -4000000000000 ≤ a) (h2 : a ≤ 4000000000000) (h3 : 1 ≤ b) (h4 : b ≤ 4000000000000) :
    Calls Try.prog 35 #[.int .i64 a, .int .i64 b] w fun e w' => e = .returned (.int .i64 (a / b)) ∧ w' = w := by
  by_cases ha : 0 ≤ a
  · have q1 : 0 ≤ a / b := Int.ediv_nonneg ha (by omega)
    have q2 : a / b ≤ a := Int.ediv_le_self _ ha
    have q3 : 0 ≤ a % b := Int.emod_nonneg _ (by omega)
    go_enter Try.func35, Try.ntmps35
    go_wp2
    go_ret
    exact ⟨rfl, rfl⟩
  · have q1 : 0 ≤ (-a) / b := Int.ediv_nonneg (by omega) (by omega)
    have q2 : (-a) / b ≤ (-a) := Int.ediv_le_self _ (by omega)
    have q3 : 0 ≤ (-a) % b := Int.emod_nonneg _ (by omega)
    have e1 := tdiv_neg_of a b (by omega)
    have e2 := tmod_neg_of a b (by omega)
    by_cases hm : 0 < (-a) % b
    · have HD := fdiv_down a b h3 hm
      have H : Hid (-((-a) / b) - 1 = a / b) := HD
      clear HD
      go_enter Try.func35, Try.ntmps35
      go_wp2
      go_ret
      exact ⟨ret_int H.out, rfl⟩
    · have HD := fdiv_even a b h3 hm
      have H : Hid (-((-a) / b) = a / b) := HD
      clear HD
      go_enter Try.func35, Try.ntmps35
      go_wp2
      go_ret
      exact ⟨ret_int H.out, rfl⟩

theorem zzFloorDiv_any (a b : Int) (w : World) (h1 : -4000000000000 ≤ a) (h2 : a ≤ 4000000000000) (h3 : 1 ≤ b) (h4 : b ≤ 4000000000000) :
    Calls Try.prog 20 #[.int .i64 a, .int .i64 b] w fun e w' => e = .returned (.int .i64 (a / b)) ∧ w' = w := by
  go_enter Try.func20, Try.ntmps20
  go_wp2_with (go_at_call 35; refine (floorDiv_any _ _ _ h1 h2 h3 h4).mono ?_; rintro e w' ⟨rfl, rfl⟩)
  go_ret
  exact ⟨rfl, rfl⟩
end Go.Proofs.Qxb6002458a.Cal
