import Derived.Test.Qxb6002458aCal
namespace Go.Proofs.Qxb6002458a.Cal
open Go.ChangeShapes Go.WideShapes Go.ChangeAt Go.RowKit
set_option linter.unusedVariables false
open Plain (S leap lp dim dn valid J)

theorem J_bd {y n : Int} (h1 : J y ≤ n) (h2 : n < J (y + 1)) (h3 : -4000000000 ≤ n) (h4 : n ≤ 4000000000) : -11000000 ≤ y ∧ y ≤ 11000000 := by
  unfold Plain.J Plain.S at h1 h2
  omega

/-- 14: ZZCivil -/
theorem zzCivil_any (n : Int) (w : World) (h0 : -4000000000 ≤ n) (h1 : n ≤ 4000000000) :
    Calls Try.prog 14 #[.int .i64 n] w fun e w' => ∃ y m d : Int, e = .returned (.tuple #[.int .i64 y, .int .i64 m, .int .i64 d]) ∧ w' = w ∧ valid y m d ∧ dn y m d = n := by
  go_enter Try.func14, Try.ntmps14
  go_wp2_with fail
  refine (civil_any _ _ h0 h1).mono ?_
  rintro e w' ⟨y, m, d, rfl, rfl, v, hd⟩
  have H : Hid (valid y m d ∧ dn y m d = n) := ⟨v, hd⟩
  clear v hd
  go_wp2_with fail
  go_ret3
  exact ⟨_, _, _, rfl, rfl, H.out⟩

/-- 17: zzMonthLen -/
theorem zzMonthLen_any (y m : Int) (w : World) (h0 : -100000000 ≤ y) (h1 : y ≤ 100000000) (m1 : 1 ≤ m) (m2 : m ≤ 12) :
    Calls Try.prog 17 #[.int .i64 y, .int .i64 m] w fun e w' => e = .returned (.int .i64 (dim y m)) ∧ w' = w := by
  by_cases c : m = 2
  · subst c
    have HL : Hid (leap y = true → 29 = dim y 2) := by intro h; have := dim_feb y; have := lp_yes h; omega
    have HN : Hid (leap y = false → 28 = dim y 2) := by intro h; have := dim_feb y; have := lp_no h; omega
    obtain ⟨t1, t2⟩ := tmod_bd y 4 (by omega)
    obtain ⟨t3, t4⟩ := tmod_bd y 100 (by omega)
    obtain ⟨t5, t6⟩ := tmod_bd y 400 (by omega)
    have e4 := tmod_zero y 4
    have e100 := tmod_zero y 100
    have e400 := tmod_zero y 400
    by_cases c400 : y % 400 = 0
    · have H : Hid (leap y = true) := (Plain.leap_iff y).2 ⟨by omega, .inr c400⟩
      have f400 : (y.tmod 400 == 0) = true := by rw [e400]; simpa using c400
      clear e4 e100 e400 c400
      go_enter Try.func17, Try.ntmps17
      go_wp2
      go_ret
      exact ⟨ret_int (HL.out H.out), rfl⟩
    · have f400 : (y.tmod 400 == 0) = false := by rw [e400]; simpa using c400
      by_cases c100 : y % 100 = 0
      · have H : Hid (leap y = false) := by
          have : ¬ leap y = true := fun h => by have := (Plain.leap_iff y).1 h; omega
          exact (by simpa using this : leap y = false)
        have f100 : (y.tmod 100 == 0) = true := by rw [e100]; simpa using c100
        clear e4 e100 e400 c400 c100
        go_enter Try.func17, Try.ntmps17
        go_wp2
        go_ret
        exact ⟨ret_int (HN.out H.out), rfl⟩
      · have f100 : (y.tmod 100 == 0) = false := by rw [e100]; simpa using c100
        by_cases c4 : y % 4 = 0
        · have H : Hid (leap y = true) := (Plain.leap_iff y).2 ⟨c4, .inl c100⟩
          have f4 : (y.tmod 4 == 0) = true := by rw [e4]; simpa using c4
          clear e4 e100 e400 c400 c100 c4
          go_enter Try.func17, Try.ntmps17
          go_wp2
          go_ret
          exact ⟨ret_int (HL.out H.out), rfl⟩
        · have H : Hid (leap y = false) := by
            have : ¬ leap y = true := fun h => by have := (Plain.leap_iff y).1 h; omega
            exact (by simpa using this : leap y = false)
          have f4 : (y.tmod 4 == 0) = false := by rw [e4]; simpa using c4
          clear e4 e100 e400 c400 c100 c4
          go_enter Try.func17, Try.ntmps17
          go_wp2
          go_ret
          exact ⟨ret_int (HN.out H.out), rfl⟩
  · rcases Plain.month_cases m m1 m2 with rfl | rfl | rfl | rfl | rfl | rfl | rfl | rfl | rfl | rfl | rfl | rfl
    all_goals first | (exfalso; omega) | skip
    all_goals
      clear c
      go_enter Try.func17, Try.ntmps17
      go_wp2_with fail
      go_ret
      first
        | exact ⟨ret_int (dim30 _ _ (by decide)), rfl⟩
        | exact ⟨ret_int (dim31 _ _ (by decide) (by decide)), rfl⟩

/-- 30: Year -/
theorem year_any (n : Int) (w : World) (h0 : -2147483648 ≤ n) (h1 : n ≤ 2147483647) :
    Calls Try.prog 30 #[.int .i32 n] w fun e w' => ∃ y : Int, e = .returned (.int .i64 y) ∧ w' = w ∧ J y ≤ n ∧ n < J (y + 1) := by
  go_enter Try.func30, Try.ntmps30
  go_wp2_with fail
  refine (civil_any _ _ (by omega) (by omega)).mono ?_
  rintro e w' ⟨y, m, d, rfl, rfl, v, hd⟩
  have hj := Plain.in_year v
  rw [hd] at hj
  have H : Hid (J y ≤ n ∧ n < J (y + 1)) := hj
  clear v hd hj
  go_wp2_with fail
  go_ret
  exact ⟨_, rfl, rfl, H.out⟩

/-- 31: DaysInYear -/
theorem daysInYear_any (n : Int) (w : World) (h0 : -2147483648 ≤ n) (h1 : n ≤ 2147483647) :
    Calls Try.prog 31 #[.int .i32 n] w fun e w' => ∃ y : Int, e = .returned (.int .i64 (365 + lp y)) ∧ w' = w ∧ J y ≤ n ∧ n < J (y + 1) := by
  go_enter Try.func31, Try.ntmps31
  go_wp2_with fail
  refine (year_any _ _ h0 h1).mono ?_
  rintro e w' ⟨y, rfl, rfl, j1, j2⟩
  obtain ⟨y0, y1⟩ := J_bd j1 j2 (by omega) (by omega)
  have H : Hid (J y ≤ n ∧ n < J (y + 1)) := ⟨j1, j2⟩
  clear j1 j2
  cases hl : leap y with
  | true =>
    have HL : Hid (366 = 365 + lp y) := by have := lp_yes hl; show 366 = 365 + lp y; omega
    go_wp2_with (go_at_call 39; refine (isLeap_any _ _ (by omega) (by omega)).mono ?_; rintro e w' ⟨rfl, rfl⟩)
    go_ret
    exact ⟨y, ret_int HL.out, rfl, H.out⟩
  | false =>
    have HL : Hid (365 = 365 + lp y) := by have := lp_no hl; show 365 = 365 + lp y; omega
    go_wp2_with (go_at_call 39; refine (isLeap_any _ _ (by omega) (by omega)).mono ?_; rintro e w' ⟨rfl, rfl⟩)
    go_ret
    exact ⟨y, ret_int HL.out, rfl, H.out⟩
end Go.Proofs.Qxb6002458a.Cal
