import Derived.Test.Qxb6002458aFloor
import Derived.Test.Qxb6002458aPlain
namespace Go.Proofs.Qxb6002458a.Cal
open Go.ChangeShapes Go.WideShapes Go.ChangeAt Go.RowKit
set_option linter.unusedVariables false
open Plain (S leap lp dim dn valid J)

theorem tmod_zero (y k : Int) : (y.tmod k == 0) = (y % k == 0) := by
  rw [Bool.eq_iff_iff, beq_iff_eq, beq_iff_eq]
  exact ⟨fun h => Int.emod_eq_zero_of_dvd (Int.dvd_of_tmod_eq_zero h), fun h => Int.tmod_eq_zero_of_dvd (Int.dvd_of_emod_eq_zero h)⟩

theorem tmod_nonzero (y k : Int) : (y.tmod k != 0) = (y % k != 0) := by
  unfold bne; rw [tmod_zero]

theorem ret_bool {a b : Bool} (h : a = b) : Ending.returned (.bool a) = .returned (.bool b) := by rw [h]

/-- 40: dayOfYear -/
theorem dayOfYear_any (m : Int) (w : World) (h0 : 0 ≤ m) (h1 : m ≤ 11) :
    Calls Try.prog 40 #[.int .i64 m] w fun e w' => e = .returned (.int .i64 ((153 * m + 2) / 5)) ∧ w' = w := by
  go_enter Try.func40, Try.ntmps40
  go_wp2
  go_ret
  exact ⟨rfl, rfl⟩

theorem tmod_bd (y k : Int) (hk : 0 < k) : -k < y.tmod k ∧ y.tmod k < k := by
  have h1 := Int.tmod_lt_of_pos y hk
  have h2 := Int.tmod_lt_of_pos (-y) hk
  rw [Int.neg_tmod] at h2
  exact ⟨by omega, h1⟩

/-- 39: isLeap -/
theorem isLeap_any (y : Int) (w : World) (h0 : -100000000 ≤ y) (h1 : y ≤ 100000000) :
    Calls Try.prog 39 #[.int .i64 y] w fun e w' => e = .returned (.bool (leap y)) ∧ w' = w := by
  obtain ⟨t1, t2⟩ := tmod_bd y 4 (by omega)
  obtain ⟨t3, t4⟩ := tmod_bd y 100 (by omega)
  obtain ⟨t5, t6⟩ := tmod_bd y 400 (by omega)
  by_cases c4 : y % 4 = 0
  · have e4 : (y.tmod 4 == 0) = true := by rw [tmod_zero]; simpa using c4
    by_cases c100 : y % 100 = 0
    · have e100 : (y.tmod 100 != 0) = false := by rw [tmod_nonzero]; simpa using c100
      by_cases c400 : y % 400 = 0
      · have e400 : (y.tmod 400 == 0) = true := by rw [tmod_zero]; simpa using c400
        have H : Hid (true = leap y) := by exact ((Plain.leap_iff y).2 ⟨c4, .inr c400⟩).symm
        clear c4 c100 c400
        go_enter Try.func39, Try.ntmps39
        go_wp2
        go_ret
        exact ⟨ret_bool H.out, rfl⟩
      · have e400 : (y.tmod 400 == 0) = false := by rw [tmod_zero]; simpa using c400
        have H : Hid (false = leap y) := by
          have : ¬ leap y = true := fun h => by have := (Plain.leap_iff y).1 h; omega
          exact (by simpa using this : leap y = false).symm
        clear c4 c100 c400
        go_enter Try.func39, Try.ntmps39
        go_wp2
        go_ret
        exact ⟨ret_bool H.out, rfl⟩
    · have e100 : (y.tmod 100 != 0) = true := by rw [tmod_nonzero]; simpa using c100
      have H : Hid (true = leap y) := by exact ((Plain.leap_iff y).2 ⟨c4, .inl c100⟩).symm
      clear c4 c100
      go_enter Try.func39, Try.ntmps39
      go_wp2
      go_ret
      exact ⟨ret_bool H.out, rfl⟩
  · have e4 : (y.tmod 4 == 0) = false := by rw [tmod_zero]; simpa using c4
    have H : Hid (false = leap y) := by
      have : ¬ leap y = true := fun h => by have := (Plain.leap_iff y).1 h; omega
      exact (by simpa using this : leap y = false).symm
    clear c4
    go_enter Try.func39, Try.ntmps39
    go_wp2
    go_ret
    exact ⟨ret_bool H.out, rfl⟩

theorem dim_feb (y : Int) : dim y 2 = 28 + lp y := by unfold dim; simp
theorem lp_yes {y : Int} (h : leap y = true) : lp y = 1 := by unfold lp; rw [if_pos h]
theorem lp_no {y : Int} (h : leap y = false) : lp y = 0 := by unfold lp; rw [if_neg (by rw [h]; exact Bool.false_ne_true)]

theorem dim30 (y m : Int) (h : m = 4 ∨ m = 6 ∨ m = 9 ∨ m = 11) : 30 = dim y m := by
  unfold dim; rw [if_neg (by omega), if_pos h]
theorem dim31 (y m : Int) (h : ¬ m = 2) (h' : ¬ (m = 4 ∨ m = 6 ∨ m = 9 ∨ m = 11)) : 31 = dim y m := by
  unfold dim; rw [if_neg h, if_neg h']

/-- 33: daysInMonth -/
theorem daysInMonth_any (y m : Int) (w : World) (h0 : -100000000 ≤ y) (h1 : y ≤ 100000000) (m1 : 1 ≤ m) (m2 : m ≤ 12) :
    Calls Try.prog 33 #[.int .i64 y, .int .i64 m] w fun e w' => e = .returned (.int .i64 (dim y m)) ∧ w' = w := by
  by_cases c : m = 2
  · subst c
    cases hl : leap y with
    | true =>
      have H : Hid (29 = dim y 2) := by
        have := dim_feb y; have := lp_yes hl; show 29 = dim y 2; omega
      go_enter Try.func33, Try.ntmps33
      go_wp2_with (go_at_call 39; refine (isLeap_any _ _ h0 h1).mono ?_; rintro e w' ⟨rfl, rfl⟩)
      go_ret
      exact ⟨ret_int H.out, rfl⟩
    | false =>
      have H : Hid (28 = dim y 2) := by
        have := dim_feb y; have := lp_no hl; show 28 = dim y 2; omega
      go_enter Try.func33, Try.ntmps33
      go_wp2_with (go_at_call 39; refine (isLeap_any _ _ h0 h1).mono ?_; rintro e w' ⟨rfl, rfl⟩)
      go_ret
      exact ⟨ret_int H.out, rfl⟩
  · rcases Plain.month_cases m m1 m2 with rfl | rfl | rfl | rfl | rfl | rfl | rfl | rfl | rfl | rfl | rfl | rfl
    all_goals first | (exfalso; omega) | skip
    all_goals
      clear c
      go_enter Try.func33, Try.ntmps33
      go_wp2_with fail
      go_ret
      first
        | exact ⟨ret_int (dim30 _ _ (by decide)), rfl⟩
        | exact ⟨ret_int (dim31 _ _ (by decide) (by decide)), rfl⟩

/-- 15: ZZDaysInMonth -/
theorem zzDaysInMonth_any (y m : Int) (w : World) (h0 : -100000000 ≤ y) (h1 : y ≤ 100000000) (m1 : 1 ≤ m) (m2 : m ≤ 12) :
    Calls Try.prog 15 #[.int .i64 y, .int .i64 m] w fun e w' => e = .returned (.int .i64 (dim y m)) ∧ w' = w := by
  go_enter Try.func15, Try.ntmps15
  go_wp2_with (go_at_call 33; refine (daysInMonth_any _ _ _ h0 h1 m1 m2).mono ?_; rintro e w' ⟨rfl, rfl⟩)
  go_ret
  exact ⟨rfl, rfl⟩

/-- the sum of daysFrom1970, by its era -/
theorem dn_era (Y : Int) : Y / 400 * 146097 + ((Y - Y / 400 * 400) * 365 + (Y - Y / 400 * 400) / 4 - (Y - Y / 400 * 400) / 100) = S Y := by
  unfold Plain.S
  omega

/-- floorDiv by 400, its answer a letter -/
theorem floor400 (a : Int) (w : World) (h1 : -4000000000000 ≤ a) (h2 : a ≤ 4000000000000) :
    Calls Try.prog 35 #[.int .i64 a, .int .i64 400] w fun e w' => ∃ q : Int, e = .returned (.int .i64 q) ∧ w' = w ∧ q * 400 ≤ a ∧ a ≤ q * 400 + 399 := by
  refine (floorDiv_any a 400 w h1 h2 (by omega) (by omega)).mono ?_
  rintro e w' ⟨rfl, rfl⟩
  exact ⟨_, rfl, rfl, by omega, by omega⟩

theorem S_era (Y q y : Int) (h1 : y = Y - q * 400) (h2 : 0 ≤ y) (h3 : y ≤ 399) : q * 146097 + (y * 365 + y / 4 - y / 100) = S Y := by
  have e : Y = q * 400 + y := by omega
  have a4 : (q * 400 + y) / 4 = q * 100 + y / 4 := by omega
  have a100 : (q * 400 + y) / 100 = q * 4 + y / 100 := by omega
  have a400 : (q * 400 + y) / 400 = q := by omega
  unfold Plain.S
  rw [e, a4, a100, a400]; omega

theorem dn_hi (y m d q : Int) (c : ¬ m ≤ 2) (b1 : q * 400 ≤ y) (b2 : y ≤ q * 400 + 399) :
    q * 146097 + ((y - q * 400) * 365 + (y - q * 400) / 4 - (y - q * 400) / 100 + (153 * ((m + 9) % 12) + 2) / 5 + d - 1) - 719468 = dn y m d := by
  unfold Plain.dn
  rw [if_neg c, ← S_era y q (y - q * 400) rfl (by omega) (by omega)]
  omega

theorem dn_lo (y m d q : Int) (c : m ≤ 2) (b1 : q * 400 ≤ y - 1) (b2 : y - 1 ≤ q * 400 + 399) :
    q * 146097 + ((y - 1 - q * 400) * 365 + (y - 1 - q * 400) / 4 - (y - 1 - q * 400) / 100 + (153 * ((m + 9) % 12) + 2) / 5 + d - 1) - 719468 = dn y m d := by
  unfold Plain.dn
  rw [if_pos c, ← S_era (y - 1) q (y - 1 - q * 400) rfl (by omega) (by omega)]
  omega

/-- 34: daysFrom1970 -/
theorem daysFrom1970_any (y m d : Int) (w : World) (h0 : -100000000 ≤ y) (h1 : y ≤ 100000000) (m1 : 1 ≤ m) (m2 : m ≤ 12) (d1 : 0 ≤ d) (d2 : d ≤ 100) :
    Calls Try.prog 34 #[.int .i64 y, .int .i64 m, .int .i64 d] w fun e w' => e = .returned (.int .i64 (dn y m d)) ∧ w' = w := by
  by_cases c : m ≤ 2
  · go_enter Try.func34, Try.ntmps34
    go_wp2_with fail
    refine (floor400 _ _ (by omega) (by omega)).mono ?_
    rintro e w' ⟨q, rfl, rfl, b1, b2⟩
    go_wp2_with fail
    refine (dayOfYear_any _ _ (by omega) (by omega)).mono ?_
    rintro e w' ⟨rfl, rfl⟩
    go_wp2_with fail
    go_ret
    refine ⟨ret_int ?_, rfl⟩
    exact dn_lo y m d q (by omega) b1 b2
  · go_enter Try.func34, Try.ntmps34
    go_wp2_with fail
    refine (floor400 _ _ (by omega) (by omega)).mono ?_
    rintro e w' ⟨q, rfl, rfl, b1, b2⟩
    go_wp2_with fail
    refine (dayOfYear_any _ _ (by omega) (by omega)).mono ?_
    rintro e w' ⟨rfl, rfl⟩
    go_wp2_with fail
    go_ret
    refine ⟨ret_int ?_, rfl⟩
    exact dn_hi y m d q (by omega) b1 b2

/-- 16: ZZDaysFrom1970 -/
theorem zzDaysFrom1970_any (y m d : Int) (w : World) (h0 : -100000000 ≤ y) (h1 : y ≤ 100000000) (m1 : 1 ≤ m) (m2 : m ≤ 12) (d1 : 0 ≤ d) (d2 : d ≤ 100) :
    Calls Try.prog 16 #[.int .i64 y, .int .i64 m, .int .i64 d] w fun e w' => e = .returned (.int .i64 (dn y m d)) ∧ w' = w := by
  go_enter Try.func16, Try.ntmps16
  go_wp2_with (go_at_call 34; refine (daysFrom1970_any _ _ _ _ h0 h1 m1 m2 d1 d2).mono ?_; rintro e w' ⟨rfl, rfl⟩)
  go_ret
  exact ⟨rfl, rfl⟩

/-- floorDiv by 146097, its answer a letter -/
theorem floorEra (a : Int) (w : World) (h1 : -4000000000000 ≤ a) (h2 : a ≤ 4000000000000) :
    Calls Try.prog 35 #[.int .i64 a, .int .i64 146097] w fun e w' => ∃ q : Int, e = .returned (.int .i64 q) ∧ w' = w ∧ q * 146097 ≤ a ∧ a ≤ q * 146097 + 146096 := by
  refine (floorDiv_any a 146097 w h1 h2 (by omega) (by omega)).mono ?_
  rintro e w' ⟨rfl, rfl⟩
  exact ⟨_, rfl, rfl, by omega, by omega⟩

/-- 32: civil -/
theorem civil_any (n : Int) (w : World) (h0 : -4000000000 ≤ n) (h1 : n ≤ 4000000000) :
    Calls Try.prog 32 #[.int .i64 n] w fun e w' => ∃ y m d : Int, e = .returned (.tuple #[.int .i64 y, .int .i64 m, .int .i64 d]) ∧ w' = w ∧ valid y m d ∧ dn y m d = n := by
  go_enter Try.func32, Try.ntmps32
  go_wp2_with fail
  refine (floorEra _ _ (by omega) (by omega)).mono ?_
  rintro e w' ⟨q, rfl, rfl, b1, b2⟩
  go_wp2_with fail
  obtain ⟨y, r, hy, hr, y0, y1, r0, r1, hl, hs⟩ := Plain.era_of q (n + 719468 - q * 146097) (by omega) (by omega)
  rw [hy, hr, Int.tdiv_eq_ediv_of_nonneg (by omega : 0 ≤ 5 * r + 2)]
  generalize hm : (5 * r + 2) / 153 = m
  obtain ⟨m0, m1, k1, k2⟩ := Plain.month_of (q * 400 + y) r m r0 r1 hl hm
  have e : S (q * 400 + y) + r - 719468 = n := by clear hy hr hm hl k1 k2; omega
  rw [e] at k1 k2
  have K1 : Hid ((m + 2) % 12 + 1 ≤ 2 → valid (q * 400 + y + 1) ((m + 2) % 12 + 1) (r - (153 * m + 2) / 5 + 1) ∧ dn (q * 400 + y + 1) ((m + 2) % 12 + 1) (r - (153 * m + 2) / 5 + 1) = n) := k1
  have K2 : Hid (¬ (m + 2) % 12 + 1 ≤ 2 → valid (q * 400 + y) ((m + 2) % 12 + 1) (r - (153 * m + 2) / 5 + 1) ∧ dn (q * 400 + y) ((m + 2) % 12 + 1) (r - (153 * m + 2) / 5 + 1) = n) := k2
  clear hy hr hm hl k1 k2 e hs
  refine (dayOfYear_any _ _ (by omega) (by omega)).mono ?_
  rintro e w' ⟨rfl, rfl⟩
  go_wp2_with fail
  · rename_i hc
    go_ret3
    exact ⟨_, _, _, rfl, rfl, K1.out (by assumption)⟩
  · go_ret3
    exact ⟨_, _, _, rfl, rfl, K2.out (by omega)⟩
end Go.Proofs.Qxb6002458a.Cal
