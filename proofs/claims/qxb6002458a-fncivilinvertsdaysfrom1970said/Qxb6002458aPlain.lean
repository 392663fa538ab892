import Derived.ProofKit
/-! The plain mathematics of the Gregorian calendar: no Go in sight. -/
namespace Go.Proofs.Qxb6002458a.Plain
set_option linter.unusedVariables false

/-- the days from 0000-03-01 to the first of March of year Y -/
def S (Y : Int) : Int := 365 * Y + Y / 4 - Y / 100 + Y / 400

def leap (y : Int) : Bool := decide (y % 4 = 0 ∧ (y % 100 ≠ 0 ∨ y % 400 = 0))

def lp (y : Int) : Int := if leap y = true then 1 else 0

def dim (y m : Int) : Int :=
  if m = 2 then 28 + lp y else if m = 4 ∨ m = 6 ∨ m = 9 ∨ m = 11 then 30 else 31

/-- the day's number, counted from 1970-01-01 -/
def dn (y m d : Int) : Int :=
  S (if m ≤ 2 then y - 1 else y) + (153 * ((m + 9) % 12) + 2) / 5 + d - 1 - 719468

def valid (y m d : Int) : Prop := 1 ≤ m ∧ m ≤ 12 ∧ 1 ≤ d ∧ d ≤ dim y m

theorem leap_iff (y : Int) : leap y = true ↔ (y % 4 = 0 ∧ (y % 100 ≠ 0 ∨ y % 400 = 0)) := by
  unfold leap; exact decide_eq_true_iff

theorem lp_cases (y : Int) : (lp y = 1 ∧ leap y = true ∧ y % 4 = 0 ∧ (y % 100 ≠ 0 ∨ y % 400 = 0)) ∨ (lp y = 0 ∧ leap y = false ∧ ¬ (y % 4 = 0 ∧ (y % 100 ≠ 0 ∨ y % 400 = 0))) := by
  by_cases h : leap y = true
  · exact .inl ⟨by unfold lp; rw [if_pos h], h, (leap_iff y).1 h⟩
  · exact .inr ⟨by unfold lp; rw [if_neg h], by simpa using h, fun c => h ((leap_iff y).2 c)⟩

theorem lp_bd (y : Int) : 0 ≤ lp y ∧ lp y ≤ 1 := by
  rcases lp_cases y with h | h <;> omega

theorem S_step (Y : Int) : S (Y + 1) = S Y + 365 + lp (Y + 1) := by
  unfold S
  rcases lp_cases (Y + 1) with h | h <;> omega

theorem S_mono (a b : Int) (h : a ≤ b) : S a ≤ S b := by
  unfold S; omega

theorem S_400 (Y : Int) : S (Y + 400) = S Y + 146097 := by
  unfold S; omega

theorem lp_400 (y : Int) : lp (y + 400) = lp y := by
  rcases lp_cases (y + 400) with h | h <;> rcases lp_cases y with h' | h' <;> omega

theorem dim_400 (y m : Int) : dim (y + 400) m = dim y m := by
  unfold dim; rw [lp_400]

theorem dim_bd (y m : Int) : 28 ≤ dim y m ∧ dim y m ≤ 31 := by
  unfold dim
  have := lp_bd y
  repeat (split)
  all_goals omega

theorem month_cases (m : Int) (h1 : 1 ≤ m) (h2 : m ≤ 12) :
    m = 1 ∨ m = 2 ∨ m = 3 ∨ m = 4 ∨ m = 5 ∨ m = 6 ∨ m = 7 ∨ m = 8 ∨ m = 9 ∨ m = 10 ∨ m = 11 ∨ m = 12 := by omega

/-- the days of the year ahead of the month's first -/
def cum (y m : Int) : Int := if m = 1 then 0 else if m = 2 then 31 else 59 + lp y + (153 * (m - 3) + 2) / 5

/-- the number of the year's first day -/
def J (y : Int) : Int := S (y - 1) + 306 - 719468

theorem J_step (y : Int) : J (y + 1) = J y + 365 + lp y := by
  unfold J
  have := S_step (y - 1)
  rw [show y - 1 + 1 = y by omega] at this
  rw [show y + 1 - 1 = y by omega, this]; omega

theorem J_mono (a b : Int) (h : a ≤ b) : J a ≤ J b := by
  unfold J
  have := S_mono (a - 1) (b - 1) (by omega)
  omega

theorem dn_cum (y m d : Int) (h1 : 1 ≤ m) (h2 : m ≤ 12) : dn y m d = J y + cum y m + d - 1 := by
  have hs := S_step (y - 1)
  rw [show y - 1 + 1 = y by omega] at hs
  unfold dn J cum
  by_cases c : m ≤ 2
  · rw [if_pos c]
    rcases (by omega : m = 1 ∨ m = 2) with rfl | rfl <;> simp <;> omega
  · rw [if_neg c, if_neg (by omega), if_neg (by omega), hs]
    rw [show (m + 9) % 12 = m - 3 by omega]
    omega

theorem cum_step (y m : Int) (h1 : 1 ≤ m) (h2 : m ≤ 11) : cum y (m + 1) = cum y m + dim y m := by
  unfold cum dim
  rcases month_cases m h1 (by omega) with rfl | rfl | rfl | rfl | rfl | rfl | rfl | rfl | rfl | rfl | rfl | rfl <;> simp <;> omega

theorem cum_last (y : Int) : cum y 12 + dim y 12 = 365 + lp y := by
  unfold cum dim; simp; omega

theorem cum_nonneg (y m : Int) (h1 : 1 ≤ m) : 0 ≤ cum y m := by
  unfold cum
  have := lp_bd y
  repeat (split)
  all_goals omega

theorem cum_mono (y a b : Int) (h1 : 1 ≤ a) (h2 : a < b) (h3 : b ≤ 12) : cum y a + dim y a ≤ cum y b := by
  rw [← cum_step y a h1 (by omega)]
  unfold cum
  have := lp_bd y
  repeat (split)
  all_goals omega

theorem cum_le (y m : Int) (h1 : 1 ≤ m) (h2 : m ≤ 12) : cum y m + dim y m ≤ 365 + lp y := by
  by_cases c : m = 12
  · subst c; have := cum_last y; omega
  · have := cum_mono y m 12 h1 (by omega) (by omega)
    have h := cum_last y
    have h' := dim_bd y 12
    omega

/-- a real day lies in its own year -/
theorem in_year {y m d : Int} (v : valid y m d) : J y ≤ dn y m d ∧ dn y m d < J (y + 1) := by
  obtain ⟨h1, h2, h3, h4⟩ := v
  rw [dn_cum y m d h1 h2, J_step]
  have := cum_nonneg y m h1
  have := cum_le y m h1 h2
  omega

/-- the order of dates is the order of their numbers -/
theorem lt_year {y m d y' m' d' : Int} (v : valid y m d) (v' : valid y' m' d') (h : y < y') : dn y m d < dn y' m' d' := by
  have a := in_year v
  have b := in_year v'
  have := J_mono (y + 1) y' (by omega)
  omega

theorem lt_month {y m d m' d' : Int} (v : valid y m d) (v' : valid y m' d') (h : m < m') : dn y m d < dn y m' d' := by
  obtain ⟨h1, h2, h3, h4⟩ := v
  obtain ⟨k1, k2, k3, k4⟩ := v'
  rw [dn_cum y m d h1 h2, dn_cum y m' d' k1 k2]
  have := cum_mono y m m' h1 h k2
  omega

theorem lt_day {y m d d' : Int} (h : d < d') : dn y m d < dn y m d' := by
  unfold dn; omega

theorem dn_inj {y m d y' m' d' : Int} (v : valid y m d) (v' : valid y' m' d') (h : dn y m d = dn y' m' d') : y = y' ∧ m = m' ∧ d = d' := by
  have ey : y = y' := by
    rcases Int.lt_trichotomy y y' with c | c | c
    · have := lt_year v v' c; omega
    · exact c
    · have := lt_year v' v c; omega
  subst ey
  have em : m = m' := by
    rcases Int.lt_trichotomy m m' with c | c | c
    · have := lt_month v v' c; omega
    · exact c
    · have := lt_month v' v c; omega
  subst em
  refine ⟨rfl, rfl, ?_⟩
  rcases Int.lt_trichotomy d d' with c | c | c
  · have := lt_day (y := y) (m := m) c; omega
  · exact c
  · have := lt_day (y := y) (m := m) c; omega

theorem dn_next_month (y m : Int) (h1 : 1 ≤ m) (h2 : m ≤ 11) : dn y (m + 1) 1 = dn y m 1 + dim y m := by
  rw [dn_cum y m 1 h1 (by omega), dn_cum y (m + 1) 1 (by omega) (by omega), cum_step y m h1 h2]; omega

theorem dn_next_year (y : Int) : dn (y + 1) 1 1 = dn y 12 1 + dim y 12 := by
  rw [dn_cum y 12 1 (by omega) (by omega), dn_cum (y + 1) 1 1 (by omega) (by omega), J_step]
  have := cum_last y
  have e : cum (y + 1) 1 = 0 := by unfold cum; simp
  omega

theorem dn_400 (y m d : Int) : dn (y + 400) m d = dn y m d + 146097 := by
  unfold dn
  by_cases c : m ≤ 2
  · rw [if_pos c, if_pos c, show y + 400 - 1 = y - 1 + 400 by omega, S_400]; omega
  · rw [if_neg c, if_neg c, S_400]; omega

/-! ### from the day of the era to its year: the day d is the r-th of year 100c + 4k + j -/
theorem parts (d : Int) (h0 : 0 ≤ d) (h1 : d ≤ 146096) :
    ∃ c k j r : Int, 0 ≤ c ∧ c ≤ 3 ∧ 0 ≤ k ∧ k ≤ 24 ∧ 0 ≤ j ∧ j ≤ 3 ∧ 0 ≤ r ∧ r ≤ 365 ∧ d = 36524 * c + 1461 * k + 365 * j + r ∧ (r = 365 → j = 3 ∧ (k ≤ 23 ∨ c = 3)) := by
  obtain ⟨c, c0, c1, c2, c3⟩ : ∃ c : Int, 0 ≤ c ∧ c ≤ 3 ∧ 36524 * c ≤ d ∧ (d < 36524 * c + 36524 ∨ (c = 3 ∧ d ≤ 146096)) := by
    by_cases h : d < 109572
    · exact ⟨d / 36524, by omega, by omega, by omega, by omega⟩
    · exact ⟨3, by omega, by omega, by omega, by omega⟩
  obtain ⟨k, k0, k1, k2, k3⟩ : ∃ k : Int, 0 ≤ k ∧ k ≤ 24 ∧ 1461 * k ≤ d - 36524 * c ∧ d - 36524 * c < 1461 * k + 1461 := by
    exact ⟨(d - 36524 * c) / 1461, by omega, by omega, by omega, by omega⟩
  by_cases h : d - 36524 * c - 1461 * k < 1095
  · exact ⟨c, k, (d - 36524 * c - 1461 * k) / 365, d - 36524 * c - 1461 * k - 365 * ((d - 36524 * c - 1461 * k) / 365), by omega, by omega, by omega, by omega, by omega, by omega, by omega, by omega, by omega, by omega⟩
  · exact ⟨c, k, 3, d - 36524 * c - 1461 * k - 1095, by omega, by omega, by omega, by omega, by omega, by omega, by omega, by omega, by omega, by omega⟩

theorem year_of (c k j r d : Int) (c0 : 0 ≤ c) (c1 : c ≤ 3) (k0 : 0 ≤ k) (k1 : k ≤ 24) (j0 : 0 ≤ j) (j1 : j ≤ 3) (r0 : 0 ≤ r) (r1 : r ≤ 365)
    (hd : d = 36524 * c + 1461 * k + 365 * j + r) (hr : r = 365 → j = 3 ∧ (k ≤ 23 ∨ c = 3)) :
    (d - d / 1460 + d / 36524 - d / 146096) / 365 = 100 * c + 4 * k + j := by
  by_cases hl : d = 146096
  · have : c = 3 := by omega
    have : k = 24 := by omega
    have : j = 3 := by omega
    subst_vars; omega
  · have e2 : d / 146096 = 0 := by omega
    have e1 : d / 36524 = c := by omega
    rw [e1, e2]
    by_cases hj : j = 3
    · by_cases he : 24 * c + k + 1095 + r < 1460
      · have : d / 1460 = 25 * c + k := by omega
        omega
      · have : d / 1460 = 25 * c + k + 1 := by omega
        omega
    · have : d / 1460 = 25 * c + k := by omega
      omega

theorem era_day (c k j r d : Int) (k0 : 0 ≤ k) (k1 : k ≤ 24) (j0 : 0 ≤ j) (j1 : j ≤ 3) (hd : d = 36524 * c + 1461 * k + 365 * j + r) :
    d - ((100 * c + 4 * k + j) * 365 + (100 * c + 4 * k + j) / 4 - (100 * c + 4 * k + j) / 100) = r := by
  have e4 : (100 * c + 4 * k + j) / 4 = 25 * c + k := by omega
  have e100 : (100 * c + 4 * k + j) / 100 = c := by omega
  rw [e4, e100]; omega

theorem era_leap (q c k j : Int) (c0 : 0 ≤ c) (c1 : c ≤ 3) (k0 : 0 ≤ k) (k1 : k ≤ 24) (hj : j = 3) (hk : k ≤ 23 ∨ c = 3) : leap (q * 400 + (100 * c + 4 * k + j) + 1) = true := by
  rw [leap_iff]
  subst hj
  refine ⟨by omega, ?_⟩
  by_cases h24 : k ≤ 23
  · clear hk; exact .inl (by omega)
  · exact .inr (by omega)

theorem era_sum (q c k j r d : Int) (c0 : 0 ≤ c) (c1 : c ≤ 3) (k0 : 0 ≤ k) (k1 : k ≤ 24) (j0 : 0 ≤ j) (j1 : j ≤ 3) (hd : d = 36524 * c + 1461 * k + 365 * j + r) :
    S (q * 400 + (100 * c + 4 * k + j)) + r = 146097 * q + d := by
  unfold S
  have a4 : (q * 400 + (100 * c + 4 * k + j)) / 4 = 100 * q + (25 * c + k) := by omega
  have a100 : (q * 400 + (100 * c + 4 * k + j)) / 100 = 4 * q + c := by omega
  have a400 : (q * 400 + (100 * c + 4 * k + j)) / 400 = q := by omega
  rw [a4, a100, a400]; omega

theorem era_of (q d : Int) (h0 : 0 ≤ d) (h1 : d ≤ 146096) : ∃ y r : Int,
    (d - d / 1460 + d / 36524 - d / 146096) / 365 = y ∧ d - (y * 365 + y / 4 - y / 100) = r ∧ 0 ≤ y ∧ y ≤ 399 ∧ 0 ≤ r ∧ r ≤ 365 ∧ (r = 365 → leap (q * 400 + y + 1) = true) ∧ S (q * 400 + y) + r = 146097 * q + d := by
  obtain ⟨c, k, j, r, c0, c1, k0, k1, j0, j1, r0, r1, hd, hr⟩ := parts d h0 h1
  refine ⟨100 * c + 4 * k + j, r, year_of c k j r d c0 c1 k0 k1 j0 j1 r0 r1 hd hr, era_day c k j r d k0 k1 j0 j1 hd, by clear hr; omega, by clear hr; omega, r0, r1, ?_, era_sum q c k j r d c0 c1 k0 k1 j0 j1 hd⟩
  intro h
  exact era_leap q c k j c0 c1 k0 k1 (hr h).1 (hr h).2

theorem mp_cases (m : Int) (h1 : 0 ≤ m) (h2 : m ≤ 11) :
    m = 0 ∨ m = 1 ∨ m = 2 ∨ m = 3 ∨ m = 4 ∨ m = 5 ∨ m = 6 ∨ m = 7 ∨ m = 8 ∨ m = 9 ∨ m = 10 ∨ m = 11 := by omega

theorem month_of (Y r m : Int) (h0 : 0 ≤ r) (h1 : r ≤ 365) (hl : r = 365 → leap (Y + 1) = true) (hm : (5 * r + 2) / 153 = m) :
    0 ≤ m ∧ m ≤ 11 ∧
    ((m + 2) % 12 + 1 ≤ 2 → valid (Y + 1) ((m + 2) % 12 + 1) (r - (153 * m + 2) / 5 + 1) ∧ dn (Y + 1) ((m + 2) % 12 + 1) (r - (153 * m + 2) / 5 + 1) = S Y + r - 719468) ∧
    (¬ (m + 2) % 12 + 1 ≤ 2 → valid Y ((m + 2) % 12 + 1) (r - (153 * m + 2) / 5 + 1) ∧ dn Y ((m + 2) % 12 + 1) (r - (153 * m + 2) / 5 + 1) = S Y + r - 719468) := by
  have m0 : 0 ≤ m := by omega
  have m1 : m ≤ 11 := by omega
  have hlp : r = 365 → lp (Y + 1) = 1 := fun h => by unfold lp; rw [if_pos (hl h)]
  have b1 := lp_bd (Y + 1)
  refine ⟨m0, m1, fun hc => ?_, fun hc => ?_⟩
  · have hm2 : m = 10 ∨ m = 11 := by
      rcases mp_cases m m0 m1 with rfl | rfl | rfl | rfl | rfl | rfl | rfl | rfl | rfl | rfl | rfl | rfl <;> simp at hc ⊢
    have hY : (if (m + 2) % 12 + 1 ≤ 2 then Y + 1 - 1 else Y + 1) = Y := by rw [if_pos hc]; omega
    refine ⟨⟨by omega, by omega, by omega, ?_⟩, ?_⟩
    · unfold dim
      rcases hm2 with rfl | rfl <;> simp <;> omega
    · unfold dn
      rw [hY]
      rcases hm2 with rfl | rfl <;> simp <;> omega
  · have hY : (if (m + 2) % 12 + 1 ≤ 2 then Y - 1 else Y) = Y := by rw [if_neg hc]
    refine ⟨⟨by omega, by omega, by omega, ?_⟩, ?_⟩
    · unfold dim
      rcases mp_cases m m0 m1 with rfl | rfl | rfl | rfl | rfl | rfl | rfl | rfl | rfl | rfl | rfl | rfl <;> simp at hc ⊢ <;> omega
    · unfold dn
      rw [hY]
      rcases mp_cases m m0 m1 with rfl | rfl | rfl | rfl | rfl | rfl | rfl | rfl | rfl | rfl | rfl | rfl <;> simp at hc ⊢ <;> omega
end Go.Proofs.Qxb6002458a.Plain
