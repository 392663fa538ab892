import Derived.Test.Qxb6002458aSearch
namespace Go.Proofs.Qxb6002458a.Search
open Go.ChangeShapes Go.WideShapes Go.ChangeAt Go.RowKit
set_option linter.unusedVariables false

/-- 27: zzBytes -/
theorem zzBytes_small (a : Option Addr) (len cap : Nat) (f t : Int) (w : World) (h : len ≤ 1048576) :
    Calls Try.prog 27 #[.slice a len cap, .int .i32 f, .int .i32 t] w fun e w' => e = .returned (.bool true) ∧ w' = w := by
  go_enter Try.func27, Try.ntmps27
  go_wp2
  go_ret
  exact ⟨rfl, rfl⟩
theorem zzBytes_big (a : Option Addr) (len cap : Nat) (f t : Int) (w : World) (h : ¬ len ≤ 1048576) (hm : len ≤ 9223372036854775807) :
    Calls Try.prog 27 #[.slice a len cap, .int .i32 f, .int .i32 t] w fun e w' => e = .returned (.bool false) ∧ w' = w := by
  go_enter Try.func27, Try.ntmps27
  go_wp2
  go_ret
  exact ⟨rfl, rfl⟩

/-- 28: ZZCalendarOf -/
theorem calendarOf_any (a : Option Addr) (len cap : Nat) (w : World) :
    Calls Try.prog 28 #[.slice a len cap] w fun e w' => e = .returned (.pointer (some ⟨w.heap.size, 0, none⟩)) ∧ w' = w.alloc (.cells #[.slice a len cap] 50) := by
  go_enter Try.func28, Try.ntmps28
  go_wp2
  go_ret
  exact ⟨rfl, rfl⟩

/-- what DaysAfter says -/
def After (zs : List Int) (f t : Int) (len : Nat) (w : World) (e : Ending) (w' : World) : Prop :=
  ∃ i j : Nat, ∃ r : Int, e = .returned (.int .i64 r) ∧ w' = w ∧ i ≤ len ∧ Lo zs (f + 1) i ∧ Hi zs (f + 1) i len ∧ j ≤ len ∧ Lo zs (t + 1) j ∧ Hi zs (t + 1) j len ∧ r = (if i ≤ j then (j : Int) - i else 0)

set_option maxHeartbeats 400000 in
/-- 29: DaysAfter -/
theorem daysAfter_any (zs : List Int) (b len cap p : Nat) (f t : Int) (w : World) (hl : len ≤ 65536)
    (hp : w.cell? ⟨p, 0, none⟩ = some (.slice (some ⟨b, 0, none⟩) len cap))
    (hc : ∀ i, i < len → w.cell? ⟨b, i, none⟩ = some (.int .i32 (zs.getD i 0))) (ha : Asc zs len)
    (f1 : -2147483648 ≤ f) (f2 : f < 2147483647) (t1 : -2147483648 ≤ t) (t2 : t < 2147483647) :
    Calls Try.prog 29 #[.pointer (some ⟨p, 0, none⟩), .int .i32 f, .int .i32 t] w (After zs f t len w) := by
  have HC : Hid (∀ i, i < len → w.cell? ⟨b, i, none⟩ = some (.int .i32 (zs.getD i 0))) := hc
  have HA : Hid (Asc zs len) := ha
  clear hc ha
  go_enter Try.func29, Try.ntmps29
  go_wp2_with fail
  refine (search_any zs b len cap _ _ hl HC.out HA.out).mono ?_
  rintro e w' ⟨i, fi, rfl, rfl, hi, lo1, hi1⟩
  have H1 : Hid (Lo zs (f + 1) i ∧ Hi zs (f + 1) i len) := ⟨lo1, hi1⟩
  clear lo1 hi1
  go_wp2_with fail
  refine (search_any zs b len cap _ _ hl HC.out HA.out).mono ?_
  rintro e w' ⟨j, fj, rfl, rfl, hj, lo2, hi2⟩
  have H2 : Hid (Lo zs (t + 1) j ∧ Hi zs (t + 1) j len) := ⟨lo2, hi2⟩
  clear lo2 hi2
  go_wp2_with fail
  · go_ret
    exact ⟨i, j, 0, rfl, rfl, hi, H1.out.1, H1.out.2, hj, H2.out.1, H2.out.2, by rw [if_neg (by omega)]⟩
  · go_ret
    exact ⟨i, j, (j : Int) - i, rfl, rfl, hi, H1.out.1, H1.out.2, hj, H2.out.1, H2.out.2, by rw [if_pos (by omega)]⟩

/-- 29: DaysAfter, of a calendar whose days are nil -/
theorem daysAfter_nil (p : Nat) (f t : Int) (w : World) (hp : w.cell? ⟨p, 0, none⟩ = some (.slice none 0 0)) :
    Calls Try.prog 29 #[.pointer (some ⟨p, 0, none⟩), .int .i32 f, .int .i32 t] w fun e w' => e = .returned (.int .i64 0) ∧ w' = w := by
  go_enter Try.func29, Try.ntmps29
  go_wp2_with fail
  refine (search_nil _ _).mono ?_
  rintro e w' ⟨fi, rfl, rfl⟩
  go_wp2_with fail
  refine (search_nil _ _).mono ?_
  rintro e w' ⟨fj, rfl, rfl⟩
  go_wp2_with fail
  go_ret
  exact ⟨rfl, rfl⟩

/-- how many of the first k elements lie behind f and not behind t -/
def cnt (zs : List Int) (f t : Int) : Nat → Int
  | 0 => 0
  | k + 1 => cnt zs f t k + if f < zs.getD k 0 ∧ zs.getD k 0 ≤ t then 1 else 0

theorem cnt_bd (zs : List Int) (f t : Int) : ∀ k, 0 ≤ cnt zs f t k ∧ cnt zs f t k ≤ k
  | 0 => ⟨Int.le_refl 0, Int.le_refl 0⟩
  | k + 1 => by
    have ih := cnt_bd zs f t k
    unfold cnt
    split <;> omega
theorem cnt_yes (zs : List Int) (f t : Int) (k : Nat) (h1 : f < zs.getD k 0) (h2 : zs.getD k 0 ≤ t) : cnt zs f t (k + 1) = cnt zs f t k + 1 := by
  show cnt zs f t k + (if f < zs.getD k 0 ∧ zs.getD k 0 ≤ t then 1 else 0) = _
  rw [if_pos ⟨h1, h2⟩]
theorem cnt_no (zs : List Int) (f t : Int) (k : Nat) (h : ¬ (f < zs.getD k 0 ∧ zs.getD k 0 ≤ t)) : cnt zs f t (k + 1) = cnt zs f t k := by
  show cnt zs f t k + (if f < zs.getD k 0 ∧ zs.getD k 0 ≤ t then 1 else 0) = _
  rw [if_neg h]; omega

theorem cnt_mid {zs : List Int} {f t : Int} {len i j : Nat} (l1 : Lo zs (f + 1) i) (h1 : Hi zs (f + 1) i len) (l2 : Lo zs (t + 1) j) (h2 : Hi zs (t + 1) j len) :
    ∀ k, k ≤ len → cnt zs f t k = if i ≤ min k j then (min k j : Nat) - (i : Int) else 0
  | 0, _ => by
    show (0 : Int) = _
    split <;> omega
  | k + 1, hk => by
    have ih := cnt_mid l1 h1 l2 h2 k (by omega)
    by_cases c : i ≤ k ∧ k < j
    · have a1 := h1 k c.1 (by omega)
      have a2 := l2 k c.2
      rw [cnt_yes zs f t k (by omega) (by omega), ih]
      rw [if_pos (by omega), if_pos (by omega)]
      omega
    · have : ¬ (f < zs.getD k 0 ∧ zs.getD k 0 ≤ t) := by
        rintro ⟨a, b⟩
        apply c
        constructor
        · rcases Nat.lt_or_ge k i with h | h
          · have := l1 k h; omega
          · exact h
        · rcases Nat.lt_or_ge k j with h | h
          · exact h
          · have := h2 k h (by omega); omega
      rw [cnt_no zs f t k this, ih]
      by_cases d : i ≤ min k j
      · rw [if_pos d, if_pos (by omega)]; omega
      · rw [if_neg d]
        split <;> omega

theorem cnt_all {zs : List Int} {f t : Int} {len i j : Nat} (l1 : Lo zs (f + 1) i) (h1 : Hi zs (f + 1) i len) (hj : j ≤ len) (l2 : Lo zs (t + 1) j) (h2 : Hi zs (t + 1) j len) :
    cnt zs f t len = if i ≤ j then (j : Int) - i else 0 := by
  rw [cnt_mid l1 h1 l2 h2 len (Nat.le_refl _), Nat.min_eq_right hj]
end Go.Proofs.Qxb6002458a.Search
