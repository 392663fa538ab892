import Derived.Test.Qxb6002458aRows
import Derived.WalkKit
import Derived.ProofKit
import Derived.OpenShut
import Derived.ShutString
namespace Go.Proofs.Qxb6002458a.Search
open Go.ChangeShapes Go.WideShapes Go.ChangeAt Go.RowKit
set_option linter.unusedVariables false

theorem ret_bool {a b : Bool} (h : a = b) : Ending.returned (.bool a) = .returned (.bool b) := by rw [h]

/-- 43: cmp.isNaN of an integer -/
theorem cmpNaN_any (x : Int) (w : World) : Calls Try.prog 43 #[.int .i32 x] w fun e w' => e = .returned (.bool false) ∧ w' = w := by
  have t : (x != x) = false := by simp
  go_enter Try.func43, Try.ntmps43
  go_wp2
  go_ret
  exact ⟨rfl, rfl⟩
/-- 42: slices.isNaN of an integer -/
theorem slNaN_any (x : Int) (w : World) : Calls Try.prog 42 #[.int .i32 x] w fun e w' => e = .returned (.bool false) ∧ w' = w := by
  have t : (x != x) = false := by simp
  go_enter Try.func42, Try.ntmps42
  go_wp2
  go_ret
  exact ⟨rfl, rfl⟩
/-- 41: cmp.Less of integers -/
theorem less_any (x y : Int) (w : World) : Calls Try.prog 41 #[.int .i32 x, .int .i32 y] w fun e w' => e = .returned (.bool (decide (x < y))) ∧ w' = w := by
  go_enter Try.func41, Try.ntmps41
  go_wp2_with (go_at_call 43; refine (cmpNaN_any _ _).mono ?_; rintro e w' ⟨rfl, rfl⟩)
  go_ret
  exact ⟨rfl, rfl⟩

def Lo (zs : List Int) (t : Int) (l : Nat) : Prop := ∀ k, k < l → zs.getD k 0 < t
def Hi (zs : List Int) (t : Int) (h len : Nat) : Prop := ∀ k, h ≤ k → k < len → t ≤ zs.getD k 0
def Asc (zs : List Int) (len : Nat) : Prop := ∀ i j, i < j → j < len → zs.getD i 0 < zs.getD j 0

/-- what the search says: the place of the first element that is not below t -/
def Post (zs : List Int) (t : Int) (len : Nat) (w : World) (e : Ending) (w' : World) : Prop :=
  ∃ (i : Nat) (f : Bool), e = .returned (.tuple #[.int .i64 i, .bool f]) ∧ w' = w ∧ i ≤ len ∧ Lo zs t i ∧ Hi zs t i len
theorem lo_step {zs : List Int} {t : Int} {len m : Nat} (ha : Asc zs len) (hm : m < len) (h : zs.getD m 0 < t) : Lo zs t (m + 1) := by
  intro k hk
  by_cases e : k = m
  · rw [e]; exact h
  · have := ha k m (by omega) hm; omega
theorem hi_step {zs : List Int} {t : Int} {len m : Nat} (ha : Asc zs len) (h : t ≤ zs.getD m 0) : Hi zs t m len := by
  intro k h1 h2
  by_cases e : m = k
  · rw [← e]; exact h
  · have := ha m k (by omega) h2; omega

set_option maxHeartbeats 400000 in
/-- 38: slices.BinarySearch -/
theorem search_any (zs : List Int) (b len cap : Nat) (t : Int) (w : World) (hl : len ≤ 65536)
    (hc : ∀ i, i < len → w.cell? ⟨b, i, none⟩ = some (.int .i32 (zs.getD i 0))) (ha : Asc zs len) :
    Calls Try.prog 38 #[.slice (some ⟨b, 0, none⟩) len cap, .int .i32 t] w (Post zs t len w) := by
  have HC : Hid (∀ i, i < len → w.cell? ⟨b, i, none⟩ = some (.int .i32 (zs.getD i 0))) := hc
  have HA : Hid (Asc zs len) := ha
  clear hc ha
  go_enter Try.func38, Try.ntmps38
  go_wp2
  go_loop [7, 8] (fun i j => ∃ l h : Nat, l ≤ h ∧ h ≤ len ∧ i = .int .i64 l ∧ j = .int .i64 h ∧ Lo zs t l ∧ Hi zs t h len) (fun i j => (intOf j).toNat - (intOf i).toNat)
  case atStart => exact ⟨0, len, Nat.zero_le _, Nat.le_refl _, rfl, rfl, fun k hk => absurd hk (Nat.not_lt_zero k), fun k h1 h2 => absurd h1 (by omega)⟩
  case round =>
    obtain ⟨l, h, hlh, hh, rfl, rfl, hlo, hhi⟩ := hrel
    have HLo : Hid (Lo zs t l) := hlo
    have HHi : Hid (Hi zs t h len) := hhi
    clear hlo hhi
    by_cases hlt : l < h
    · obtain ⟨x, hx⟩ : ∃ x, x = zs.getD ((l + h) / 2) 0 := ⟨_, rfl⟩
      have hcell : w.cell? ⟨b, (l + h) / 2, none⟩ = some (.int .i32 x) := by rw [hx]; exact HC.out _ (by omega)
      by_cases hxt : x < t
      · have N : Hid (Lo zs t ((l + h) / 2 + 1)) := lo_step HA.out (by omega) (by rw [← hx]; exact hxt)
        have t1 : decide (x < t) = true := by simpa using hxt
        clear hx hxt
        go_wp2_with (go_at_call 41; refine (less_any _ _ _).mono ?_; rintro e w' ⟨rfl, rfl⟩)
        go_round
        case rel => exact ⟨(l + h) / 2 + 1, h, by omega, hh, by go_num, rfl, N.out, HHi.out⟩
        case measure => simp [intOf]; omega
      · have N : Hid (Hi zs t ((l + h) / 2) len) := hi_step HA.out (by rw [← hx]; omega)
        have t1 : decide (x < t) = false := by simpa using hxt
        clear hx hxt
        go_wp2_with (go_at_call 41; refine (less_any _ _ _).mono ?_; rintro e w' ⟨rfl, rfl⟩)
        go_round
        case rel => exact ⟨l, (l + h) / 2, by omega, by omega, rfl, by go_num, HLo.out, N.out⟩
        case measure => simp [intOf]; omega
    · have e : h = l := by omega
      subst e
      by_cases hn : h < len
      · obtain ⟨x, hx⟩ : ∃ x, x = zs.getD h 0 := ⟨_, rfl⟩
        have hcell : w.cell? ⟨b, h, none⟩ = some (.int .i32 x) := by rw [hx]; exact HC.out _ (by omega)
        by_cases hxt : x = t
        · have t1 : (x == t) = true := by simpa using hxt
          clear hx hxt
          go_wp2_with fail
          go_ret2
          exact ⟨h, _, rfl, rfl, hh, HLo.out, HHi.out⟩
        · have t1 : (x == t) = false := by simpa using hxt
          clear hx hxt
          go_wp2_with (go_at_call 42; refine (slNaN_any _ _).mono ?_; rintro e w' ⟨rfl, rfl⟩)
          go_ret2
          exact ⟨h, _, rfl, rfl, hh, HLo.out, HHi.out⟩
      · go_wp2_with fail
        go_ret2
        exact ⟨h, _, rfl, rfl, hh, HLo.out, HHi.out⟩

/-- 38: slices.BinarySearch, of a nil slice -/
theorem search_nil (t : Int) (w : World) :
    Calls Try.prog 38 #[.slice none 0 0, .int .i32 t] w fun e w' => ∃ f : Bool, e = .returned (.tuple #[.int .i64 0, .bool f]) ∧ w' = w := by
  go_enter Try.func38, Try.ntmps38
  go_wp2
  refine wp_loop_rounds 1 ?_
  rw [rounds_succ]
  go_wp2
  go_ret2
  exact ⟨_, rfl, rfl⟩
end Go.Proofs.Qxb6002458a.Search
