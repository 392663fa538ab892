import Derived.Test.Qxb6002458aWalk11
namespace Go.Proofs.Qxb6002458a.Search
open Go.ChangeShapes Go.WideShapes Go.ChangeAt Go.RowKit
set_option linter.unusedVariables false

theorem empty_r {zs : List Int} {f t : Int} {w w' : World} {e : Ending} (h : After zs f t 0 w e w') : e = .returned (.int .i64 0) ∧ w' = w := by
  obtain ⟨i, j, r, rfl, rfl, hi, _, _, hj, _, _, hr⟩ := h
  have : r = 0 := by rw [hr]; split <;> omega
  subst this
  exact ⟨rfl, rfl⟩

set_option maxHeartbeats 1000000 in
/-- an empty slice that is not nil -/
theorem walk_empty (x : Addr) (cap : Nat) (f t : Int) (w : World)
    (f1 : -2147483648 ≤ f) (f2 : f < 2147483647) (t1 : -2147483648 ≤ t) (t2 : t < 2147483647) :
    Calls Try.prog 11 #[.slice (some x) 0 cap, .int .i32 f, .int .i32 t] w fun e w' => e = .returned (.bool true) ∧ Below w.heap.size w w' := by
  have e1 : (f == 2147483647) = false := by simp; omega
  have e2 : (t == 2147483647) = false := by simp; omega
  have hneq : ∀ (W : World) (a : Option Addr) (n c : Nat), (binOp .neq 40 (.slice a n c) (.slice none 0 0)).run Try.prog W = .ok (.bool (!a.isNone)) W := fun W a n c => run_neq_slice_nil_any W 40 21 a n c 0 0 Try.underlying40
  have hmk1 : ∀ W : World, (Instr.makeSlice 40 (.int .i64 0) (.int .i64 0)).run Try.prog W = .ok (.slice (some ⟨W.heap.size, 0, none⟩) 0 0) (W.alloc (.cells (filled [] 0 0) 21)) := fun W => by
    rw [← filled_made]; exact run_make_row' (P := Try.prog) 40 21 (.int .i32 0) 4 Try.underlying40 info21 rfl .i64 .i64 0 (by omega) (by omega) W
  have hmk2 : ∀ W : World, (Instr.makeSlice 42 (.int .i64 0) (.int .i64 0)).run Try.prog W = .ok (.slice (some ⟨W.heap.size, 0, none⟩) 0 0) (W.alloc (.cells (filled [] 0 0) 37)) := fun W => by
    rw [← filled_made]; exact run_make_row' (P := Try.prog) 42 37 (.int .i32 0) 4 Try.underlying42 info37 rfl .i64 .i64 0 (by omega) (by omega) W
  go_enter Try.func11, Try.ntmps11
  go_wp2_with fail
  refine (zzBytes_small _ _ _ _ _ _ (by omega)).mono ?_
  rintro e w ⟨rfl, rfl⟩
  go_wp2_with fail
  refine wp_loop_rounds 1 ?_
  rw [rounds_succ]
  go_wp2_with fail
  refine wp_loop_rounds 1 ?_
  rw [rounds_succ]
  go_wp2_with fail
  refine wp_loop_rounds 1 ?_
  rw [rounds_succ]
  go_wp2_with fail
  refine (calendarOf_any _ _ _ _).mono ?_
  rintro e w3 ⟨rfl, hw3⟩
  have hp : w3.cell? ⟨w.heap.size + 1 + 1, 0, none⟩ = some (.slice (some ⟨w.heap.size + 1, 0, none⟩) 0 0) := by
    rw [hw3, World.cell?_alloc_at _ _ _ _ (by simp)]; rfl
  have hb3 : Below w.heap.size w w3 := by
    rw [hw3]
    exact (((Below.refl _ _).alloc (Nat.le_refl _) _).alloc (by simp) _).alloc (by simp; omega) _
  have HP : Hid (w3.cell? ⟨w.heap.size + 1 + 1, 0, none⟩ = some (.slice (some ⟨w.heap.size + 1, 0, none⟩) 0 0)) := hp
  have HB3 : Hid (Below w.heap.size w w3) := hb3
  clear hp hb3 hw3
  go_wp2_with fail
  refine (daysAfter_any [] (w.heap.size + 1) 0 0 (w.heap.size + 1 + 1) f t w3 (by omega) HP.out (fun i hi => absurd hi (Nat.not_lt_zero i)) (fun i j _ hj => absurd hj (Nat.not_lt_zero j)) f1 f2 t1 t2).mono ?_
  intro e w4 h4
  obtain ⟨rfl, rfl⟩ := empty_r h4
  clear h4
  go_wp2_with fail
  refine wp_loop_rounds 1 ?_
  rw [rounds_succ]
  go_wp2_with fail
  go_ret
  exact ⟨rfl, HB3.out⟩

set_option maxHeartbeats 1000000 in
/-- a nil slice -/
theorem walk_nil (f t : Int) (w : World)
    (f1 : -2147483648 ≤ f) (f2 : f < 2147483647) (t1 : -2147483648 ≤ t) (t2 : t < 2147483647) :
    Calls Try.prog 11 #[.slice none 0 0, .int .i32 f, .int .i32 t] w fun e w' => e = .returned (.bool true) ∧ Below w.heap.size w w' := by
  have e1 : (f == 2147483647) = false := by simp; omega
  have e2 : (t == 2147483647) = false := by simp; omega
  have hneq : ∀ (W : World) (a : Option Addr) (n c : Nat), (binOp .neq 40 (.slice a n c) (.slice none 0 0)).run Try.prog W = .ok (.bool (!a.isNone)) W := fun W a n c => run_neq_slice_nil_any W 40 21 a n c 0 0 Try.underlying40
  go_enter Try.func11, Try.ntmps11
  go_wp2_with fail
  refine (zzBytes_small _ _ _ _ _ _ (by omega)).mono ?_
  rintro e w ⟨rfl, rfl⟩
  go_wp2_with fail
  refine wp_loop_rounds 1 ?_
  rw [rounds_succ]
  go_wp2_with fail
  refine (calendarOf_any _ _ _ _).mono ?_
  rintro e w3 ⟨rfl, hw3⟩
  have hp : w3.cell? ⟨w.heap.size, 0, none⟩ = some (.slice none 0 0) := by
    rw [hw3, World.cell?_alloc_at _ _ _ _ rfl]; rfl
  have hb3 : Below w.heap.size w w3 := by
    rw [hw3]
    exact (Below.refl _ _).alloc (Nat.le_refl _) _
  have HP : Hid (w3.cell? ⟨w.heap.size, 0, none⟩ = some (.slice none 0 0)) := hp
  have HB3 : Hid (Below w.heap.size w w3) := hb3
  clear hp hb3 hw3
  go_wp2_with fail
  refine (daysAfter_nil _ f t w3 HP.out).mono ?_
  rintro e w4 ⟨rfl, rfl⟩
  go_wp2_with fail
  refine wp_loop_rounds 1 ?_
  rw [rounds_succ]
  go_wp2_with fail
  go_ret
  exact ⟨rfl, HB3.out⟩

/-- a slice that is too long -/
theorem walk_big (a : Option Addr) (len cap : Nat) (f t : Int) (w : World) (h : ¬ len ≤ 1048576) (hm : len ≤ 9223372036854775807) :
    Calls Try.prog 11 #[.slice a len cap, .int .i32 f, .int .i32 t] w fun e w' => e = .returned (.bool true) ∧ Below w.heap.size w w' := by
  go_enter Try.func11, Try.ntmps11
  go_wp2_with fail
  refine (zzBytes_big _ _ _ _ _ _ h hm).mono ?_
  rintro e w ⟨rfl, rfl⟩
  go_wp2_with fail
  go_ret
  exact ⟨rfl, Below.refl _ _⟩
theorem walk_long (a : Option Addr) (len cap : Nat) (f t : Int) (w : World) (h : len ≤ 1048576) (h' : ¬ len ≤ 65536) :
    Calls Try.prog 11 #[.slice a len cap, .int .i32 f, .int .i32 t] w fun e w' => e = .returned (.bool true) ∧ Below w.heap.size w w' := by
  go_enter Try.func11, Try.ntmps11
  go_wp2_with fail
  refine (zzBytes_small _ _ _ _ _ _ h).mono ?_
  rintro e w ⟨rfl, rfl⟩
  go_wp2_with fail
  go_ret
  exact ⟨rfl, Below.refl _ _⟩
/-- a bound that is the greatest int32 -/
theorem walk_from (a : Option Addr) (len cap : Nat) (t : Int) (w : World) (h : len ≤ 65536) :
    Calls Try.prog 11 #[.slice a len cap, .int .i32 2147483647, .int .i32 t] w fun e w' => e = .returned (.bool true) ∧ Below w.heap.size w w' := by
  go_enter Try.func11, Try.ntmps11
  go_wp2_with fail
  refine (zzBytes_small _ _ _ _ _ _ (by omega)).mono ?_
  rintro e w ⟨rfl, rfl⟩
  go_wp2_with fail
  go_ret
  exact ⟨rfl, Below.refl _ _⟩
theorem walk_to (a : Option Addr) (len cap : Nat) (f : Int) (w : World) (h : len ≤ 65536) (hf : (f == 2147483647) = false) :
    Calls Try.prog 11 #[.slice a len cap, .int .i32 f, .int .i32 2147483647] w fun e w' => e = .returned (.bool true) ∧ Below w.heap.size w w' := by
  go_enter Try.func11, Try.ntmps11
  go_wp2_with fail
  refine (zzBytes_small _ _ _ _ _ _ (by omega)).mono ?_
  rintro e w ⟨rfl, rfl⟩
  go_wp2_with fail
  go_ret
  exact ⟨rfl, Below.refl _ _⟩
end Go.Proofs.Qxb6002458a.Search
