/-
  The proof of 'Rows.FnDaysFrom1970OrdersAsDatesSaid'. The frame is the given shell's (written by program); the walk is ours.
-/
import Derived.Test.Qxb6002458aRows
import Derived.WalkKit
import Derived.ProofKit
import Derived.OpenShut
import Derived.ShutString
import Derived.Test.Qxb6002458aHead
import Derived.Test.Qxb6002458aBd
namespace Go.Proofs.Qxb6002458a.fnDaysFrom1970OrdersAsDates
open Go.ChangeShapes Go.WideShapes Go.ChangeAt Go.RowKit
open Go.ChangeMaps (open_string shut_string)
set_option linter.unusedVariables false      -- a walk need not use every 'w<i>' (that an integer argument fits its kind)

theorem own : ownKnob Try.prog.godebug = none := by kernel_rfl

open Plain (S leap lp dim dn valid J)
def okB (y m d : Int) : Bool := decide (-1048576 ≤ y ∧ y ≤ 1048576 ∧ 1 ≤ m ∧ m ≤ 12 ∧ 1 ≤ d ∧ d ≤ 31 ∧ d ≤ dim y m)
theorem okB_yes {y m d : Int} (h : okB y m d = true) : -1048576 ≤ y ∧ y ≤ 1048576 ∧ 1 ≤ m ∧ m ≤ 12 ∧ 1 ≤ d ∧ d ≤ 31 ∧ d ≤ dim y m := by
  unfold okB at h; exact of_decide_eq_true h
/-- 18: zzValidDate -/
theorem zzValidDate_any (y m d : Int) (w : World) (w0 : (Lit.int .i32 y).wf = true) (w1 : (Lit.int .i32 m).wf = true) (w2 : (Lit.int .i32 d).wf = true) :
    Calls Try.prog 18 #[.int .i32 y, .int .i32 m, .int .i32 d] w fun e w' => e = .returned (.bool (okB y m d)) ∧ w' = w := by
  obtain ⟨x1, x2⟩ := bounds_i32 w0
  obtain ⟨x3, x4⟩ := bounds_i32 w1
  obtain ⟨x5, x6⟩ := bounds_i32 w2
  clear w0 w1 w2
  by_cases c : -1048576 ≤ y ∧ y ≤ 1048576 ∧ 1 ≤ m ∧ m ≤ 12 ∧ 1 ≤ d ∧ d ≤ 31
  · obtain ⟨c1, c2, c3, c4, c5, c6⟩ := c
    have H : Hid (decide (d ≤ dim y m) = okB y m d) := by
      show decide (d ≤ dim y m) = okB y m d
      unfold okB; exact decide_eq_decide.2 ⟨fun h => ⟨c1, c2, c3, c4, c5, c6, h⟩, fun h => h.2.2.2.2.2.2⟩
    go_enter Try.func18, Try.ntmps18
    go_wp2_with fail
    refine (Cal.zzDaysInMonth_any _ _ _ (by omega) (by omega) (by omega) (by omega)).mono ?_
    rintro e w' ⟨rfl, rfl⟩
    go_wp2_with fail
    go_ret
    exact ⟨Cal.ret_bool H.out, rfl⟩
  · have H : Hid (false = okB y m d) := by
      show false = okB y m d
      unfold okB; exact (decide_eq_false (fun h => c ⟨h.1, h.2.1, h.2.2.1, h.2.2.2.1, h.2.2.2.2.1, h.2.2.2.2.2.1⟩)).symm
    rcases (by omega : y < -1048576 ∨ (-1048576 ≤ y ∧ y > 1048576) ∨ (-1048576 ≤ y ∧ y ≤ 1048576 ∧ m < 1) ∨ (-1048576 ≤ y ∧ y ≤ 1048576 ∧ 1 ≤ m ∧ m > 12) ∨ (-1048576 ≤ y ∧ y ≤ 1048576 ∧ 1 ≤ m ∧ m ≤ 12 ∧ d < 1) ∨ (-1048576 ≤ y ∧ y ≤ 1048576 ∧ 1 ≤ m ∧ m ≤ 12 ∧ 1 ≤ d ∧ d > 31)) with k | ⟨k1, k2⟩ | ⟨k1, k2, k3⟩ | ⟨k1, k2, k3, k4⟩ | ⟨k1, k2, k3, k4, k5⟩ | ⟨k1, k2, k3, k4, k5, k6⟩
    all_goals
      clear c
      go_enter Try.func18, Try.ntmps18
      go_wp2_with fail
      go_ret
      exact ⟨Cal.ret_bool H.out, rfl⟩
def CmpIs (c y1 m1 d1 y2 m2 d2 : Int) : Prop :=
  (c = -1 ∧ (y1 < y2 ∨ (y1 = y2 ∧ m1 < m2) ∨ (y1 = y2 ∧ m1 = m2 ∧ d1 < d2))) ∨ (c = 1 ∧ (y2 < y1 ∨ (y1 = y2 ∧ m2 < m1) ∨ (y1 = y2 ∧ m1 = m2 ∧ d2 < d1))) ∨ (c = 0 ∧ y1 = y2 ∧ m1 = m2 ∧ d1 = d2)
/-- 19: zzCmpTriple -/
theorem zzCmp_any (y1 m1 d1 y2 m2 d2 : Int) (w : World) :
    Calls Try.prog 19 #[.int .i32 y1, .int .i32 m1, .int .i32 d1, .int .i32 y2, .int .i32 m2, .int .i32 d2] w fun e w' => ∃ c : Int, e = .returned (.int .i64 c) ∧ w' = w ∧ CmpIs c y1 m1 d1 y2 m2 d2 := by
  rcases Int.lt_trichotomy y1 y2 with c | c | c
  · have t : (y1 != y2) = true := by simp; omega
    go_enter Try.func19, Try.ntmps19
    go_wp2_with fail
    go_ret
    exact ⟨_, rfl, rfl, by unfold CmpIs; omega⟩
  · subst c
    have t : (y1 != y1) = false := by simp
    rcases Int.lt_trichotomy m1 m2 with k | k | k
    · have t2 : (m1 != m2) = true := by simp; omega
      go_enter Try.func19, Try.ntmps19
      go_wp2_with fail
      go_ret
      exact ⟨_, rfl, rfl, by unfold CmpIs; omega⟩
    · subst k
      have t2 : (m1 != m1) = false := by simp
      rcases Int.lt_trichotomy d1 d2 with l | l | l
      · have t3 : (d1 != d2) = true := by simp; omega
        go_enter Try.func19, Try.ntmps19
        go_wp2_with fail
        go_ret
        exact ⟨_, rfl, rfl, by unfold CmpIs; omega⟩
      · subst l
        have t3 : (d1 != d1) = false := by simp
        go_enter Try.func19, Try.ntmps19
        go_wp2_with fail
        go_ret
        exact ⟨_, rfl, rfl, by unfold CmpIs; omega⟩
      · have t3 : (d1 != d2) = true := by simp; omega
        go_enter Try.func19, Try.ntmps19
        go_wp2_with fail
        go_ret
        exact ⟨_, rfl, rfl, by unfold CmpIs; omega⟩
    · have t2 : (m1 != m2) = true := by simp; omega
      go_enter Try.func19, Try.ntmps19
      go_wp2_with fail
      go_ret
      exact ⟨_, rfl, rfl, by unfold CmpIs; omega⟩
  · have t : (y1 != y2) = true := by simp; omega
    go_enter Try.func19, Try.ntmps19
    go_wp2_with fail
    go_ret
    exact ⟨_, rfl, rfl, by unfold CmpIs; omega⟩
theorem lex_lt {y1 m1 d1 y2 m2 d2 : Int} (v : valid y1 m1 d1) (v' : valid y2 m2 d2) (h : y1 < y2 ∨ (y1 = y2 ∧ m1 < m2) ∨ (y1 = y2 ∧ m1 = m2 ∧ d1 < d2)) : dn y1 m1 d1 < dn y2 m2 d2 := by
  rcases h with h | ⟨rfl, h⟩ | ⟨rfl, rfl, h⟩
  · exact Plain.lt_year v v' h
  · exact Plain.lt_month v v' h
  · exact Plain.lt_day h

/-! ### STEP 1: THE WALK: the Go text returns true. 'Grown w w'': the world has at most new blocks (Derived/RowKit3.lean). Part the cases AHEAD of 'go_enter' where a test parts the walk; take each callee by a contract of your own. -/
theorem walk (a0 : Int) (a1 : Int) (a2 : Int) (a3 : Int) (a4 : Int) (a5 : Int) (w0 : (Lit.int .i32 a0).wf = true) (w1 : (Lit.int .i32 a1).wf = true) (w2 : (Lit.int .i32 a2).wf = true) (w3 : (Lit.int .i32 a3).wf = true) (w4 : (Lit.int .i32 a4).wf = true) (w5 : (Lit.int .i32 a5).wf = true) (w : World) :
    Calls Try.prog 7 #[.int .i32 a0, .int .i32 a1, .int .i32 a2, .int .i32 a3, .int .i32 a4, .int .i32 a5] w fun e w' => e = .returned (.bool true) ∧ Grown w w' := by
  by_cases c1 : okB a0 a1 a2 = true
  · by_cases c2 : okB a3 a4 a5 = true
    · obtain ⟨o1, o2, o3, o4, o5, o6, o7⟩ := okB_yes c1
      obtain ⟨p1, p2, p3, p4, p5, p6, p7⟩ := okB_yes c2
      have V1 : Hid (valid a0 a1 a2) := ⟨o3, o4, o5, o7⟩
      have V2 : Hid (valid a3 a4 a5) := ⟨p3, p4, p5, p7⟩
      clear o7 p7
      go_enter Try.func7, Try.ntmps7
      go_wp2_with fail
      refine (zzValidDate_any _ _ _ _ w0 w1 w2).mono ?_
      rintro e w' ⟨rfl, rfl⟩
      go_wp2_with fail
      refine (zzValidDate_any _ _ _ _ w3 w4 w5).mono ?_
      rintro e w' ⟨rfl, rfl⟩
      go_wp2_with fail
      refine (Cal.zzDaysFrom1970_any _ _ _ _ (by omega) (by omega) (by omega) (by omega) (by omega) (by omega)).mono ?_
      rintro e w' ⟨rfl, rfl⟩
      go_wp2_with fail
      refine (Cal.zzDaysFrom1970_any _ _ _ _ (by omega) (by omega) (by omega) (by omega) (by omega) (by omega)).mono ?_
      rintro e w' ⟨rfl, rfl⟩
      go_wp2_with fail
      refine (zzCmp_any _ _ _ _ _ _ _).mono ?_
      rintro e w' ⟨c, rfl, rfl, hc⟩
      unfold CmpIs at hc
      rcases hc with ⟨rfl, hc⟩ | ⟨rfl, hc⟩ | ⟨rfl, hc⟩
      · have hl := lex_lt V1.out V2.out hc
        clear hc
        go_wp2_with fail
        go_ret
        exact ⟨Cal.ret_bool (by first | rfl | simpa using hl), by repeat (first | exact Grown.refl _ | apply Grown.drew | apply Grown.alloc)⟩
      · have hl := lex_lt V2.out V1.out (by omega)
        clear hc
        go_wp2_with fail
        go_ret
        exact ⟨Cal.ret_bool (by first | rfl | simpa using hl), by repeat (first | exact Grown.refl _ | apply Grown.drew | apply Grown.alloc)⟩
      · obtain ⟨rfl, rfl, rfl⟩ := hc
        go_wp2_with fail
        go_ret
        exact ⟨Cal.ret_bool (by simp), by repeat (first | exact Grown.refl _ | apply Grown.drew | apply Grown.alloc)⟩
    · have c3 : okB a3 a4 a5 = false := by simpa using c2
      clear c2
      go_enter Try.func7, Try.ntmps7
      go_wp2_with fail
      refine (zzValidDate_any _ _ _ _ w0 w1 w2).mono ?_
      rintro e w' ⟨rfl, rfl⟩
      go_wp2_with fail
      refine (zzValidDate_any _ _ _ _ w3 w4 w5).mono ?_
      rintro e w' ⟨rfl, rfl⟩
      go_wp2_with fail
      go_ret
      exact ⟨rfl, by repeat (first | exact Grown.refl _ | apply Grown.drew | apply Grown.alloc)⟩
  · have c3 : okB a0 a1 a2 = false := by simpa using c1
    clear c1
    go_enter Try.func7, Try.ntmps7
    go_wp2_with fail
    refine (zzValidDate_any _ _ _ _ w0 w1 w2).mono ?_
    rintro e w' ⟨rfl, rfl⟩
    go_wp2_with fail
    go_ret
    exact ⟨rfl, by repeat (first | exact Grown.refl _ | apply Grown.drew | apply Grown.alloc)⟩

/-! ### THE ROW's STEP: WRITTEN OUT: LEAVE IT -/
set_option maxRecDepth 100000 in
theorem lifted (os : Os) (started : os.Started) (H : Type) (enc : TypeId × Value → H) :
    ReturnsInHanded {} Try.checked os 7 .any (Rows.fnDaysFrom1970OrdersAsDatesSpec.pre6 enc Try.prog Try.f7 Rows.fnDaysFrom1970OrdersAsDatesRow.domain false) (Rows.fnDaysFrom1970OrdersAsDatesSpec.post enc Try.prog Try.f7 false true false false) := by
  refine returnsInHanded_of_change (C := Try.checked) own started (by kernel_rfl) Try.func7
    (ChangeSpec.witness6 (enc := enc) (C := Try.checked) false ⟨#[], #[.int .i32 0, .int .i32 0, .int .i32 0, .int .i32 0, .int .i32 0, .int .i32 0], []⟩ 8 (by kernel_rfl) (by kernel_rfl) (by kernel_rfl) (by kernel_rfl)) ?_
  intro W base args ds gs before hval0 hW hcnd _
  have hval : ∀ (j : Nat) t v, Try.f7.params[j]? = some t → args[j]? = some v → Value.okWide Try.prog W .any base t v := hval0
  have hW' := hW
  obtain ⟨p, q, hA0, hV, rfl, hfz, hnd⟩ := hW
  have hA : DataW.TrodAll enc Try.prog W 0 (fun _ => true) true Try.f7.params.toList args.toList ds p := hA0
  rw [Try.params7] at hA hval
  obtain ⟨v0, vs0, d0, ds0, p0, q0, hargs, rfl, rfl, h0, r0⟩ := trodAll_cons hA
  obtain ⟨v1, vs1, d1, ds1, p1, q1, rfl, rfl, rfl, h1, r1⟩ := trodAll_cons r0
  obtain ⟨v2, vs2, d2, ds2, p2, q2, rfl, rfl, rfl, h2, r2⟩ := trodAll_cons r1
  obtain ⟨v3, vs3, d3, ds3, p3, q3, rfl, rfl, rfl, h3, r3⟩ := trodAll_cons r2
  obtain ⟨v4, vs4, d4, ds4, p4, q4, rfl, rfl, rfl, h4, r4⟩ := trodAll_cons r3
  obtain ⟨v5, vs5, d5, ds5, p5, q5, rfl, rfl, rfl, h5, r5⟩ := trodAll_cons r4
  obtain ⟨rfl, rfl, rfl⟩ := trodAll_nil r5
  obtain rfl : args = #[v0, v1, v2, v3, v4, v5] := by cases args; simp_all
  obtain ⟨rfl, rfl⟩ := trodVars_none hV
  obtain ⟨a0, rfl, rfl, rfl, w0⟩ := open_int Try.underlying21 (hval 0 21 v0 rfl rfl) h0
  obtain ⟨a1, rfl, rfl, rfl, w1⟩ := open_int Try.underlying21 (hval 1 21 v1 rfl rfl) h1
  obtain ⟨a2, rfl, rfl, rfl, w2⟩ := open_int Try.underlying21 (hval 2 21 v2 rfl rfl) h2
  obtain ⟨a3, rfl, rfl, rfl, w3⟩ := open_int Try.underlying21 (hval 3 21 v3 rfl rfl) h3
  obtain ⟨a4, rfl, rfl, rfl, w4⟩ := open_int Try.underlying21 (hval 4 21 v4 rfl rfl) h4
  obtain ⟨a5, rfl, rfl, rfl, w5⟩ := open_int Try.underlying21 (hval 5 21 v5 rfl rfl) h5
  clear hA0 hval0
  simp only [List.append_nil] at hW'
  refine (walk a0 a1 a2 a3 a4 a5 w0 w1 w2 w3 w4 w5 W).mono fun e W' ⟨he, hg⟩ => ?_
  subst he
  exact ⟨_, rfl, post_of_same (pa := []) (pv := []) hW' (fun _ _ _ => (trodAll_cons_mk (shut_bool Try.underlying4 _) trodAll_mk0)) (fun sp _ => (trodAll_cons_mk (shut_int Try.underlying21 w0) (trodAll_cons_mk (shut_int Try.underlying21 w1) (trodAll_cons_mk (shut_int Try.underlying21 w2) (trodAll_cons_mk (shut_int Try.underlying21 w3) (trodAll_cons_mk (shut_int Try.underlying21 w4) (trodAll_cons_mk (shut_int Try.underlying21 w5) trodAll_mk0))))))) (fun _ _ => rfl) rfl
    (hg.frame _) hg.2.1 (ok_one (by kernel_rfl) rfl (okWide_bool_mk Try.underlying4 _))⟩

theorem closed : joinedFacts Try.prog 7 Try.f7 Rows.fnDaysFrom1970OrdersAsDatesSpec Rows.fnDaysFrom1970OrdersAsDatesRow = true := by
  unfold joinedFacts
  rw [Head.enter_is, Head.lifts_is, Head.make_is]
  kernel_rfl

theorem over : Rows.fnDaysFrom1970OrdersAsDatesRow.holds Try.pinned (OpenSpec.ofChange Rows.fnDaysFrom1970OrdersAsDatesSpec) :=
  OpenClaim.holds_of_wide 7 Try.f7 rfl rfl rfl rfl rfl rfl rfl ⟨rfl, rfl, rfl, rfl, rfl⟩ rfl rfl rfl rfl rfl (by kernel_rfl) Try.func7 closed
    (of_decide_eq_true (by kernel_rfl)) (by unfold Func.isWrapper; first | (rw [if_pos (by decide +kernel)]; kernel_rfl) | (rw [if_neg (by decide +kernel)]; exact ⟨rfl, rfl⟩))
    (fun os started H enc _ => lifted os started H enc)

/-- ████ THE STATEMENT ████ -/
theorem proved : Rows.FnDaysFrom1970OrdersAsDatesSaid :=
  over
#print axioms proved
end Go.Proofs.Qxb6002458a.fnDaysFrom1970OrdersAsDates
