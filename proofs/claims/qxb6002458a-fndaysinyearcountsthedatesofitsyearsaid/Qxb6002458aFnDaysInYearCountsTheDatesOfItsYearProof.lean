/-
  The proof of 'Rows.FnDaysInYearCountsTheDatesOfItsYearSaid'. The frame is the given shell's (written by program); the walk is ours.
-/
import Derived.Test.Qxb6002458aRows
import Derived.WalkKit
import Derived.ProofKit
import Derived.OpenShut
import Derived.ShutString
import Derived.Test.Qxb6002458aHead
import Derived.Test.Qxb6002458aBd
namespace Go.Proofs.Qxb6002458a.fnDaysInYearCountsTheDatesOfItsYear
open Go.ChangeShapes Go.WideShapes Go.ChangeAt Go.RowKit
open Go.ChangeMaps (open_string shut_string)
set_option linter.unusedVariables false      -- a walk need not use every 'w<i>' (that an integer argument fits its kind)

theorem own : ownKnob Try.prog.godebug = none := by kernel_rfl

open Plain (S leap lp dim dn valid J)
/-- how many of the days behind '-366' and ahead of 'i' lie in [A, B) -/
def cnt (A B i : Int) : Int := if i < A then 0 else if i < B then i - A else B - A
theorem cnt_in (A B i : Int) (h1 : A ≤ i) (h2 : i < B) : cnt A B i + 1 = cnt A B (i + 1) := by
  unfold cnt; repeat (split)
  all_goals omega
theorem cnt_out (A B i : Int) (hb : A ≤ B) (h : ¬ (A ≤ i ∧ i < B)) : cnt A B i = cnt A B (i + 1) := by
  unfold cnt; repeat (split)
  all_goals omega
theorem cnt_bd (A B i : Int) (hb : A ≤ B) : 0 ≤ cnt A B i ∧ cnt A B i ≤ B - A := by
  unfold cnt; repeat (split)
  all_goals omega
theorem year_same {y y' n : Int} (h1 : J y ≤ n) (h2 : n < J (y + 1)) (h3 : J y' ≤ n) (h4 : n < J (y' + 1)) : y' = y := by
  rcases Int.lt_trichotomy y y' with c | c | c
  · have := Plain.J_mono (y + 1) y' (by omega); omega
  · exact c.symm
  · have := Plain.J_mono (y' + 1) y (by omega); omega
theorem year_other {y y' n : Int} (h3 : J y' ≤ n) (h4 : n < J (y' + 1)) (h : (y' == y) = false) : ¬ (J y ≤ n ∧ n < J (y + 1)) := by
  rintro ⟨h1, h2⟩
  have := year_same h1 h2 h3 h4
  simp [this] at h

/-! ### STEP 1: THE WALK: the Go text returns true. 'Grown w w'': the world has at most new blocks (Derived/RowKit3.lean). Part the cases AHEAD of 'go_enter' where a test parts the walk; take each callee by a contract of your own. -/
theorem walk (a0 : Int) (w0 : (Lit.int .i32 a0).wf = true) (w : World) :
    Calls Try.prog 12 #[.int .i32 a0] w fun e w' => e = .returned (.bool true) ∧ Grown w w' := by
  obtain ⟨x1, x2⟩ := bounds_i32 w0
  by_cases c1 : a0 < -1073741824
  · go_enter Try.func12, Try.ntmps12
    go_wp2_with fail
    go_ret
    exact ⟨rfl, by repeat (first | exact Grown.refl _ | apply Grown.drew | apply Grown.alloc)⟩
  by_cases c2 : a0 > 1073741824
  · go_enter Try.func12, Try.ntmps12
    go_wp2_with fail
    go_ret
    exact ⟨rfl, by repeat (first | exact Grown.refl _ | apply Grown.drew | apply Grown.alloc)⟩
  go_enter Try.func12, Try.ntmps12
  go_wp2_with fail
  refine (Cal.year_any _ _ (by omega) (by omega)).mono ?_
  rintro e w' ⟨y, rfl, rfl, j1, j2⟩
  have hst := Plain.J_step y
  have hl := Plain.lp_bd y
  have hA1 : -366 < J y - a0 := by omega
  have hA2 : J y - a0 ≤ 0 := by omega
  have hB1 : 0 < J (y + 1) - a0 := by omega
  have hB2 : J (y + 1) - a0 ≤ 366 := by omega
  have Hst : Hid (J (y + 1) = J y + 365 + lp y) := hst
  clear hst
  go_wp2_with fail
  go_loop [5, 6] (fun n k => ∃ i : Int, -366 ≤ i ∧ i ≤ 367 ∧ k = .int .i32 i ∧ n = .int .i64 (cnt (J y - a0) (J (y + 1) - a0) i)) (fun _ k => (367 - intOf k).toNat)
  case atStart => exact ⟨-366, by omega, by omega, rfl, by unfold cnt; rw [if_pos (by omega)]⟩
  case round =>
    obtain ⟨i, hi1, hi2, rfl, rfl⟩ := hrel
    obtain ⟨b1, b2⟩ := cnt_bd (J y - a0) (J (y + 1) - a0) i (by omega)
    by_cases hlt : i ≤ 366
    · go_wp2_with fail
      refine (Cal.year_any _ _ (by omega) (by omega)).mono ?_
      rintro e w' ⟨y', rfl, rfl, j3, j4⟩
      by_cases hy : y' = y
      · subst hy
        have HC : Hid (cnt (J y' - a0) (J (y' + 1) - a0) i + 1 = cnt (J y' - a0) (J (y' + 1) - a0) (i + 1)) := cnt_in _ _ _ (by omega) (by omega)
        have t : (y' == y') = true := by simp
        go_wp2_with fail
        go_round
        case rel => exact ⟨i + 1, by omega, by omega, rfl, by rw [HC.out]⟩
        case measure => simp [intOf]; omega
      · have t : (y' == y) = false := by simpa using hy
        have HC : Hid (cnt (J y - a0) (J (y + 1) - a0) i = cnt (J y - a0) (J (y + 1) - a0) (i + 1)) := by
          refine cnt_out _ _ _ (by omega) ?_
          have := year_other j3 j4 t
          omega
        clear j3 j4 hy
        go_wp2_with fail
        go_round
        case rel => exact ⟨i + 1, by omega, by omega, rfl, by rw [← HC.out]⟩
        case measure => simp [intOf]; omega
    · have HE : Hid (cnt (J y - a0) (J (y + 1) - a0) i = 365 + lp y) := by
        have := Hst.out
        show cnt (J y - a0) (J (y + 1) - a0) i = 365 + lp y
        unfold cnt; rw [if_neg (by omega), if_neg (by omega)]; omega
      go_wp2_with fail
      refine (Cal.daysInYear_any _ _ (by omega) (by omega)).mono ?_
      rintro e w' ⟨y', rfl, rfl, j3, j4⟩
      have hy := year_same j1 j2 j3 j4
      subst hy
      go_wp2_with fail
      go_ret
      exact ⟨Cal.ret_bool (by rw [HE.out]; simp), by repeat (first | exact Grown.refl _ | apply Grown.drew | apply Grown.alloc)⟩

/-! ### THE ROW's STEP: WRITTEN OUT: LEAVE IT -/
set_option maxRecDepth 100000 in
theorem lifted (os : Os) (started : os.Started) (H : Type) (enc : TypeId × Value → H) :
    ReturnsInHanded {} Try.checked os 12 .any (Rows.fnDaysInYearCountsTheDatesOfItsYearSpec.pre6 enc Try.prog Try.f12 Rows.fnDaysInYearCountsTheDatesOfItsYearRow.domain false) (Rows.fnDaysInYearCountsTheDatesOfItsYearSpec.post enc Try.prog Try.f12 false true false false) := by
  refine returnsInHanded_of_change (C := Try.checked) own started (by kernel_rfl) Try.func12
    (ChangeSpec.witness6 (enc := enc) (C := Try.checked) false ⟨#[], #[.int .i32 0], []⟩ 8 (by kernel_rfl) (by kernel_rfl) (by kernel_rfl) (by kernel_rfl)) ?_
  intro W base args ds gs before hval0 hW hcnd _
  have hval : ∀ (j : Nat) t v, Try.f12.params[j]? = some t → args[j]? = some v → Value.okWide Try.prog W .any base t v := hval0
  have hW' := hW
  obtain ⟨p, q, hA0, hV, rfl, hfz, hnd⟩ := hW
  have hA : DataW.TrodAll enc Try.prog W 0 (fun _ => true) true Try.f12.params.toList args.toList ds p := hA0
  rw [Try.params12] at hA hval
  obtain ⟨v0, vs0, d0, ds0, p0, q0, hargs, rfl, rfl, h0, r0⟩ := trodAll_cons hA
  obtain ⟨rfl, rfl, rfl⟩ := trodAll_nil r0
  obtain rfl : args = #[v0] := by cases args; simp_all
  obtain ⟨rfl, rfl⟩ := trodVars_none hV
  obtain ⟨a0, rfl, rfl, rfl, w0⟩ := open_int Try.underlying21 (hval 0 21 v0 rfl rfl) h0
  clear hA0 hval0
  simp only [List.append_nil] at hW'
  refine (walk a0 w0 W).mono fun e W' ⟨he, hg⟩ => ?_
  subst he
  exact ⟨_, rfl, post_of_same (pa := []) (pv := []) hW' (fun _ _ _ => (trodAll_cons_mk (shut_bool Try.underlying4 _) trodAll_mk0)) (fun sp _ => (trodAll_cons_mk (shut_int Try.underlying21 w0) trodAll_mk0)) (fun _ _ => rfl) rfl
    (hg.frame _) hg.2.1 (ok_one (by kernel_rfl) rfl (okWide_bool_mk Try.underlying4 _))⟩

theorem closed : joinedFacts Try.prog 12 Try.f12 Rows.fnDaysInYearCountsTheDatesOfItsYearSpec Rows.fnDaysInYearCountsTheDatesOfItsYearRow = true := by
  unfold joinedFacts
  rw [Head.enter_is, Head.lifts_is, Head.make_is]
  kernel_rfl

theorem over : Rows.fnDaysInYearCountsTheDatesOfItsYearRow.holds Try.pinned (OpenSpec.ofChange Rows.fnDaysInYearCountsTheDatesOfItsYearSpec) :=
  OpenClaim.holds_of_wide 12 Try.f12 rfl rfl rfl rfl rfl rfl rfl ⟨rfl, rfl, rfl, rfl, rfl⟩ rfl rfl rfl rfl rfl (by kernel_rfl) Try.func12 closed
    (of_decide_eq_true (by kernel_rfl)) (by unfold Func.isWrapper; first | (rw [if_pos (by decide +kernel)]; kernel_rfl) | (rw [if_neg (by decide +kernel)]; exact ⟨rfl, rfl⟩))
    (fun os started H enc _ => lifted os started H enc)

/-- ████ THE STATEMENT ████ -/
theorem proved : Rows.FnDaysInYearCountsTheDatesOfItsYearSaid :=
  over
#print axioms proved
end Go.Proofs.Qxb6002458a.fnDaysInYearCountsTheDatesOfItsYear
