/-
  The proof of 'Rows.FnCivilStepsOneDaySaid'. The frame is the given shell's (written by program); the walk is ours.
-/
import Derived.Test.Qxb6002458aRows
import Derived.WalkKit
import Derived.ProofKit
import Derived.OpenShut
import Derived.ShutString
import Derived.Test.Qxb6002458aHead
import Derived.Test.Qxb6002458aBd
namespace Go.Proofs.Qxb6002458a.fnCivilStepsOneDay
open Go.ChangeShapes Go.WideShapes Go.ChangeAt Go.RowKit
open Go.ChangeMaps (open_string shut_string)
set_option linter.unusedVariables false      -- a walk need not use every 'w<i>' (that an integer argument fits its kind)

theorem own : ownKnob Try.prog.godebug = none := by kernel_rfl

open Plain (S leap lp dim dn valid J)
theorem start_valid : valid 1970 1 1 ∧ dn 1970 1 1 = 0 := by
  refine ⟨⟨by omega, by omega, by omega, ?_⟩, by decide⟩
  have := (Plain.dim_bd 1970 1).1
  omega
theorem next_day {y m d n : Int} (v : valid y m d) (h : dn y m d = n) (c : d < dim y m) : valid y m (d + 1) ∧ dn y m (d + 1) = n + 1 := by
  refine ⟨⟨v.1, v.2.1, by have := v.2.2.1; omega, by omega⟩, ?_⟩
  unfold Plain.dn at h ⊢; omega
theorem next_month {y m d n : Int} (v : valid y m d) (h : dn y m d = n) (c : dim y m ≤ d) (hm : m ≤ 11) : valid y (m + 1) 1 ∧ dn y (m + 1) 1 = n + 1 := by
  obtain ⟨v1, v2, v3, v4⟩ := v
  refine ⟨⟨by omega, by omega, by omega, by have := (Plain.dim_bd y (m + 1)).1; omega⟩, ?_⟩
  rw [Plain.dn_next_month y m v1 hm]
  have : dn y m d = dn y m 1 + d - 1 := by unfold Plain.dn; omega
  omega
theorem next_year {y m d n : Int} (v : valid y m d) (h : dn y m d = n) (c : dim y m ≤ d) (hm : ¬ m ≤ 11) : valid (y + 1) 1 1 ∧ dn (y + 1) 1 1 = n + 1 := by
  obtain ⟨v1, v2, v3, v4⟩ := v
  have e : m = 12 := by omega
  subst e
  refine ⟨⟨by omega, by omega, by omega, by have := (Plain.dim_bd (y + 1) 1).1; omega⟩, ?_⟩
  rw [Plain.dn_next_year y]
  have : dn y 12 d = dn y 12 1 + d - 1 := by unfold Plain.dn; omega
  omega

/-! ### STEP 1: THE WALK: the Go text returns true. 'Grown w w'': the world has at most new blocks (Derived/RowKit3.lean). Part the cases AHEAD of 'go_enter' where a test parts the walk; take each callee by a contract of your own. -/
theorem walk (a0 : Int) (w0 : (Lit.int .i32 a0).wf = true) (w : World) :
    Calls Try.prog 5 #[.int .i32 a0] w fun e w' => e = .returned (.bool true) ∧ Grown w w' := by
  obtain ⟨x1, x2⟩ := bounds_i32 w0
  by_cases c1 : a0 < -1073741824
  · go_enter Try.func5, Try.ntmps5
    go_wp2_with fail
    go_ret
    exact ⟨rfl, by repeat (first | exact Grown.refl _ | apply Grown.drew | apply Grown.alloc)⟩
  by_cases c2 : a0 ≥ 1073741824
  · go_enter Try.func5, Try.ntmps5
    go_wp2_with fail
    go_ret
    exact ⟨rfl, by repeat (first | exact Grown.refl _ | apply Grown.drew | apply Grown.alloc)⟩
  go_enter Try.func5, Try.ntmps5
  go_wp2_with fail
  refine (Cal.zzCivil_any _ _ (by omega) (by omega)).mono ?_
  rintro e w' ⟨ys, ms, ds, rfl, rfl, vs, hs⟩
  obtain ⟨e1, e2, e3⟩ := Plain.dn_inj vs start_valid.1 (hs.trans start_valid.2.symm)
  subst e1 e2 e3
  clear hs vs
  go_wp2_with fail
  refine (Cal.zzCivil_any _ _ (by omega) (by omega)).mono ?_
  rintro e w' ⟨y, m, d, rfl, rfl, v, hd⟩
  have hj := Plain.in_year v
  rw [hd] at hj
  obtain ⟨y0, y1⟩ := Cal.J_bd hj.1 hj.2 (by omega) (by omega)
  have V : Hid (valid y m d) := v
  obtain ⟨m1, m2, d1, d2⟩ := v
  have d3 := (Plain.dim_bd y m).2
  have d4 := (Plain.dim_bd y m).1
  have H : Hid (dn y m d = a0) := hd
  clear hd hj
  go_wp2_with fail
  refine (Cal.zzDaysInMonth_any _ _ _ (by omega) (by omega) m1 m2).mono ?_
  rintro e w' ⟨rfl, rfl⟩
  go_wp2_with fail
  refine (Cal.zzMonthLen_any _ _ _ (by omega) (by omega) m1 m2).mono ?_
  rintro e w' ⟨rfl, rfl⟩
  have t0 : (dim y m != dim y m) = false := by simp
  go_wp2_with fail
  refine (Cal.zzMonthLen_any _ _ _ (by omega) (by omega) m1 m2).mono ?_
  rintro e w' ⟨rfl, rfl⟩
  by_cases k1 : d < dim y m
  · have N : Hid (valid y m (d + 1) ∧ dn y m (d + 1) = a0 + 1) := next_day V.out H.out k1
    go_wp2_with fail
    refine (Cal.zzCivil_any _ _ (by omega) (by omega)).mono ?_
    rintro e w' ⟨y', m', d', rfl, rfl, v', hd'⟩
    obtain ⟨e1, e2, e3⟩ := Plain.dn_inj v' N.out.1 (hd'.trans N.out.2.symm)
    subst e1 e2 e3
    clear hd' v'
    go_wp2_with fail
    go_ret
    exact ⟨Cal.ret_bool (by simp), by repeat (first | exact Grown.refl _ | apply Grown.drew | apply Grown.alloc)⟩
  · by_cases k2 : m ≤ 11
    · have N : Hid (valid y (m + 1) 1 ∧ dn y (m + 1) 1 = a0 + 1) := next_month V.out H.out (by omega) k2
      go_wp2_with fail
      refine (Cal.zzCivil_any _ _ (by omega) (by omega)).mono ?_
      rintro e w' ⟨y', m', d', rfl, rfl, v', hd'⟩
      obtain ⟨e1, e2, e3⟩ := Plain.dn_inj v' N.out.1 (hd'.trans N.out.2.symm)
      subst e1 e2 e3
      clear hd' v'
      go_wp2_with fail
      go_ret
      exact ⟨Cal.ret_bool (by simp), by repeat (first | exact Grown.refl _ | apply Grown.drew | apply Grown.alloc)⟩
    · have N : Hid (valid (y + 1) 1 1 ∧ dn (y + 1) 1 1 = a0 + 1) := next_year V.out H.out (by omega) k2
      go_wp2_with fail
      refine (Cal.zzCivil_any _ _ (by omega) (by omega)).mono ?_
      rintro e w' ⟨y', m', d', rfl, rfl, v', hd'⟩
      obtain ⟨e1, e2, e3⟩ := Plain.dn_inj v' N.out.1 (hd'.trans N.out.2.symm)
      subst e1 e2 e3
      clear hd' v'
      go_wp2_with fail
      go_ret
      exact ⟨Cal.ret_bool (by simp), by repeat (first | exact Grown.refl _ | apply Grown.drew | apply Grown.alloc)⟩

/-! ### THE ROW's STEP: WRITTEN OUT: LEAVE IT -/
set_option maxRecDepth 100000 in
theorem lifted (os : Os) (started : os.Started) (H : Type) (enc : TypeId × Value → H) :
    ReturnsInHanded {} Try.checked os 5 .any (Rows.fnCivilStepsOneDaySpec.pre6 enc Try.prog Try.f5 Rows.fnCivilStepsOneDayRow.domain false) (Rows.fnCivilStepsOneDaySpec.post enc Try.prog Try.f5 false true false false) := by
  refine returnsInHanded_of_change (C := Try.checked) own started (by kernel_rfl) Try.func5
    (ChangeSpec.witness6 (enc := enc) (C := Try.checked) false ⟨#[], #[.int .i32 0], []⟩ 8 (by kernel_rfl) (by kernel_rfl) (by kernel_rfl) (by kernel_rfl)) ?_
  intro W base args ds gs before hval0 hW hcnd _
  have hval : ∀ (j : Nat) t v, Try.f5.params[j]? = some t → args[j]? = some v → Value.okWide Try.prog W .any base t v := hval0
  have hW' := hW
  obtain ⟨p, q, hA0, hV, rfl, hfz, hnd⟩ := hW
  have hA : DataW.TrodAll enc Try.prog W 0 (fun _ => true) true Try.f5.params.toList args.toList ds p := hA0
  rw [Try.params5] at hA hval
  obtain ⟨v0, vs0, d0, ds0, p0, q0, hargs, rfl, rfl, h0, r0⟩ := trodAll_cons hA
  obtain ⟨rfl, rfl, rfl⟩ := trodAll_nil r0
  obtain rfl : args = #[v0] := by cases args; simp_all
  obtain ⟨rfl, rfl⟩ := trodVars_none hV
  obtain ⟨a0, rfl, rfl, rfl, w0⟩ := open_int Try.underlying21 (hval 0 21 v0 rfl rfl) h0
  clear hA0 hval0
  simp only [List.append_nil] at hW'
  refine (walk a0 w0 W).mono fun e W' ⟨he, hg⟩ => ?_
  subst he
  exact ⟨_, rfl, post_of_same (pa := []) (pv := []) hW' (fun _ _ _ => (trodAll_cons_mk (shut_bool Try.underlying4 _) trodAll_mk0)) (fun sp _ => (trodAll_cons_mk (shut_int Try.underlying21 w0) trodAll_mk0)) (fun _ _ => rfl) rfl
    (hg.frame _) hg.2.1 (ok_one (by kernel_rfl) rfl (okWide_bool_mk Try.underlying4 _))⟩

theorem closed : joinedFacts Try.prog 5 Try.f5 Rows.fnCivilStepsOneDaySpec Rows.fnCivilStepsOneDayRow = true := by
  unfold joinedFacts
  rw [Head.enter_is, Head.lifts_is, Head.make_is]
  kernel_rfl

theorem over : Rows.fnCivilStepsOneDayRow.holds Try.pinned (OpenSpec.ofChange Rows.fnCivilStepsOneDaySpec) :=
  OpenClaim.holds_of_wide 5 Try.f5 rfl rfl rfl rfl rfl rfl rfl ⟨rfl, rfl, rfl, rfl, rfl⟩ rfl rfl rfl rfl rfl (by kernel_rfl) Try.func5 closed
    (of_decide_eq_true (by kernel_rfl)) (by unfold Func.isWrapper; first | (rw [if_pos (by decide +kernel)]; kernel_rfl) | (rw [if_neg (by decide +kernel)]; exact ⟨rfl, rfl⟩))
    (fun os started H enc _ => lifted os started H enc)

/-- ████ THE STATEMENT ████ -/
theorem proved : Rows.FnCivilStepsOneDaySaid :=
  over
#print axioms proved
end Go.Proofs.Qxb6002458a.fnCivilStepsOneDay
