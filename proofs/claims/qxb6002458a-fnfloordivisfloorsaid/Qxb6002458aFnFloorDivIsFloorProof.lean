/-
  The proof of 'Rows.FnFloorDivIsFloorSaid'. The frame is the given shell's (written by program); the walk is ours.
-/
import Derived.Test.Qxb6002458aRows
import Derived.WalkKit
import Derived.ProofKit
import Derived.OpenShut
import Derived.ShutString
import Derived.Test.Qxb6002458aHead
import Derived.Test.Qxb6002458aFloor
namespace Go.Proofs.Qxb6002458a.fnFloorDivIsFloor
open Go.ChangeShapes Go.WideShapes Go.ChangeAt Go.RowKit
open Go.ChangeMaps (open_string shut_string)
set_option linter.unusedVariables false      -- a walk need not use every 'w<i>' (that an integer argument fits its kind)

theorem own : ownKnob Try.prog.godebug = none := by kernel_rfl

theorem lo_le (a b : Int) (hb : 0 < b) : a / b * b ≤ a := Int.ediv_mul_le a (by omega)
theorem lo_lt (a b : Int) (hb : 0 < b) : a < a / b * b + b := by
  have h1 := Int.mul_ediv_add_emod a b
  have h5 := Int.emod_lt_of_pos a hb
  rw [Int.mul_comm] at h1
  omega

/-! ### STEP 1: THE WALK: the Go text returns true. 'Grown w w'': the world has at most new blocks (Derived/RowKit3.lean). Part the cases AHEAD of 'go_enter' where a test parts the walk; take each callee by a contract of your own. -/
theorem walk (a0 : Int) (a1 : Int) (w0 : (Lit.int .i32 a0).wf = true) (w1 : (Lit.int .i32 a1).wf = true) (w : World) :
    Calls Try.prog 8 #[.int .i32 a0, .int .i32 a1] w fun e w' => e = .returned (.bool true) ∧ Grown w w' := by
  have b0 := bounds_i32 w0
  have b1 := bounds_i32 w1
  obtain ⟨x1, x2⟩ := b0
  obtain ⟨x3, x4⟩ := b1
  by_cases hb : a1 ≤ 0
  · go_enter Try.func8, Try.ntmps8
    go_wp2
    go_ret
    exact ⟨rfl, by repeat (first | exact Grown.refl _ | apply Grown.drew | apply Grown.alloc)⟩
  · have l1 := lo_le a0 a1 (by omega)
    have l2 := lo_lt a0 a1 (by omega)
    have q1 : a0 / a1 ≤ 2147483647 := by
      by_cases h : 0 ≤ a0
      · have := Int.ediv_le_self a1 h; omega
      · have := Int.ediv_neg_of_neg_of_pos (a := a0) (b := a1) (by omega) (by omega); omega
    have q2 : -2147483648 ≤ a0 / a1 := Int.le_ediv_of_mul_le (by omega) (by rw [Int.neg_mul]; omega)
    go_enter Try.func8, Try.ntmps8
    go_wp2_with (go_at_call 20; refine (Cal.zzFloorDiv_any _ _ _ (by omega) (by omega) (by omega) (by omega)).mono ?_; rintro e w' ⟨rfl, rfl⟩)
    go_ret
    exact ⟨rfl, by repeat (first | exact Grown.refl _ | apply Grown.drew | apply Grown.alloc)⟩

/-! ### THE ROW's STEP: WRITTEN OUT: LEAVE IT -/
set_option maxRecDepth 100000 in
theorem lifted (os : Os) (started : os.Started) (H : Type) (enc : TypeId × Value → H) :
    ReturnsInHanded {} Try.checked os 8 .any (Rows.fnFloorDivIsFloorSpec.pre6 enc Try.prog Try.f8 Rows.fnFloorDivIsFloorRow.domain false) (Rows.fnFloorDivIsFloorSpec.post enc Try.prog Try.f8 false true false false) := by
  refine returnsInHanded_of_change (C := Try.checked) own started (by kernel_rfl) Try.func8
    (ChangeSpec.witness6 (enc := enc) (C := Try.checked) false ⟨#[], #[.int .i32 0, .int .i32 0], []⟩ 8 (by kernel_rfl) (by kernel_rfl) (by kernel_rfl) (by kernel_rfl)) ?_
  intro W base args ds gs before hval0 hW hcnd _
  have hval : ∀ (j : Nat) t v, Try.f8.params[j]? = some t → args[j]? = some v → Value.okWide Try.prog W .any base t v := hval0
  have hW' := hW
  obtain ⟨p, q, hA0, hV, rfl, hfz, hnd⟩ := hW
  have hA : DataW.TrodAll enc Try.prog W 0 (fun _ => true) true Try.f8.params.toList args.toList ds p := hA0
  rw [Try.params8] at hA hval
  obtain ⟨v0, vs0, d0, ds0, p0, q0, hargs, rfl, rfl, h0, r0⟩ := trodAll_cons hA
  obtain ⟨v1, vs1, d1, ds1, p1, q1, rfl, rfl, rfl, h1, r1⟩ := trodAll_cons r0
  obtain ⟨rfl, rfl, rfl⟩ := trodAll_nil r1
  obtain rfl : args = #[v0, v1] := by cases args; simp_all
  obtain ⟨rfl, rfl⟩ := trodVars_none hV
  obtain ⟨a0, rfl, rfl, rfl, w0⟩ := open_int Try.underlying21 (hval 0 21 v0 rfl rfl) h0
  obtain ⟨a1, rfl, rfl, rfl, w1⟩ := open_int Try.underlying21 (hval 1 21 v1 rfl rfl) h1
  clear hA0 hval0
  simp only [List.append_nil] at hW'
  refine (walk a0 a1 w0 w1 W).mono fun e W' ⟨he, hg⟩ => ?_
  subst he
  exact ⟨_, rfl, post_of_same (pa := []) (pv := []) hW' (fun _ _ _ => (trodAll_cons_mk (shut_bool Try.underlying4 _) trodAll_mk0)) (fun sp _ => (trodAll_cons_mk (shut_int Try.underlying21 w0) (trodAll_cons_mk (shut_int Try.underlying21 w1) trodAll_mk0))) (fun _ _ => rfl) rfl
    (hg.frame _) hg.2.1 (ok_one (by kernel_rfl) rfl (okWide_bool_mk Try.underlying4 _))⟩

theorem closed : joinedFacts Try.prog 8 Try.f8 Rows.fnFloorDivIsFloorSpec Rows.fnFloorDivIsFloorRow = true := by
  unfold joinedFacts
  rw [Head.enter_is, Head.lifts_is, Head.make_is]
  kernel_rfl

theorem over : Rows.fnFloorDivIsFloorRow.holds Try.pinned (OpenSpec.ofChange Rows.fnFloorDivIsFloorSpec) :=
  OpenClaim.holds_of_wide 8 Try.f8 rfl rfl rfl rfl rfl rfl rfl ⟨rfl, rfl, rfl, rfl, rfl⟩ rfl rfl rfl rfl rfl (by kernel_rfl) Try.func8 closed
    (of_decide_eq_true (by kernel_rfl)) (by unfold Func.isWrapper; first | (rw [if_pos (by decide +kernel)]; kernel_rfl) | (rw [if_neg (by decide +kernel)]; exact ⟨rfl, rfl⟩))
    (fun os started H enc _ => lifted os started H enc)

/-- ████ THE STATEMENT ████ -/
theorem proved : Rows.FnFloorDivIsFloorSaid :=
  over
#print axioms proved
end Go.Proofs.Qxb6002458a.fnFloorDivIsFloor
