/-
  The proof of 'Rows.FnAtoiAcceptsDigitsAloneSaid'. The frame is the given shell's (written by program); the walk is ours.
-/
import Derived.Test.Qxb6002458aRows
import Derived.WalkKit
import Derived.ProofKit
import Derived.OpenShut
import Derived.ShutString
import Derived.Test.Qxb6002458aHead
import Derived.Test.Qxb6002458aItoa
import Derived.Lib.IndexBytes
namespace Go.Proofs.Qxb6002458a.fnAtoiAcceptsDigitsAlone
open Go.ChangeShapes Go.WideShapes Go.ChangeAt Go.RowKit
open Go.ChangeMaps (open_string shut_string)
set_option linter.unusedVariables false      -- a walk need not use every 'w<i>' (that an integer argument fits its kind)

theorem own : ownKnob Try.prog.godebug = none := by kernel_rfl

open Dec Atoi
theorem ret_bool {a b : Bool} (h : a = b) : Ending.returned (.bool a) = .returned (.bool b) := by rw [h]
/-- what the loop has found of the first k bytes -/
def partB (l : List UInt8) (k : Nat) : Bool := allD (l.take k) && !l.isEmpty
theorem part_zero (s : ByteArray) : (!s.toList.isEmpty) = partB s.data.toList 0 := by
  unfold partB; rw [ByteArray.toList_eq]; simp [allD]
theorem part_yes (s : ByteArray) (k : Nat) (h : k < s.size) (hd : isD s[k] = true) : partB s.data.toList (k + 1) = partB s.data.toList k := by
  unfold partB; rw [take_snoc s k h, allD_snoc, hd, Bool.and_true]
theorem part_no (s : ByteArray) (k : Nat) (h : k < s.size) (hd : isD s[k] = false) : partB s.data.toList (k + 1) = false := by
  unfold partB; rw [take_snoc s k h, allD_snoc, hd, Bool.and_false, Bool.false_and]
theorem part_end (s : ByteArray) (k : Nat) (h : s.size ≤ k) : partB s.data.toList k = okT s.data.toList := by
  unfold partB okT; rw [List.take_of_length_le (by simp; omega)]
theorem itoa_any (n : Int) (w : World) (h2 : n ≤ 999999999) :
    Calls Try.prog 23 #[.int .i64 n] w fun e w' => e = .returned (.string (strOfNums (if n ≤ 0 then [48] else decF 9 n))) ∧ Grown w w' := by
  by_cases h : n ≤ 0
  · rw [if_pos h]
    refine (itoa_zero n w h).mono ?_
    rintro e w' ⟨rfl, rfl⟩
    exact ⟨rfl, Grown.refl _⟩
  · rw [if_neg h]
    exact itoa_pos n w (by omega) h2
theorem same_text (s : ByteArray) (k : Nat) (h9 : s.size ≤ 9) (ho : okT s.data.toList = true) (hk : k < s.size) (hz : Zeros s.data.toList k) (he : Atoi.Ends s.data.toList k) :
    strOfNums (if val s.data.toList ≤ 0 then [48] else decF 9 (val s.data.toList)) = s.extract k s.size := by
  have hd : allD s.data.toList = true := by unfold okT at ho; rw [Bool.and_eq_true] at ho; exact ho.1
  have hl : s.data.toList.length = s.size := by simp
  rw [write_back s.data.toList k (by omega) hd (by omega) hz he, str_codes]
  apply bytes_inj
  rw [Lib.extract_to_end]

/-! ### STEP 1: THE WALK: the Go text returns true. 'Grown w w'': the world has at most new blocks (Derived/RowKit3.lean). Part the cases AHEAD of 'go_enter' where a test parts the walk; take each callee by a contract of your own. -/
theorem walk (a0 : ByteArray) (w0 : a0.size ≤ maxLen) (w : World) :
    Calls Try.prog 9 #[.string a0] w fun e w' => e = .returned (.bool true) ∧ Grown w w' := by
  unfold maxLen at w0
  by_cases c1 : a0.size ≤ 1048576
  case neg =>
    go_enter Try.func9, Try.ntmps9
    go_wp2_with (go_at_call 21; refine (zzBytes_big _ _ c1).mono ?_; rintro e w' ⟨rfl, rfl⟩)
    go_ret
    exact ⟨rfl, by repeat (first | exact Grown.refl _ | apply Grown.drew | apply Grown.alloc)⟩
  by_cases c2 : a0.size ≤ 65536
  case neg =>
    go_enter Try.func9, Try.ntmps9
    go_wp2_with (go_at_call 21; refine (zzBytes_small _ _ c1).mono ?_; rintro e w' ⟨rfl, rfl⟩)
    go_ret
    exact ⟨rfl, by repeat (first | exact Grown.refl _ | apply Grown.drew | apply Grown.alloc)⟩
  go_enter Try.func9, Try.ntmps9
  go_wp2_with fail
  refine (zzBytes_small _ _ c1).mono ?_
  rintro e w' ⟨rfl, rfl⟩
  go_wp2_with fail
  refine (zzAtoi_any _ _ c2).mono ?_
  rintro e w' ⟨n, rfl, rfl, hn1, hn2⟩
  have HN : Hid ((a0.size ≤ 9 → okT a0.data.toList = true → n = val a0.data.toList) ∧ (okT a0.data.toList = false → n = 0)) := ⟨hn1, hn2⟩
  clear hn1 hn2
  go_wp2_with fail
  go_loop [5, 6] (fun b i => ∃ k : Nat, k ≤ a0.size ∧ i = .int .i64 k ∧ b = .bool (partB a0.data.toList k)) (fun _ i => a0.size - (intOf i).toNat)
  case atStart => exact ⟨0, Nat.zero_le _, rfl, by rw [part_zero]⟩
  case round =>
    obtain ⟨k, hk, rfl, rfl⟩ := hrel
    by_cases hlt : k < a0.size
    · by_cases hd : 48 ≤ (a0[k].toNat : Int) ∧ (a0[k].toNat : Int) ≤ 57
      · have HP : Hid (partB a0.data.toList (k + 1) = partB a0.data.toList k) := part_yes a0 k hlt ((isD_iff _).2 hd)
        obtain ⟨hd1, hd2⟩ := hd
        go_wp2_with fail
        go_round
        case rel => exact ⟨k + 1, by omega, by go_num, by rw [HP.out]⟩
        case measure => simp [intOf]; omega
      · have HP : Hid (partB a0.data.toList (k + 1) = false) := part_no a0 k hlt (by
          have : ¬ isD a0[k] = true := fun h => hd ((isD_iff _).1 h)
          simpa using this)
        by_cases hd1 : (a0[k].toNat : Int) < 48
        · clear hd
          go_wp2_with fail
          go_round
          case rel => exact ⟨k + 1, by omega, by go_num, by rw [HP.out]⟩
          case measure => simp [intOf]; omega
        · have hd2 : ¬ (a0[k].toNat : Int) ≤ 57 := fun h => hd ⟨by omega, h⟩
          clear hd
          go_wp2_with fail
          go_round
          case rel => exact ⟨k + 1, by omega, by go_num, by rw [HP.out]⟩
          case measure => simp [intOf]; omega
    · have hp := part_end a0 k (by omega)
      cases ho : okT a0.data.toList with
      | false =>
        rw [ho] at hp
        have hn0 := HN.out.2 ho
        subst hn0
        go_wp2_with fail
        go_ret
        exact ⟨ret_bool rfl, by repeat (first | exact Grown.refl _ | apply Grown.drew | apply Grown.alloc)⟩
      | true =>
        rw [ho] at hp
        by_cases h9 : a0.size ≤ 9
        · have hv := HN.out.1 h9 ho
          subst hv
          have hd : allD a0.data.toList = true := by unfold okT at ho; rw [Bool.and_eq_true] at ho; exact ho.1
          obtain ⟨b1, b2⟩ := val_bd9 a0.data.toList (by simpa using h9) hd
          have h0 : 0 < a0.size := by
            unfold okT at ho; rw [Bool.and_eq_true] at ho
            rcases Nat.eq_zero_or_pos a0.size with e | e
            · have : a0.data.toList = [] := List.length_eq_zero_iff.1 (by simpa using e)
              rw [this] at ho; exact absurd ho.2 (by decide)
            · exact e
          have HO : Hid (okT a0.data.toList = true) := ho
          clear hd
          go_wp2_with fail
          refine (itoa_any _ _ (by omega)).mono ?_
          rintro e w1 ⟨rfl, hg⟩
          generalize hA : strOfNums (if val a0.data.toList ≤ 0 then [48] else decF 9 (val a0.data.toList)) = A
          have HA : Hid (strOfNums (if val a0.data.toList ≤ 0 then [48] else decF 9 (val a0.data.toList)) = A) := hA
          clear hA
          go_wp2_with fail
          refine (strip_any _ _ h0 (by omega)).mono ?_
          rintro e w2 ⟨j, rfl, rfl, hj, hz, he⟩
          have E : a0.extract j a0.size = A := by
            rw [← HA.out, same_text a0 j h9 HO.out hj hz he]
          rw [E]
          clear E hz he hj
          go_wp2_with fail
          go_ret
          exact ⟨ret_bool (by simp), hg⟩
        · go_wp2_with fail
          go_ret
          exact ⟨rfl, by repeat (first | exact Grown.refl _ | apply Grown.drew | apply Grown.alloc)⟩

/-! ### THE ROW's STEP: WRITTEN OUT: LEAVE IT -/
set_option maxRecDepth 100000 in
theorem lifted (os : Os) (started : os.Started) (H : Type) (enc : TypeId × Value → H) :
    ReturnsInHanded {} Try.checked os 9 .any (Rows.fnAtoiAcceptsDigitsAloneSpec.pre6 enc Try.prog Try.f9 Rows.fnAtoiAcceptsDigitsAloneRow.domain false) (Rows.fnAtoiAcceptsDigitsAloneSpec.post enc Try.prog Try.f9 false true false false) := by
  refine returnsInHanded_of_change (C := Try.checked) own started (by kernel_rfl) Try.func9
    (ChangeSpec.witness6 (enc := enc) (C := Try.checked) false ⟨#[], #[.string ByteArray.empty], []⟩ 8 (by kernel_rfl) (by kernel_rfl) (by kernel_rfl) (by kernel_rfl)) ?_
  intro W base args ds gs before hval0 hW hcnd _
  have hval : ∀ (j : Nat) t v, Try.f9.params[j]? = some t → args[j]? = some v → Value.okWide Try.prog W .any base t v := hval0
  have hW' := hW
  obtain ⟨p, q, hA0, hV, rfl, hfz, hnd⟩ := hW
  have hA : DataW.TrodAll enc Try.prog W 0 (fun _ => true) true Try.f9.params.toList args.toList ds p := hA0
  rw [Try.params9] at hA hval
  obtain ⟨v0, vs0, d0, ds0, p0, q0, hargs, rfl, rfl, h0, r0⟩ := trodAll_cons hA
  obtain ⟨rfl, rfl, rfl⟩ := trodAll_nil r0
  obtain rfl : args = #[v0] := by cases args; simp_all
  obtain ⟨rfl, rfl⟩ := trodVars_none hV
  obtain ⟨a0, rfl, rfl, rfl, w0⟩ := open_string Try.underlying9 (hval 0 9 v0 rfl rfl) h0
  clear hA0 hval0
  simp only [List.append_nil] at hW'
  refine (walk a0 w0 W).mono fun e W' ⟨he, hg⟩ => ?_
  subst he
  exact ⟨_, rfl, post_of_same (pa := []) (pv := []) hW' (fun _ _ _ => (trodAll_cons_mk (shut_bool Try.underlying4 _) trodAll_mk0)) (fun sp _ => (trodAll_cons_mk (shut_string Try.underlying9 w0) trodAll_mk0)) (fun _ _ => rfl) rfl
    (hg.frame _) hg.2.1 (ok_one (by kernel_rfl) rfl (okWide_bool_mk Try.underlying4 _))⟩

theorem closed : joinedFacts Try.prog 9 Try.f9 Rows.fnAtoiAcceptsDigitsAloneSpec Rows.fnAtoiAcceptsDigitsAloneRow = true := by
  unfold joinedFacts
  rw [Head.enter_is, Head.lifts_is, Head.make_is]
  kernel_rfl

theorem over : Rows.fnAtoiAcceptsDigitsAloneRow.holds Try.pinned (OpenSpec.ofChange Rows.fnAtoiAcceptsDigitsAloneSpec) :=
  OpenClaim.holds_of_wide 9 Try.f9 rfl rfl rfl rfl rfl rfl rfl ⟨rfl, rfl, rfl, rfl, rfl⟩ rfl rfl rfl rfl rfl (by kernel_rfl) Try.func9 closed
    (of_decide_eq_true (by kernel_rfl)) (by unfold Func.isWrapper; first | (rw [if_pos (by decide +kernel)]; kernel_rfl) | (rw [if_neg (by decide +kernel)]; exact ⟨rfl, rfl⟩))
    (fun os started H enc _ => lifted os started H enc)

/-- ████ THE STATEMENT ████ -/
theorem proved : Rows.FnAtoiAcceptsDigitsAloneSaid :=
  over
#print axioms proved
end Go.Proofs.Qxb6002458a.fnAtoiAcceptsDigitsAlone
