import Derived.Test.Qxb6002458aAtoi
import Derived.Laws.BytesArg
namespace Go.Proofs.Qxb6002458a.Atoi
open Go.ChangeShapes Go.WideShapes Go.ChangeAt Go.RowKit
set_option linter.unusedVariables false
open Dec

/-- 23: zzItoa, nought -/
theorem itoa_zero (n : Int) (w : World) (h : n ≤ 0) :
    Calls Try.prog 23 #[.int .i64 n] w fun e w' => e = .returned (.string (strOfNums [48])) ∧ w' = w := by
  go_enter Try.func23, Try.ntmps23
  go_wp2
  go_ret
  exact ⟨rfl, rfl⟩

/-- the greatest that is left behind k rounds -/
def left : Nat → Int
  | 0 => 999999999
  | k + 1 => left k / 10
theorem left_end : ∀ j, left (9 + j) = 0
  | 0 => by decide
  | j + 1 => by show left (9 + j) / 10 = 0; rw [left_end j]; rfl
theorem left_lt (k : Nat) (h : 0 < left k) : k ≤ 8 := by
  by_cases c : k ≤ 8
  · exact c
  · obtain ⟨j, rfl⟩ : ∃ j, k = 9 + j := ⟨k - 9, by omega⟩
    rw [left_end] at h; omega

/-- the array of 24 bytes whose last are L -/
def bufOf (L : List Int) : Array Value := ((List.replicate (24 - L.length) 0 ++ L).map (Value.int .u8)).toArray

theorem bufOf_nil : bufOf [] = #[Value.int IntKind.u8 0, Value.int IntKind.u8 0, Value.int IntKind.u8 0, Value.int IntKind.u8 0,
      Value.int IntKind.u8 0, Value.int IntKind.u8 0, Value.int IntKind.u8 0, Value.int IntKind.u8 0,
      Value.int IntKind.u8 0, Value.int IntKind.u8 0, Value.int IntKind.u8 0, Value.int IntKind.u8 0,
      Value.int IntKind.u8 0, Value.int IntKind.u8 0, Value.int IntKind.u8 0, Value.int IntKind.u8 0,
      Value.int IntKind.u8 0, Value.int IntKind.u8 0, Value.int IntKind.u8 0, Value.int IntKind.u8 0,
      Value.int IntKind.u8 0, Value.int IntKind.u8 0, Value.int IntKind.u8 0, Value.int IntKind.u8 0] := rfl

theorem bufOf_size (L : List Int) (h : L.length ≤ 24) : (bufOf L).size = 24 := by
  unfold bufOf; simp; omega

theorem bufOf_free (L : List Int) (j : Nat) (h : j + L.length = 24) (h0 : 0 < j) : (bufOf L)[j - 1]? = some (.int .u8 0) := by
  unfold bufOf
  rw [List.getElem?_toArray, List.getElem?_map, List.getElem?_append_left (by simp; omega), List.getElem?_replicate, if_pos (by omega)]
  rfl

theorem bufOf_last (L : List Int) (j i : Nat) (h : j + L.length = 24) (hi : i < L.length) : (bufOf L)[j + i]? = some (.int .u8 (L.getD i 0)) := by
  unfold bufOf
  rw [List.getElem?_toArray, List.getElem?_map, List.getElem?_append_right (by simp; omega)]
  simp only [List.length_replicate]
  rw [show j + i - (24 - L.length) = i by omega, List.getElem?_eq_getElem hi]
  simp [List.getD, List.getElem?_eq_getElem hi]

theorem bufOf_put (L : List Int) (j : Nat) (d : Int) (h : j + L.length = 24) (h0 : 0 < j) : (bufOf L).setIfInBounds (j - 1) (.int .u8 d) = bufOf (d :: L) := by
  unfold bufOf
  rw [List.setIfInBounds_toArray]
  congr 1
  rw [← List.map_set]
  congr 1
  rw [List.set_append_left _ _ (by simp; omega)]
  have e : 24 - L.length = (j - 1) + 1 := by omega
  have e' : 24 - (d :: L).length = j - 1 := by simp; omega
  rw [e, e', List.replicate_succ', List.set_append_right _ _ (by simp)]
  simp

theorem len47 : Try.prog.arrayLen 47 = 24 := by kernel_rfl
theorem elem47 : Try.prog.elem 47 = 5 := by kernel_rfl
theorem und47 : Try.prog.underlying 47 = some (.array (Try.prog.arrayLen 47) (Try.prog.elem 47)) := by kernel_rfl

/-- 'buf[i:]' of the array behind the pointer -/
theorem slice_buf (W : World) (b j : Nat) (h : j < 24) :
    (Instr.sliceAt 47 (.pointer (some ⟨b, 0, none⟩)) (some (.int .i64 (j : Int))) none none).run Try.prog W = .ok (.slice (some ⟨b, j, none⟩) (24 - j) (24 - j)) W := by
  rw [run_sliceAt_array_l W 47 ⟨b, 0, none⟩ und47 .i64 (j : Int) (by omega) (by rw [len47]; omega), elem47, len47]
  have e : (sizeOf 5).run Try.prog W = .ok 1 W := by
    simp
  rw [e]
  simp only [Result.andThen, slicedAt, Int.toNat_natCast]
  rw [if_neg (by omega)]
  simp [Addr.add]
  omega

theorem step_dec (k : Nat) (m : Int) (L : List Int) (n0 : Int) (h : 0 < m) (hk : k ≤ 8) (hd : decF (9 - k) m ++ L = decF 9 n0) : decF (9 - (k + 1)) (m / 10) ++ ((48 + m % 10) :: L) = decF 9 n0 := by
  rw [show 9 - k = (9 - (k + 1)) + 1 by omega, decF_pos _ _ h, List.append_assoc] at hd
  exact hd

set_option maxHeartbeats 400000 in
/-- 23: zzItoa -/
theorem itoa_pos (n0 : Int) (w : World) (h1 : 0 < n0) (h2 : n0 ≤ 999999999) :
    Calls Try.prog 23 #[.int .i64 n0] w fun e w' => e = .returned (.string (strOfNums (decF 9 n0))) ∧ Grown w w' := by
  go_enter Try.func23, Try.ntmps23
  go_wp2
  rw [← bufOf_nil]
  go_loopw [0, 4] (fun n i wr => ∃ k j : Nat, ∃ m : Int, ∃ L : List Int, k ≤ 9 ∧ j + k = 24 ∧ 0 ≤ m ∧ m ≤ left k ∧ m ≤ 999999999 ∧ n = .int .i64 m ∧ i = .int .i64 j ∧ L.length = k ∧ decF (9 - k) m ++ L = decF 9 n0 ∧ wr = w.alloc (.cells (bufOf L) 47)) (fun n _ _ => (intOf n).toNat)
  case atStart => exact ⟨0, 24, n0, [], by omega, by omega, by omega, by show n0 ≤ 999999999; omega, h2, rfl, rfl, rfl, by simp, rfl⟩
  case round =>
    obtain ⟨k, j, m, L, hk, hj, hm0, hm1, hm2, rfl, rfl, hL, hD, rfl⟩ := hrel
    have HD : Hid (decF (9 - k) m ++ L = decF 9 n0) := hD
    have HL : Hid (L.length = k) := hL
    have hjL : j + L.length = 24 := by omega
    have HJ : Hid (j + L.length = 24) := hjL
    have hsz := bufOf_size L (by omega)
    by_cases hlt : 0 < m
    · have hk8 := left_lt k (by omega)
      have hfree := bufOf_free L j hjL (by omega)
      clear hD hL hjL
      go_wp2
      go_roundw
      case rel => exact ⟨k + 1, j - 1, m / 10, (48 + m % 10) :: L, by omega, by omega, by omega, by show m / 10 ≤ left k / 10; omega, by omega, rfl, by go_num, by simp [HL.out], step_dec k m L n0 hlt hk8 HD.out, by rw [bufOf_put L j _ HJ.out (by omega)]⟩
      case measure => simp [intOf]; omega
    · have em : m = 0 := by omega
      subst em
      rw [decF_zero, List.nil_append] at hD
      have hne : L ≠ [] := by
        intro e; rw [e, decF_pos 8 n0 h1] at hD
        exact absurd hD.symm (by simp)
      have hlen : 0 < L.length := List.length_pos_iff.2 hne
      have hsl := slice_buf (w.alloc (.cells (bufOf L) 47)) w.heap.size j (by omega)
      have hcv := run_convert_bytes_arg (P := Try.prog) (w.alloc (.cells (bufOf L) 47)) 48 5 Try.underlying48 Try.underlying5 w.heap.size j (24 - j) (24 - j) L (by omega)
        (fun i hi => by rw [World.cell?_alloc_at _ _ _ _ rfl]; exact bufOf_last L j i hjL (by omega)) 9 Try.underlying9
      have HE : Hid (L = decF 9 n0) := hD
      clear hD hL hjL hne hlen hm1 hsz
      go_wp2
      go_ret
      exact ⟨by rw [← HE.out]; rfl, by repeat (first | exact Grown.refl _ | apply Grown.drew | apply Grown.alloc)⟩
end Go.Proofs.Qxb6002458a.Atoi
