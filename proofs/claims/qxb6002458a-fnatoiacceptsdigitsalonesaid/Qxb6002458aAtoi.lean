import Derived.Test.Qxb6002458aRows
import Derived.Test.Qxb6002458aDec
import Derived.WalkKit
import Derived.ProofKit
import Derived.OpenShut
import Derived.ShutString
namespace Go.Proofs.Qxb6002458a.Atoi
open Go.ChangeShapes Go.WideShapes Go.ChangeAt Go.RowKit
set_option linter.unusedVariables false
open Dec

theorem take_snoc (s : ByteArray) (k : Nat) (h : k < s.size) : s.data.toList.take (k + 1) = s.data.toList.take k ++ [s[k]] := by
  rw [List.take_succ_eq_append_getElem (by simpa using h)]; rfl

theorem ret_two {n n' : Int} {b b' : Bool} (h1 : n = n') (h2 : b = b') : Ending.returned (.tuple #[.int .i64 n, .bool b]) = .returned (.tuple #[.int .i64 n', .bool b']) := by rw [h1, h2]

/-- 21: zzBytes -/
theorem zzBytes_small (s : ByteArray) (w : World) (h : s.size ≤ 1048576) :
    Calls Try.prog 21 #[.string s] w fun e w' => e = .returned (.bool true) ∧ w' = w := by
  go_enter Try.func21, Try.ntmps21
  go_wp2
  go_ret
  exact ⟨rfl, rfl⟩
theorem zzBytes_big (s : ByteArray) (w : World) (h : ¬ s.size ≤ 1048576) :
    Calls Try.prog 21 #[.string s] w fun e w' => e = .returned (.bool false) ∧ w' = w := by
  go_enter Try.func21, Try.ntmps21
  go_wp2
  go_ret
  exact ⟨rfl, rfl⟩

set_option maxHeartbeats 400000 in
/-- 36: atoi, at most nine bytes -/
theorem atoi_short (s : ByteArray) (w : World) (hs : s.size ≤ 9) :
    Calls Try.prog 36 #[.string s] w fun e w' => ∃ n, e = .returned (.tuple #[.int .i64 n, .bool (okT s.data.toList)]) ∧ w' = w ∧ (okT s.data.toList = true → n = val s.data.toList) ∧ (okT s.data.toList = false → n = 0) := by
  go_enter Try.func36, Try.ntmps36
  go_wp2
  go_loop [2, 4] (fun n i => ∃ k : Nat, k ≤ s.size ∧ i = .int .i64 k ∧ n = .int .i64 (val (s.data.toList.take k)) ∧ allD (s.data.toList.take k) = true) (fun _ i => s.size - (intOf i).toNat)
  case atStart => exact ⟨0, Nat.zero_le _, rfl, rfl, rfl⟩
  case round =>
    obtain ⟨k, hk, rfl, rfl, hall⟩ := hrel
    have hl : (s.data.toList.take k).length ≤ 9 := by rw [List.length_take]; omega
    obtain ⟨b1, b2⟩ := val_bd9 _ hl hall
    by_cases hlt : k < s.size
    · have hts := take_snoc s k hlt
      have HV : Hid (val (s.data.toList.take (k + 1)) = val (s.data.toList.take k) * 10 + ((s[k].toNat : Int) - 48)) := by
        show val (s.data.toList.take (k + 1)) = _
        rw [hts]; exact val_snoc _ _
      have HA : Hid (allD (s.data.toList.take (k + 1)) = (allD (s.data.toList.take k) && isD s[k])) := by
        show allD (s.data.toList.take (k + 1)) = _
        rw [hts]; exact allD_snoc _ _
      have HH : Hid (allD (s.data.toList.take k) = true) := hall
      clear hts hall hl
      by_cases hd : 48 ≤ (s[k].toNat : Int) ∧ (s[k].toNat : Int) ≤ 57
      · have HD : Hid (isD s[k] = true) := (isD_iff _).2 hd
        obtain ⟨hd1, hd2⟩ := hd
        go_wp2
        go_round
        case rel => exact ⟨k + 1, by omega, by go_num, by rw [HV.out], by rw [HA.out, HH.out, HD.out]; rfl⟩
        case measure => simp [intOf]; omega
      · have HO : Hid (okT s.data.toList = false) := by
          have hn : ¬ allD s.data.toList = true := fun h => hd ((isD_iff _).1 (allD_mem h (c := s[k]) (by
            have : s[k] = s.data.toList[k]'(by simpa using hlt) := rfl
            rw [this]; exact List.getElem_mem _)))
          have hn' : allD s.data.toList = false := by simpa using hn
          show okT s.data.toList = false
          unfold okT; rw [hn']; rfl
        by_cases hd1 : (s[k].toNat : Int) < 48
        · clear hd
          go_wp2
          go_ret2
          exact ⟨0, ret_two rfl HO.out.symm, rfl, fun h => absurd (h.symm.trans HO.out) (by decide), fun _ => rfl⟩
        · have hd2 : ¬ (s[k].toNat : Int) ≤ 57 := fun h => hd ⟨by omega, h⟩
          clear hd
          go_wp2
          go_ret2
          exact ⟨0, ret_two rfl HO.out.symm, rfl, fun h => absurd (h.symm.trans HO.out) (by decide), fun _ => rfl⟩
    · have ek : s.data.toList.take k = s.data.toList := List.take_of_length_le (by simp; omega)
      rw [ek] at hall
      have HO : Hid ((!s.toList.isEmpty) = okT s.data.toList) := by
        show (!s.toList.isEmpty) = okT s.data.toList
        unfold okT; rw [hall, ByteArray.toList_eq]; rfl
      have HN : Hid (okT s.data.toList = false → val (s.data.toList.take k) = 0) := by
        intro h
        unfold okT at h; rw [hall] at h
        have : s.data.toList = [] := by simpa using h
        rw [this]; simp [val]
      have HE : Hid (s.data.toList.take k = s.data.toList) := ek
      clear ek hall
      go_wp2
      go_ret2
      exact ⟨_, ret_two rfl HO.out, rfl, fun _ => by rw [HE.out], HN.out⟩

set_option maxHeartbeats 400000 in
/-- 36: atoi, ten bytes or more: the number may wrap, and nothing is said of it where all are digits -/
theorem atoi_long (s : ByteArray) (w : World) (h9 : 9 < s.size) (hs : s.size ≤ 65536) :
    Calls Try.prog 36 #[.string s] w fun e w' => ∃ n, e = .returned (.tuple #[.int .i64 n, .bool (okT s.data.toList)]) ∧ w' = w ∧ (okT s.data.toList = false → n = 0) := by
  go_enter Try.func36, Try.ntmps36
  go_wp2
  go_loop [2, 4] (fun n i => ∃ k : Nat, ∃ m : Int, k ≤ s.size ∧ i = .int .i64 k ∧ n = .int .i64 m ∧ allD (s.data.toList.take k) = true) (fun _ i => s.size - (intOf i).toNat)
  case atStart => exact ⟨0, 0, Nat.zero_le _, rfl, rfl, rfl⟩
  case round =>
    obtain ⟨k, m, hk, rfl, rfl, hall⟩ := hrel
    by_cases hlt : k < s.size
    · have hts := take_snoc s k hlt
      have HA : Hid (allD (s.data.toList.take (k + 1)) = (allD (s.data.toList.take k) && isD s[k])) := by
        show allD (s.data.toList.take (k + 1)) = _
        rw [hts]; exact allD_snoc _ _
      have HH : Hid (allD (s.data.toList.take k) = true) := hall
      clear hts hall
      by_cases hd : 48 ≤ (s[k].toNat : Int) ∧ (s[k].toNat : Int) ≤ 57
      · have HD : Hid (isD s[k] = true) := (isD_iff _).2 hd
        obtain ⟨hd1, hd2⟩ := hd
        go_wp2
        go_round
        case rel => exact ⟨k + 1, _, by omega, by go_num, rfl, by rw [HA.out, HH.out, HD.out]; rfl⟩
        case measure => simp [intOf]; omega
      · have HO : Hid (okT s.data.toList = false) := by
          have hn : ¬ allD s.data.toList = true := fun h => hd ((isD_iff _).1 (allD_mem h (c := s[k]) (by
            have : s[k] = s.data.toList[k]'(by simpa using hlt) := rfl
            rw [this]; exact List.getElem_mem _)))
          have hn' : allD s.data.toList = false := by simpa using hn
          show okT s.data.toList = false
          unfold okT; rw [hn']; rfl
        by_cases hd1 : (s[k].toNat : Int) < 48
        · clear hd
          go_wp2
          go_ret2
          exact ⟨0, ret_two rfl HO.out.symm, rfl, fun _ => rfl⟩
        · have hd2 : ¬ (s[k].toNat : Int) ≤ 57 := fun h => hd ⟨by omega, h⟩
          clear hd
          go_wp2
          go_ret2
          exact ⟨0, ret_two rfl HO.out.symm, rfl, fun _ => rfl⟩
    · have ek : s.data.toList.take k = s.data.toList := List.take_of_length_le (by simp; omega)
      rw [ek] at hall
      have hne : s.data.toList.isEmpty = false := by
        have : s.data.toList.length = s.size := by simp
        cases h : s.data.toList with
        | nil => rw [h] at this; simp at this; omega
        | cons a l => rfl
      have HO : Hid ((!s.toList.isEmpty) = okT s.data.toList) := by
        show (!s.toList.isEmpty) = okT s.data.toList
        unfold okT; rw [hall, ByteArray.toList_eq]; rfl
      have HT : Hid (okT s.data.toList = true) := by
        show okT s.data.toList = true
        unfold okT; rw [hall, hne]; rfl
      clear ek hall hne
      go_wp2
      go_ret2
      exact ⟨_, ret_two rfl HO.out, rfl, fun h => absurd (h.symm.trans HT.out) (by decide)⟩

/-- 22: ZZAtoi -/
theorem zzAtoi_any (s : ByteArray) (w : World) (hs : s.size ≤ 65536) :
    Calls Try.prog 22 #[.string s] w fun e w' => ∃ n, e = .returned (.tuple #[.int .i64 n, .bool (okT s.data.toList)]) ∧ w' = w ∧ (s.size ≤ 9 → okT s.data.toList = true → n = val s.data.toList) ∧ (okT s.data.toList = false → n = 0) := by
  have c : Calls Try.prog 36 #[.string s] w fun e w' => ∃ n, e = .returned (.tuple #[.int .i64 n, .bool (okT s.data.toList)]) ∧ w' = w ∧ (s.size ≤ 9 → okT s.data.toList = true → n = val s.data.toList) ∧ (okT s.data.toList = false → n = 0) := by
    by_cases h9 : s.size ≤ 9
    · refine (atoi_short s w h9).mono ?_
      rintro e w' ⟨n, rfl, rfl, h1, h2⟩
      exact ⟨n, rfl, rfl, fun _ => h1, h2⟩
    · refine (atoi_long s w (by omega) hs).mono ?_
      rintro e w' ⟨n, rfl, rfl, h2⟩
      exact ⟨n, rfl, rfl, fun h => absurd h h9, h2⟩
  go_enter Try.func22, Try.ntmps22
  go_wp2_with fail
  refine c.mono ?_
  rintro e w' ⟨n, rfl, rfl, h1, h2⟩
  have H : Hid ((s.size ≤ 9 → okT s.data.toList = true → n = val s.data.toList) ∧ (okT s.data.toList = false → n = 0)) := ⟨h1, h2⟩
  clear h1 h2
  go_wp2_with fail
  go_ret2
  exact ⟨_, rfl, rfl, H.out⟩

def Zeros (l : List UInt8) (k : Nat) : Prop := ∀ j, j < k → l[j]? = some 48
def Ends (l : List UInt8) (k : Nat) : Prop := k + 1 = l.length ∨ l[k]? ≠ some 48

set_option maxHeartbeats 400000 in
/-- 24: zzStripZeros, of a text that is not empty -/
theorem strip_any (s : ByteArray) (w : World) (h0 : 0 < s.size) (hs : s.size ≤ 65536) :
    Calls Try.prog 24 #[.string s] w fun e w' => ∃ k : Nat, e = .returned (.string (s.extract k s.size)) ∧ w' = w ∧ k < s.size ∧ Zeros s.data.toList k ∧ Ends s.data.toList k := by
  go_enter Try.func24, Try.ntmps24
  go_wp2
  go_loop [3] (fun i => ∃ k : Nat, k < s.size ∧ i = .int .i64 k ∧ Zeros s.data.toList k) (fun i => s.size - (intOf i).toNat)
  case atStart => exact ⟨0, h0, rfl, fun j hj => absurd hj (Nat.not_lt_zero j)⟩
  case round =>
    obtain ⟨k, hk, rfl, hz⟩ := hrel
    have HZ : Hid (Zeros s.data.toList k) := hz
    clear hz
    have HS : Hid (s.data.toList[k]? = some s[k]) := by
      show s.data.toList[k]? = some s[k]
      rw [List.getElem?_eq_getElem (by simpa using hk)]; rfl
    by_cases hlt : k + 1 < s.size
    · by_cases hc : (s[k].toNat : Int) = 48
      · have HC : Hid (s[k] = 48) := UInt8.toNat_inj.1 (by show s[k].toNat = 48; omega)
        have t : ((s[k].toNat : Int) == 48) = true := by simpa using hc
        clear hc
        go_wp2
        go_round
        case rel =>
          refine ⟨k + 1, by omega, by go_num, fun j hj => ?_⟩
          by_cases e : j = k
          · rw [e, HS.out, HC.out]
          · exact HZ.out j (by omega)
        case measure => simp [intOf]; omega
      · have HC : Hid (s.data.toList[k]? ≠ some 48) := by
          intro h
          rw [HS.out] at h
          have : s[k] = 48 := by simpa using h
          rw [this] at hc
          exact hc rfl
        have t : ((s[k].toNat : Int) == 48) = false := by simpa using hc
        clear hc
        go_wp2
        go_ret
        exact ⟨k, rfl, rfl, hk, HZ.out, .inr HC.out⟩
    · go_wp2
      go_ret
      exact ⟨k, rfl, rfl, hk, HZ.out, .inl (by simp; omega)⟩
end Go.Proofs.Qxb6002458a.Atoi
