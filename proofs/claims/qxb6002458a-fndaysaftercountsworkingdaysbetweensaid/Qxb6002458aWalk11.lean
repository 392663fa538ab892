import Derived.Test.Qxb6002458aAfter
import Derived.WalkSpells
import Derived.Deep.OwnRows
import Derived.Deep.QuietTactic
import Derived.BigQuiet
import Derived.Below
namespace Go.Proofs.Qxb6002458a.Search
open Go.ChangeShapes Go.WideShapes Go.ChangeAt Go.RowKit
set_option linter.unusedVariables false

theorem below_drewN {B : Nat} {a w : World} (h : Below B a w) (n : Nat) : Below B a (w.drewN n) := ⟨h.os, h.tape, h.output, h.size, h.block⟩

/-- the row's cells, in a world -/
def RowAt (w : World) (b off len : Nat) (zs : List Int) : Prop := ∀ i, i < len → w.cell? ⟨b, off + i, none⟩ = some (.int .i32 (zs.getD i 0))
/-- ascending as far as looked at -/
def AscTo (zs : List Int) (k : Nat) : Prop := ∀ m, m + 1 < k → zs.getD m 0 < zs.getD (m + 1) 0

theorem asc_of {zs : List Int} {len : Nat} (h : AscTo zs len) : Asc zs len := by
  intro i j hij hj
  have step : ∀ d, i + d + 1 < len → zs.getD i 0 < zs.getD (i + d + 1) 0 := by
    intro d
    induction d with
    | zero => intro hd; exact h i hd
    | succ d ih =>
      intro hd
      have a := ih (by omega)
      have c := h (i + d + 1) (by omega)
      rw [show i + (d + 1) + 1 = i + d + 1 + 1 by omega]
      omega
  have := step (j - i - 1) (by omega)
  rwa [show i + (j - i - 1) + 1 = j by omega] at this

theorem lt_of_cell {w : World} {b o : Nat} {v : Value} (h : w.cell? ⟨b, o, none⟩ = some v) : b < w.heap.size := by
  rcases Nat.lt_or_ge b w.heap.size with c | c
  · exact c
  · simp [World.cell?, Array.getElem?_eq_none c] at h

theorem asc_step {zs : List Int} {k : Nat} (h : AscTo zs k) (hk : zs.getD (k - 1) 0 < zs.getD k 0) : AscTo zs (k + 1) := by
  intro m hm
  by_cases e : m + 1 = k
  · subst e; simpa using hk
  · exact h m (by omega)

/-- a new row of n cells, the first k of them filled -/
def filled (zs : List Int) (n k : Nat) : Array Value := (((zs.take k).map (Value.int .i32)) ++ List.replicate (n - k) (Value.int .i32 0)).toArray

theorem filled_made (zs : List Int) (n : Nat) : madeCells #[.int .i32 0] n = filled zs n 0 := by
  unfold filled
  rw [← toList_madeCells_one]
  simp

theorem filled_next (zs : List Int) (n k : Nat) (h : k < n) (hz : n ≤ zs.length) : (filled zs n k)[k]? = some (.int .i32 0) := by
  unfold filled
  have hl : ((zs.take k).map (Value.int .i32)).length = k := by simp; omega
  rw [List.getElem?_toArray, List.getElem?_append_right (by omega), hl, Nat.sub_self, List.getElem?_replicate, if_pos (by omega)]

theorem filled_put (zs : List Int) (n k : Nat) (h : k < n) (hz : n ≤ zs.length) : (filled zs n k).setIfInBounds k (.int .i32 (zs.getD k 0)) = filled zs n (k + 1) := by
  unfold filled
  rw [List.setIfInBounds_toArray]
  congr 1
  have hl : ((zs.take k).map (Value.int .i32)).length = k := by simp; omega
  rw [List.set_append_right _ _ (by omega), hl, Nat.sub_self]
  rw [show n - k = (n - (k + 1)) + 1 by omega, List.replicate_succ, List.set_cons_zero]
  rw [List.take_succ_eq_append_getElem (by omega : k < zs.length), List.map_append, List.append_assoc]
  congr 1
  simp [List.getD, List.getElem?_eq_getElem (by omega : k < zs.length)]

theorem filled_at (zs : List Int) (n i : Nat) (h : i < n) (hz : n ≤ zs.length) : (filled zs n n)[i]? = some (.int .i32 (zs.getD i 0)) := by
  unfold filled
  rw [List.getElem?_toArray, List.getElem?_append_left (by simp; omega), List.getElem?_map, List.getElem?_take, if_pos h]
  simp [List.getD, List.getElem?_eq_getElem (by omega : i < zs.length)]

theorem info21 : (Try.prog.info? 21).map (fun i => (i.zero, i.size, i.bytes)) = some (some (.int .i32 0), 1, 4) := by kernel_rfl
theorem info37 : (Try.prog.info? 37).map (fun i => (i.zero, i.size, i.bytes)) = some (some (.int .i32 0), 1, 4) := by kernel_rfl

set_option maxHeartbeats 1000000 in
theorem walk_row (b off len cap : Nat) (zs : List Int) (f t : Int) (w : World) (h1 : 1 ≤ len) (h2 : len ≤ 65536) (hz : len ≤ zs.length)
    (hrow : RowAt w b off len zs) (f1 : -2147483648 ≤ f) (f2 : f < 2147483647) (t1 : -2147483648 ≤ t) (t2 : t < 2147483647) :
    Calls Try.prog 11 #[.slice (some ⟨b, off, none⟩) len cap, .int .i32 f, .int .i32 t] w fun e w' => e = .returned (.bool true) ∧ Below w.heap.size w w' := by
  have hb := lt_of_cell (hrow 0 (by omega))
  have HR : Hid (RowAt w b off len zs) := hrow
  clear hrow
  have e1 : (f == 2147483647) = false := by simp; omega
  have e2 : (t == 2147483647) = false := by simp; omega
  go_enter Try.func11, Try.ntmps11
  go_wp2_with fail
  refine (zzBytes_small _ _ _ _ _ _ (by omega)).mono ?_
  rintro e w ⟨rfl, rfl⟩
  go_wp2_with fail
  go_loopw [7] (fun i wr => ∃ k : Nat, 1 ≤ k ∧ k ≤ len ∧ i = .int .i64 k ∧ AscTo zs k ∧ RowAt wr b off len zs ∧ Below w.heap.size w wr) (fun i _ => len - (intOf i).toNat)
  case atStart => exact ⟨1, by omega, h1, rfl, fun m hm => absurd hm (by omega), HR.out, Below.refl _ _⟩
  case round =>
    obtain ⟨k, hk1, hk2, rfl, hasc, hrow, hbel⟩ := hrel
    have HS : Hid (AscTo zs k) := hasc
    have HW : Hid (RowAt wr b off len zs) := hrow
    have HB : Hid (Below w.heap.size w wr) := hbel
    have hbw : b < wr.heap.size := lt_of_cell (hrow 0 (by omega))
    clear hasc hrow hbel HR
    by_cases hlt : k < len
    · have hx := HW.out (k - 1) (by omega)
      have hy := HW.out k (by omega)
      generalize hxe : zs.getD (k - 1) 0 = x at hx
      generalize hye : zs.getD k 0 = y at hy
      have HX : Hid (zs.getD (k - 1) 0 = x) := hxe
      have HY : Hid (zs.getD k 0 = y) := hye
      clear hxe hye
      by_cases hxy : y ≤ x
      · go_wp2_with fail
        go_quiet (fail)
        go_wp2_with fail
        go_ret
        exact ⟨rfl, below_drewN HB.out _⟩
      · go_wp2_with fail
        go_quiet (fail)
        go_wp2_with fail
        go_roundw
        case rel => exact ⟨k + 1, by omega, by omega, by go_num, asc_step HS.out (by rw [HX.out, HY.out]; omega), HW.out, below_drewN HB.out _⟩
        case measure => simp [intOf]; omega
    · have e : len = k := by omega
      subst e
      have hneq : ∀ (W : World) (a : Option Addr) (n c : Nat), (binOp .neq 40 (.slice a n c) (.slice none 0 0)).run Try.prog W = .ok (.bool (!a.isNone)) W := fun W a n c => run_neq_slice_nil_any W 40 21 a n c 0 0 Try.underlying40
      have hmk1 : ∀ W : World, (Instr.makeSlice 40 (.int .i64 (len : Int)) (.int .i64 (len : Int))).run Try.prog W = .ok (.slice (some ⟨W.heap.size, 0, none⟩) len len) (W.alloc (.cells (filled zs len 0) 21)) := fun W => by
        rw [← filled_made]; exact run_make_row' (P := Try.prog) 40 21 (.int .i32 0) 4 Try.underlying40 info21 rfl .i64 .i64 len (by omega) (by omega) W
      have hmk2 : ∀ W : World, (Instr.makeSlice 42 (.int .i64 (len : Int)) (.int .i64 (len : Int))).run Try.prog W = .ok (.slice (some ⟨W.heap.size, 0, none⟩) len len) (W.alloc (.cells (filled zs len 0) 37)) := fun W => by
        rw [← filled_made]; exact run_make_row' (P := Try.prog) 42 37 (.int .i32 0) 4 Try.underlying42 info37 rfl .i64 .i64 len (by omega) (by omega) W
      go_wp2_with fail
      go_loopw [9] (fun i ws => ∃ k : Nat, k ≤ len ∧ i = .int .i64 k ∧ ws = wr.alloc (.cells (filled zs len k) 21)) (fun i _ => len - (intOf i).toNat)
      case atStart => exact ⟨0, Nat.zero_le _, rfl, rfl⟩
      case round =>
        obtain ⟨k, hk, rfl, rfl⟩ := hrel
        by_cases hlt2 : k < len
        · have hx := HW.out k hlt2
          generalize hxe : zs.getD k 0 = x at hx
          have hnext := filled_next zs len k hlt2 hz
          have HP : Hid ((filled zs len k).setIfInBounds k (.int .i32 x) = filled zs len (k + 1)) := by
            rw [← hxe]; exact filled_put zs len k hlt2 hz
          clear hxe
          go_wp2_with fail
          go_roundw
          case rel => exact ⟨k + 1, by omega, by go_num, by rw [HP.out]⟩
          case measure => simp [intOf]; omega
        · have e : len = k := by omega
          subst e
          go_wp2_with fail
          go_loopw [11] (fun i ws => ∃ k : Nat, k ≤ len ∧ i = .int .i64 k ∧ ws = (wr.alloc (.cells (filled zs len len) 21)).alloc (.cells (filled zs len k) 37)) (fun i _ => len - (intOf i).toNat)
          case atStart => exact ⟨0, Nat.zero_le _, rfl, rfl⟩
          case round =>
            obtain ⟨k, hk, rfl, rfl⟩ := hrel
            by_cases hlt3 : k < len
            · have hx := filled_at zs len k hlt3 hz
              generalize hxe : zs.getD k 0 = x at hx
              have hnext := filled_next zs len k hlt3 hz
              have HP : Hid ((filled zs len k).setIfInBounds k (.int .i32 x) = filled zs len (k + 1)) := by
                rw [← hxe]; exact filled_put zs len k hlt3 hz
              clear hxe
              go_wp2_with fail
              go_roundw
              case rel => exact ⟨k + 1, by omega, by go_num, by rw [HP.out]⟩
              case measure => simp [intOf]; omega
            · have e : len = k := by omega
              subst e
              have HA : Hid (Asc zs len) := asc_of HS.out
              go_wp2_with fail
              refine (calendarOf_any _ _ _ _).mono ?_
              rintro e w3 ⟨rfl, hw3⟩
              have hp : w3.cell? ⟨wr.heap.size + 1 + 1, 0, none⟩ = some (.slice (some ⟨wr.heap.size + 1, 0, none⟩) len len) := by
                rw [hw3, World.cell?_alloc_at _ _ _ _ (by simp)]; rfl
              have hd : ∀ i, i < len → w3.cell? ⟨wr.heap.size + 1, i, none⟩ = some (.int .i32 (zs.getD i 0)) := fun i hi => by
                rw [hw3, World.cell?_alloc_past _ _ _ (by simp), World.cell?_alloc_at _ _ _ _ (by simp)]; exact filled_at zs len i hi hz
              have hc : ∀ i, i < len → w3.cell? ⟨wr.heap.size, i, none⟩ = some (.int .i32 (zs.getD i 0)) := fun i hi => by
                rw [hw3, World.cell?_alloc_past _ _ _ (by simp; omega), World.cell?_alloc_past _ _ _ (by simp), World.cell?_alloc_at _ _ _ _ rfl]; exact filled_at zs len i hi hz
              have hb3 : Below w.heap.size w w3 := by
                rw [hw3]
                have hs := HB.out.size
                exact ((HB.out.alloc hs _).alloc (by simp; omega) _).alloc (by simp; omega) _
              have HP : Hid (w3.cell? ⟨wr.heap.size + 1 + 1, 0, none⟩ = some (.slice (some ⟨wr.heap.size + 1, 0, none⟩) len len)) := hp
              have HD : Hid (∀ i, i < len → w3.cell? ⟨wr.heap.size + 1, i, none⟩ = some (.int .i32 (zs.getD i 0))) := hd
              have HC : Hid (∀ i, i < len → w3.cell? ⟨wr.heap.size, i, none⟩ = some (.int .i32 (zs.getD i 0))) := hc
              have HB3 : Hid (Below w.heap.size w w3) := hb3
              clear hp hd hc hb3 hw3
              go_wp2_with fail
              refine (daysAfter_any zs (wr.heap.size + 1) len len (wr.heap.size + 1 + 1) f t w3 h2 HP.out HD.out HA.out f1 f2 t1 t2).mono ?_
              rintro e w4 ⟨i1, j1, r, rfl, hw4, hi1, lo1, hh1, hj1, lo2, hh2, hr⟩
              subst hw4
              have HE : Hid (cnt zs f t len = r) := by
                show cnt zs f t len = r
                rw [hr]; exact cnt_all lo1 hh1 hj1 lo2 hh2
              clear hi1 lo1 hh1 hj1 lo2 hh2 hr
              go_wp2_with fail
              go_loop [14, 15] (fun n i => ∃ k : Nat, k ≤ len ∧ i = .int .i64 k ∧ n = .int .i64 (cnt zs f t k)) (fun _ i => len - (intOf i).toNat)
              case atStart => exact ⟨0, Nat.zero_le _, rfl, rfl⟩
              case round =>
                obtain ⟨k, hk, rfl, rfl⟩ := hrel
                obtain ⟨cb1, cb2⟩ := cnt_bd zs f t k
                by_cases hlt4 : k < len
                · have hx := HC.out k hlt4
                  have HY : Hid (f < zs.getD k 0 → zs.getD k 0 ≤ t → cnt zs f t (k + 1) = cnt zs f t k + 1) := cnt_yes zs f t k
                  have HN : Hid (¬ (f < zs.getD k 0 ∧ zs.getD k 0 ≤ t) → cnt zs f t (k + 1) = cnt zs f t k) := cnt_no zs f t k
                  generalize hxe : zs.getD k 0 = x at hx HY HN
                  clear hxe
                  by_cases c1 : f < x
                  · by_cases c2 : x ≤ t
                    · have HK : Hid (cnt zs f t (k + 1) = cnt zs f t k + 1) := HY.out c1 c2
                      go_wp2_with fail
                      go_round
                      case rel => exact ⟨k + 1, by omega, by go_num, by rw [HK.out]⟩
                      case measure => simp [intOf]; omega
                    · have HK : Hid (cnt zs f t (k + 1) = cnt zs f t k) := HN.out (fun h => c2 h.2)
                      go_wp2_with fail
                      go_round
                      case rel => exact ⟨k + 1, by omega, by go_num, by rw [HK.out]⟩
                      case measure => simp [intOf]; omega
                  · have HK : Hid (cnt zs f t (k + 1) = cnt zs f t k) := HN.out (fun h => c1 h.1)
                    go_wp2_with fail
                    go_round
                    case rel => exact ⟨k + 1, by omega, by go_num, by rw [HK.out]⟩
                    case measure => simp [intOf]; omega
                · have e : len = k := by omega
                  subst e
                  have t0 : (r == cnt zs f t len) = true := by rw [HE.out]; simp
                  go_wp2_with fail
                  go_ret
                  exact ⟨rfl, HB3.out⟩
end Go.Proofs.Qxb6002458a.Search
