import Derived.Test.Qxb6002458aRows
import Derived.WalkKit
import Derived.ProofKit
import Derived.KernelRfl
/-! The translation's head is a text of over a thousand signs. Three of the row's closed facts read it; reckoned by the kernel from the text itself they outgrow the memory lid. Here the head is read ONCE, by a plain lemma on 'wordsSigns', and the three facts follow. -/
namespace Go.Proofs.Qxb6002458a.Head
open Go
def sumCodes : List Nat :=
   [56, 97, 50, 98, 56, 50, 53, 56, 48, 54, 98, 99, 53, 48, 102, 51, 56, 102, 99, 48, 99, 101, 55, 54,
    52, 48, 102, 98, 97, 55, 48, 54, 57, 56, 57, 56, 50, 100, 52, 52, 49, 51, 48, 53, 50, 52, 101, 101,
    48, 51, 100, 48, 52, 50, 57, 54, 48, 48, 57, 56, 56, 100, 56, 56]
def restCodes : List Nat :=
   [97, 116, 32, 101, 120, 97, 109, 112, 108, 101, 46, 99, 111, 109, 47, 122, 104, 97, 111, 109, 117, 47, 122, 104,
    97, 111, 109, 117, 47, 122, 122, 108, 97, 119, 115, 95, 99, 97, 108, 101, 110, 100, 97, 114, 95, 103, 49, 46,
    70, 110, 67, 105, 118, 105, 108, 73, 110, 118, 101, 114, 116, 115, 68, 97, 121, 115, 70, 114, 111, 109, 49, 57,
    55, 48, 32, 101, 120, 97, 109, 112, 108, 101, 46, 99, 111, 109, 47, 122, 104, 97, 111, 109, 117, 47, 122, 104,
    97, 111, 109, 117, 47, 122, 122, 108, 97, 119, 115, 95, 99, 97, 108, 101, 110, 100, 97, 114, 95, 103, 49, 46,
    70, 110, 68, 97, 121, 115, 70, 114, 111, 109, 49, 57, 55, 48, 73, 110, 118, 101, 114, 116, 115, 67, 105, 118,
    105, 108, 32, 101, 120, 97, 109, 112, 108, 101, 46, 99, 111, 109, 47, 122, 104, 97, 111, 109, 117, 47, 122, 104,
    97, 111, 109, 117, 47, 122, 122, 108, 97, 119, 115, 95, 99, 97, 108, 101, 110, 100, 97, 114, 95, 103, 49, 46,
    70, 110, 67, 105, 118, 105, 108, 83, 116, 101, 112, 115, 79, 110, 101, 68, 97, 121, 32, 101, 120, 97, 109, 112,
    108, 101, 46, 99, 111, 109, 47, 122, 104, 97, 111, 109, 117, 47, 122, 104, 97, 111, 109, 117, 47, 122, 122, 108,
    97, 119, 115, 95, 99, 97, 108, 101, 110, 100, 97, 114, 95, 103, 49, 46, 70, 110, 68, 97, 121, 115, 73, 110,
    77, 111, 110, 116, 104, 73, 115, 77, 111, 110, 116, 104, 83, 112, 97, 110, 32, 101, 120, 97, 109, 112, 108, 101,
    46, 99, 111, 109, 47, 122, 104, 97, 111, 109, 117, 47, 122, 104, 97, 111, 109, 117, 47, 122, 122, 108, 97, 119,
    115, 95, 99, 97, 108, 101, 110, 100, 97, 114, 95, 103, 49, 46, 70, 110, 68, 97, 121, 115, 70, 114, 111, 109,
    49, 57, 55, 48, 79, 114, 100, 101, 114, 115, 65, 115, 68, 97, 116, 101, 115, 32, 101, 120, 97, 109, 112, 108,
    101, 46, 99, 111, 109, 47, 122, 104, 97, 111, 109, 117, 47, 122, 104, 97, 111, 109, 117, 47, 122, 122, 108, 97,
    119, 115, 95, 99, 97, 108, 101, 110, 100, 97, 114, 95, 103, 49, 46, 70, 110, 70, 108, 111, 111, 114, 68, 105,
    118, 73, 115, 70, 108, 111, 111, 114, 32, 101, 120, 97, 109, 112, 108, 101, 46, 99, 111, 109, 47, 122, 104, 97,
    111, 109, 117, 47, 122, 104, 97, 111, 109, 117, 47, 122, 122, 108, 97, 119, 115, 95, 99, 97, 108, 101, 110, 100,
    97, 114, 95, 103, 49, 46, 70, 110, 65, 116, 111, 105, 65, 99, 99, 101, 112, 116, 115, 68, 105, 103, 105, 116,
    115, 65, 108, 111, 110, 101, 32, 101, 120, 97, 109, 112, 108, 101, 46, 99, 111, 109, 47, 122, 104, 97, 111, 109,
    117, 47, 122, 104, 97, 111, 109, 117, 47, 122, 122, 108, 97, 119, 115, 95, 99, 97, 108, 101, 110, 100, 97, 114,
    95, 103, 49, 46, 70, 110, 70, 114, 111, 109, 68, 105, 103, 105, 116, 115, 65, 99, 99, 101, 112, 116, 115, 82,
    101, 97, 108, 68, 97, 121, 115, 65, 108, 111, 110, 101, 32, 101, 120, 97, 109, 112, 108, 101, 46, 99, 111, 109,
    47, 122, 104, 97, 111, 109, 117, 47, 122, 104, 97, 111, 109, 117, 47, 122, 122, 108, 97, 119, 115, 95, 99, 97,
    108, 101, 110, 100, 97, 114, 95, 103, 50, 46, 70, 110, 68, 97, 121, 115, 65, 102, 116, 101, 114, 67, 111, 117,
    110, 116, 115, 87, 111, 114, 107, 105, 110, 103, 68, 97, 121, 115, 66, 101, 116, 119, 101, 101, 110, 32, 101, 120,
    97, 109, 112, 108, 101, 46, 99, 111, 109, 47, 122, 104, 97, 111, 109, 117, 47, 122, 104, 97, 111, 109, 117, 47,
    122, 122, 108, 97, 119, 115, 95, 99, 97, 108, 101, 110, 100, 97, 114, 95, 103, 50, 46, 70, 110, 68, 97, 121,
    115, 73, 110, 89, 101, 97, 114, 67, 111, 117, 110, 116, 115, 84, 104, 101, 68, 97, 116, 101, 115, 79, 102, 73,
    116, 115, 89, 101, 97, 114, 32, 101, 120, 97, 109, 112, 108, 101, 46, 99, 111, 109, 47, 122, 104, 97, 111, 109,
    117, 47, 122, 104, 97, 111, 109, 117, 47, 122, 122, 108, 97, 119, 115, 95, 99, 97, 108, 101, 110, 100, 97, 114,
    95, 103, 50, 46, 70, 110, 89, 101, 97, 114, 82, 101, 112, 101, 97, 116, 115, 69, 118, 101, 114, 121, 52, 48,
    48, 89, 101, 97, 114, 115]
def sumChars : List Char := sumCodes.map Char.ofNat
def restChars : List Char := restCodes.map Char.ofNat
def allChars : List Char := ['h', 'a', 'r', 'n', 'e', 's', 's', ' '] ++ (sumChars ++ ([' ', 'c', 'u', 't', ' '] ++ restChars))
set_option maxRecDepth 100000 in
theorem head_is : Try.prog.initOrder = String.ofList allChars := by kernel_rfl
theorem head_list : Try.prog.initOrder.toList = allChars := by rw [head_is, String.toList_ofList]

theorem words_word : ∀ (a r : List Char), (a.all fun c => c != ' ') = true → wordsSigns (a ++ ' ' :: r) = a :: wordsSigns r
  | [], r, _ => by simp [wordsSigns]
  | c :: a, r, h => by
    simp only [List.all_cons, Bool.and_eq_true, bne_iff_ne, ne_eq] at h
    have ih := words_word a r h.2
    rw [List.cons_append]
    rw [wordsSigns.eq_3 c _ h.1, ih]

theorem sum_plain : (sumChars.all fun c => c != ' ') = true := by kernel_rfl
theorem sum_is : isSumSigns sumChars = true := by kernel_rfl

theorem words : wordsSigns Try.prog.initOrder.toList = ['h', 'a', 'r', 'n', 'e', 's', 's'] :: sumChars :: ['c', 'u', 't'] :: wordsSigns restChars := by
  rw [head_list]
  have e : allChars = ['h', 'a', 'r', 'n', 'e', 's', 's'] ++ ' ' :: (sumChars ++ ' ' :: (['c', 'u', 't'] ++ ' ' :: restChars)) := by
    unfold allChars; simp only [List.cons_append, List.nil_append]
  rw [e, words_word _ _ (by decide), words_word _ _ sum_plain, words_word _ _ (by decide)]

theorem behind_of (s : List Char) (R : List (List Char)) (h : isSumSigns s = true) :
    behindMainWord (['h', 'a', 'r', 'n', 'e', 's', 's'] :: s :: ['c', 'u', 't'] :: R) = ['c', 'u', 't'] :: R := by
  have e : (['h', 'a', 'r', 'n', 'e', 's', 's'] == "harness".toList) = true := by decide +kernel
  simp only [behindMainWord, e, h, Bool.true_or, Bool.and_self, if_true]

theorem behind : behindMainWord (wordsSigns Try.prog.initOrder.toList) = ['c', 'u', 't'] :: wordsSigns restChars := by
  rw [words, behind_of _ _ sum_is]

theorem strip_cut (R : List (List Char)) : stripLifts liftWords (['c', 'u', 't'] :: R) = ([], ['c', 'u', 't'] :: R) := by kernel_rfl

theorem cut_gc : (['c', 'u', 't'] == "gc".toList) = false := by decide +kernel
theorem cut_spec : (['c', 'u', 't'] == "spec".toList) = false := by decide +kernel
theorem cut_carried : (['c', 'u', 't'] == "carried".toList) = false := by decide +kernel
theorem cut_cut : (['c', 'u', 't'] == "cut".toList) = true := by decide +kernel

theorem make_of (P : Program) (R : List (List Char)) (h : behindMainWord (wordsSigns P.initOrder.toList) = ['c', 'u', 't'] :: R) : P.make = some .cut := by
  unfold Program.make
  rw [h]
  simp only [cut_gc, cut_spec, cut_cut, Bool.or_self, Bool.true_or, if_true, if_false, Bool.false_eq_true]

theorem headLifts_of (P : Program) (R : List (List Char)) (h : behindMainWord (wordsSigns P.initOrder.toList) = ['c', 'u', 't'] :: R) : P.headLifts = [] := by
  unfold Program.headLifts
  rw [h, strip_cut]
  simp only [ite_self]

theorem lifts_of (P : Program) (R : List (List Char)) (h : behindMainWord (wordsSigns P.initOrder.toList) = ['c', 'u', 't'] :: R) : P.liftsFinal = false := by
  unfold Program.liftsFinal
  rw [headLifts_of P R h, h]
  have e : ((['c', 'u', 't'] :: R).head? == some "carried".toList) = false := by
    rw [List.head?_cons, Option.some_beq_some]; exact cut_carried
  simp only [e, Bool.false_and, List.contains_nil, Bool.or_self]

theorem enter_of (P : Program) (R : List (List Char)) (h : behindMainWord (wordsSigns P.initOrder.toList) = ['c', 'u', 't'] :: R)
    (k1 : P.laysLater = false) (k2 : P.bearsReflect = false) (k3 : P.doorFits [] = true) : P.mayEnter = true := by
  unfold Program.mayEnter
  rw [h]
  have e : ((['c', 'u', 't'] :: R).head? == some "cut".toList) = true := by
    rw [List.head?_cons, Option.some_beq_some]; exact cut_cut
  simp only [strip_cut, k1, k2, k3, e, Bool.not_false, Bool.or_true, Bool.and_self, List.contains_nil]

theorem make_is : Try.prog.make = some .cut := make_of _ _ behind
theorem lifts_is : Try.prog.liftsFinal = false := lifts_of _ _ behind
theorem later_is : Try.prog.laysLater = false := by kernel_rfl
theorem reflect_is : Try.prog.bearsReflect = false := by kernel_rfl
theorem door_is : Try.prog.doorFits [] = true := by kernel_rfl
theorem enter_is : Try.prog.mayEnter = true := enter_of _ _ behind later_is reflect_is door_is
end Go.Proofs.Qxb6002458a.Head
