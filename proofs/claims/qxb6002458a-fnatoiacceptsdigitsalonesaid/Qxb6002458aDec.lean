import Derived.ProofKit
import Derived.Laws.BytesArg
/-! Decimal texts: plain lists of bytes, no Go in sight. -/
namespace Go.Proofs.Qxb6002458a.Dec
set_option linter.unusedVariables false

def isD (c : UInt8) : Bool := decide (48 ≤ (c.toNat : Int) ∧ (c.toNat : Int) ≤ 57)
def allD (l : List UInt8) : Bool := l.all isD
def okT (l : List UInt8) : Bool := allD l && !l.isEmpty
def val (l : List UInt8) : Int := l.foldl (fun n c => n * 10 + ((c.toNat : Int) - 48)) 0

theorem isD_iff (c : UInt8) : isD c = true ↔ (48 ≤ (c.toNat : Int) ∧ (c.toNat : Int) ≤ 57) := by
  unfold isD; exact decide_eq_true_iff

theorem val_snoc (l : List UInt8) (c : UInt8) : val (l ++ [c]) = val l * 10 + ((c.toNat : Int) - 48) := by
  unfold val; rw [List.foldl_append]; rfl

theorem allD_snoc (l : List UInt8) (c : UInt8) : allD (l ++ [c]) = (allD l && isD c) := by
  unfold allD; rw [List.all_append]; simp

theorem allD_mem {l : List UInt8} (h : allD l = true) {c : UInt8} (hc : c ∈ l) : isD c = true :=
  List.all_eq_true.1 h c hc

/-- ten to the k, and the greatest number of k digits -/
def top : Nat → Int
  | 0 => 0
  | k + 1 => top k * 10 + 9

theorem top_mono (a b : Nat) (h : a ≤ b) : top a ≤ top b := by
  have pos : ∀ k, 0 ≤ top k := by
    intro k; induction k with
    | zero => exact Int.le_refl 0
    | succ k ih => simp only [top]; omega
  induction b with
  | zero => have : a = 0 := by omega
            subst this; exact Int.le_refl _
  | succ b ih =>
    by_cases e : a = b + 1
    · subst e; exact Int.le_refl _
    · have := ih (by omega)
      have := pos b
      simp only [top]; omega

theorem snoc_of {l : List UInt8} (h : l ≠ []) : ∃ m c, l = m ++ [c] :=
  ⟨l.dropLast, l.getLast h, (List.dropLast_concat_getLast h).symm⟩

theorem val_bd : ∀ (k : Nat) (l : List UInt8), l.length = k → allD l = true → 0 ≤ val l ∧ val l ≤ top k
  | 0, l, h, _ => by
    have : l = [] := List.length_eq_zero_iff.1 h
    subst this; exact ⟨Int.le_refl 0, Int.le_refl 0⟩
  | k + 1, l, h, hd => by
    obtain ⟨m, c, rfl⟩ := snoc_of (l := l) (by intro e; rw [e] at h; simp at h)
    rw [allD_snoc, Bool.and_eq_true] at hd
    have ih := val_bd k m (by simpa using h) hd.1
    have hc := (isD_iff c).1 hd.2
    rw [val_snoc]; simp only [top]; omega

theorem top9 : top 9 = 999999999 := by decide

theorem val_bd9 (l : List UInt8) (h : l.length ≤ 9) (hd : allD l = true) : 0 ≤ val l ∧ val l ≤ 999999999 := by
  have h1 := val_bd l.length l rfl hd
  have h2 := top_mono l.length 9 h
  rw [top9] at h2
  omega

/-! ### writing a number -/
def decF : Nat → Int → List Int
  | 0, _ => []
  | f + 1, n => if n = 0 then [] else decF f (n / 10) ++ [48 + n % 10]

theorem decF_zero (f : Nat) : decF f 0 = [] := by cases f <;> simp [decF]
theorem decF_pos (f : Nat) (n : Int) (h : 0 < n) : decF (f + 1) n = decF f (n / 10) ++ [48 + n % 10] := by
  simp only [decF]; rw [if_neg (by omega)]

def codes (t : List UInt8) : List Int := t.map fun c => (c.toNat : Int)

theorem head_snoc {m : List UInt8} {c : UInt8} (h : m ≠ []) : (m ++ [c]).head? = m.head? := by
  cases m with
  | nil => exact absurd rfl h
  | cons a m => rfl

theorem val_pos : ∀ (k : Nat) (t : List UInt8), t.length = k → allD t = true → t ≠ [] → t.head? ≠ some 48 → 0 < val t
  | 0, t, h, _, hn, _ => absurd (List.length_eq_zero_iff.1 h) hn
  | k + 1, t, h, hd, hn, hh => by
    obtain ⟨m, c, rfl⟩ := snoc_of hn
    rw [allD_snoc, Bool.and_eq_true] at hd
    have hc := (isD_iff c).1 hd.2
    rw [val_snoc]
    by_cases hm : m = []
    · subst hm
      have hne : c ≠ 48 := by simpa using hh
      have : c.toNat ≠ 48 := fun e => hne (UInt8.toNat_inj.1 e)
      simp only [val, List.foldl_nil]; omega
    · rw [head_snoc hm] at hh
      have := val_pos k m (by simpa using h) hd.1 hm hh
      omega

theorem dec_of : ∀ (f : Nat) (t : List UInt8), t.length ≤ f → allD t = true → (t ≠ [] → t.head? ≠ some 48) → decF f (val t) = codes t
  | 0, t, h, _, _ => by
    have : t = [] := List.length_eq_zero_iff.1 (by omega)
    subst this; rfl
  | f + 1, t, h, hd, hh => by
    by_cases hn : t = []
    · subst hn; exact decF_zero _
    · have hp := val_pos t.length t rfl hd hn (hh hn)
      rw [decF_pos f _ hp]
      obtain ⟨m, c, rfl⟩ := snoc_of hn
      rw [allD_snoc, Bool.and_eq_true] at hd
      have hc := (isD_iff c).1 hd.2
      have hb := (val_bd m.length m rfl hd.1).1
      have e1 : val (m ++ [c]) / 10 = val m := by rw [val_snoc]; omega
      have e2 : 48 + val (m ++ [c]) % 10 = (c.toNat : Int) := by rw [val_snoc]; omega
      rw [e1, e2, dec_of f m (by simpa using h) hd.1 (fun hm => by rw [← head_snoc (c := c) hm]; exact hh hn)]
      simp [codes]

/-! ### dropping leading noughts -/
theorem val_cons0 (t : List UInt8) : val (48 :: t) = val t := by
  unfold val; rw [List.foldl_cons]; rfl

theorem val_drop : ∀ (k : Nat) (l : List UInt8), (∀ j, j < k → l[j]? = some 48) → val (l.drop k) = val l
  | 0, l, _ => by rw [List.drop_zero]
  | k + 1, l, h => by
    cases l with
    | nil => simp
    | cons a l =>
      have h0 : a = 48 := by simpa using h 0 (by omega)
      subst h0
      rw [List.drop_succ_cons, val_cons0]
      exact val_drop k l (fun j hj => by simpa using h (j + 1) (by omega))

theorem allD_drop {l : List UInt8} (h : allD l = true) (k : Nat) : allD (l.drop k) = true :=
  List.all_eq_true.2 fun c hc => allD_mem h (List.mem_of_mem_drop hc)

/-- the law: what is written of the number read is the text without its leading noughts -/
theorem write_back (l : List UInt8) (k : Nat) (hl : l.length ≤ 9) (hd : allD l = true) (hk : k < l.length) (h0 : ∀ j, j < k → l[j]? = some 48)
    (hend : k + 1 = l.length ∨ l[k]? ≠ some 48) : (if val l ≤ 0 then [48] else decF 9 (val l)) = codes (l.drop k) := by
  have hv := val_drop k l h0
  have hD := allD_drop hd k
  have hhead : (l.drop k).head? = l[k]? := by rw [List.head?_drop]
  by_cases hz : (l.drop k).head? = some 48
  · have hlen : k + 1 = l.length := by
      rcases hend with h | h
      · exact h
      · rw [hhead] at hz; exact absurd hz h
    have hone : (l.drop k).length = 1 := by rw [List.length_drop]; omega
    obtain ⟨a, ha⟩ := List.length_eq_one_iff.1 hone
    rw [ha] at hz hv ⊢
    have : a = 48 := by simpa using hz
    subst this
    rw [← hv]
    simp [val, codes]
  · have hne : l.drop k ≠ [] := by
      intro e
      have := congrArg List.length e
      rw [List.length_drop] at this; simp at this; omega
    have hp := val_pos _ _ rfl hD hne hz
    rw [← hv, if_neg (by omega)]
    exact dec_of 9 _ (by rw [List.length_drop]; omega) hD (fun _ => hz)

theorem back (t : List UInt8) : (codes t).map (fun n => UInt8.ofNat n.toNat) = t := by
  unfold codes
  rw [List.map_map]
  conv => rhs; rw [← List.map_id t]
  apply List.map_congr_left
  intro c _
  simp

theorem str_codes (t : List UInt8) : strOfNums (codes t) = ⟨t.toArray⟩ := by
  unfold strOfNums; rw [back]
end Go.Proofs.Qxb6002458a.Dec
