/- The plain functions that the program's basics compute. No program in sight. -/
import Derived.Below
import Derived.Laws.Strings
import Derived.Lib.Hide
set_option linter.unusedVariables false
set_option linter.unusedSimpArgs false
namespace Go.Proofs.YtcakmchefbohoaaGreatDoor
open Go.RowKit

/-- a ≤ n ≤ b, closed to simp. -/
def inR (n a b : Int) : Bool := decide (a ≤ n) && decide (n ≤ b)
theorem inR_true {n a b : Int} (h : inR n a b = true) : a ≤ n ∧ n ≤ b := by simpa [inR] using h
theorem inR_false {n a b : Int} (h : inR n a b = false) : n < a ∨ b < n := by
  simp [inR] at h
  by_cases h1 : a ≤ n
  · exact Or.inr (h h1)
  · exact Or.inl (by omega)
theorem inR_mk {n a b : Int} (h1 : a ≤ n) (h2 : n ≤ b) : inR n a b = true := by simp [inR, h1, h2]
theorem inR_not {n a b : Int} (h : n < a ∨ b < n) : inR n a b = false := by simp [inR]; omega

/-- The i-th byte of a text (0 behind its end), closed to simp. -/
def bt (s : ByteArray) (i : Nat) : Int := if h : i < s.size then (s[i].toNat : Int) else 0
theorem bt_eq (s : ByteArray) (i : Nat) (h : i < s.size) : (s[i].toNat : Int) = bt s i := by simp [bt, h]
theorem bt_lo (s : ByteArray) (i : Nat) : 0 ≤ bt s i := by unfold bt; split <;> omega
theorem bt_hi (s : ByteArray) (i : Nat) : bt s i ≤ 255 := by
  unfold bt; split
  · have := s[i].toNat_lt; omega
  · omega
theorem ba_ext {s t : ByteArray} (h : s.size = t.size) (hb : ∀ i, i < s.size → bt s i = bt t i) : s = t := by
  obtain ⟨⟨a⟩⟩ := s
  obtain ⟨⟨b⟩⟩ := t
  have hl : a.length = b.length := h
  have : a = b := by
    refine List.ext_getElem hl fun i h1 h2 => ?_
    have := hb i h1
    unfold bt at this
    rw [dif_pos (show i < ByteArray.size ⟨⟨a⟩⟩ from h1), dif_pos (show i < ByteArray.size ⟨⟨b⟩⟩ from h2)] at this
    have e : (a[i]).toNat = (b[i]).toNat := by
      have h3 : ((ByteArray.mk ⟨a⟩)[i]'h1).toNat = ((ByteArray.mk ⟨b⟩)[i]'h2).toNat := by omega
      exact h3
    exact UInt8.toNat_inj.1 e
  subst this
  rfl

theorem toList_nil {s : ByteArray} (h : s.size = 0) : s.toList = [] := by
  rw [ByteArray.toList_eq]
  exact List.eq_nil_of_length_eq_zero h
theorem toList_ne {s : ByteArray} (h : s.size ≠ 0) : s.toList ≠ [] := by
  rw [ByteArray.toList_eq]
  intro e
  apply h
  show s.data.toList.length = 0
  rw [e]; rfl

def small (n : Int) : Bool := decide (97 ≤ n) && decide (n ≤ 122)
def digit (n : Int) : Bool := decide (48 ≤ n) && decide (n ≤ 57)

/-- A byte that may stand at place i of a name. -/
def nameAt (s : ByteArray) (i : Nat) : Bool := small (bt s i) || (decide (i ≠ 0) && digit (bt s i))
theorem nameAt_small {s : ByteArray} {i : Nat} (h : small (bt s i) = true) : nameAt s i = true := by simp [nameAt, h]
theorem nameAt_digit {s : ByteArray} {i : Nat} (h0 : i ≠ 0) (h : digit (bt s i) = true) : nameAt s i = true := by simp [nameAt, h, h0]
theorem nameAt_none {s : ByteArray} {i : Nat} (h : small (bt s i) = false) (h1 : digit (bt s i) = false) : nameAt s i = false := by simp [nameAt, h, h1]
theorem nameAt_zero {s : ByteArray} {i : Nat} (h0 : i = 0) (h : small (bt s i) = false) : nameAt s i = false := by subst h0; simp [nameAt, h]
theorem names_next {s : ByteArray} {k : Nat} (h : ∀ i, i < k → nameAt s i = true) (hk : nameAt s k = true) : ∀ i, i < k + 1 → nameAt s i = true := fun i hi => by
  by_cases e : i = k
  · rw [e]; exact hk
  · exact h i (by omega)
theorem small_iff (n : Int) : small n = true ↔ 97 ≤ n ∧ n ≤ 122 := by simp [small]
theorem small_no {n : Int} (h : n < 97 ∨ 122 < n) : small n = false := by
  rw [Bool.eq_false_iff]; intro e; rw [small_iff] at e; omega
def isName (s : ByteArray) : Bool := decide (1 ≤ s.size ∧ s.size ≤ 10 ∧ ∀ i, i < s.size → nameAt s i = true)
theorem isName_bad {s : ByteArray} (i : Nat) (h : i < s.size) (hb : nameAt s i = false) : isName s = false := by
  refine decide_eq_false fun ⟨_, _, h3⟩ => ?_
  rw [h3 i h] at hb
  cases hb
theorem isName_size {s : ByteArray} (h : ∀ i, i < s.size → nameAt s i = true) : isName s = (decide (1 ≤ s.size) && decide (s.size ≤ 10)) := by
  unfold isName
  by_cases h1 : 1 ≤ s.size <;> by_cases h2 : s.size ≤ 10 <;> simp [h1, h2]
  · exact h
theorem isName_long {s : ByteArray} (h : s.size = 0 ∨ 10 < s.size) : isName s = false := decide_eq_false fun ⟨h1, h2, _⟩ => by omega
theorem isName_le {s : ByteArray} (h : isName s = true) : 1 ≤ s.size ∧ s.size ≤ 10 := by
  have := of_decide_eq_true h
  exact ⟨this.1, this.2.1⟩

def tauB : ByteArray := ⟨#[116, 97, 117]⟩
def isAction (s : ByteArray) : Bool := isName s && !(s.toList == tauB.toList)

/-- The check value: one step of one byte, all eight, all bytes. -/
def crcIn (c : Nat) : Nat := if 65535 < c * 2 then ((c * 2) &&& 65535) ^^^ 4129 else c * 2
def crcN : Nat → Nat → Nat
  | 0, c => c
  | k + 1, c => crcIn (crcN k c)
def crcX (c : Nat) (b : Int) : Nat := c ^^^ (b.toNat * 256)
def crcTo (s : ByteArray) (c : Nat) : Nat → Nat
  | 0 => c
  | i + 1 => crcN 8 (crcX (crcTo s c i) (bt s i))
theorem crcIn_lt {c : Nat} (h : c < 65536) : crcIn c < 65536 := by
  unfold crcIn
  split
  · exact Nat.xor_lt_two_pow (n := 16) (Nat.and_lt_two_pow (n := 16) _ (by decide)) (by decide)
  · omega
theorem crcN_lt {c : Nat} (k : Nat) (h : c < 65536) : crcN k c < 65536 := by
  induction k with
  | zero => exact h
  | succ k ih => exact crcIn_lt ih
theorem crcX_lt {c : Nat} {b : Int} (h : c < 65536) (hb : b ≤ 255) : crcX c b < 65536 :=
  Nat.xor_lt_two_pow (n := 16) (by simpa using h) (by omega)
theorem crcTo_lt (s : ByteArray) {c : Nat} (i : Nat) (h : c < 65536) : crcTo s c i < 65536 := by
  induction i with
  | zero => exact h
  | succ i ih => exact crcN_lt 8 (crcX_lt ih (bt_hi s i))

def opM (op a b : Int) : Int :=
  if op = 0 then (a + b) % 64 else if op = 1 then (a - b + 64) % 64 else if op = 2 then a * b % 64
  else if op = 3 then (if a = b then 1 else 0) else if op = 4 then (if a = b then 0 else 1)
  else if op = 5 then (if a < b then 1 else 0) else if op = 6 then (if a ≤ b then 1 else 0)
  else if op = 7 then (if a = 0 ∨ b = 0 then 0 else 1) else (if a = 0 ∧ b = 0 then 0 else 1)

/-- Lists held against each other. -/
def cmpL : List Int → List Int → Int
  | [], [] => 0
  | [], _ :: _ => -1
  | _ :: _, [] => 1
  | a :: r, b :: q => if a < b then -1 else if b < a then 1 else cmpL r q
end Go.Proofs.YtcakmchefbohoaaGreatDoor
