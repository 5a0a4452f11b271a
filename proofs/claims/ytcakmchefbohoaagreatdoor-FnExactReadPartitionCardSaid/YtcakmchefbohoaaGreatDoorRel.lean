/- Contracts: relations as lists of pairs, of the program and of the reference. -/
import Derived.Test.YtcakmchefbohoaaGreatDoorProg
import Derived.Test.YtcakmchefbohoaaGreatDoorMem
import Derived.Test.YtcakmchefbohoaaGreatDoorMath
import Derived.Test.YtcakmchefbohoaaGreatDoorBasics
import Derived.Test.YtcakmchefbohoaaGreatDoorGrid
import Derived.Test.YtcakmchefbohoaaGreatDoorPart
import Derived.Test.YtcakmchefbohoaaGreatDoorPartW
import Derived.Test.YtcakmchefbohoaaGreatDoorCmp
import Derived.WalkKit
import Derived.BigQuiet
import Derived.BigRegion
import Derived.Deep.QuietTactic
import Derived.Lib.Hide
import Derived.Outline
set_option linter.unusedVariables false
set_option linter.unusedSimpArgs false
namespace Go.Proofs.YtcakmchefbohoaaGreatDoor
open Go.RowKit

def pairOk (m : Int) (a : List Int) : Bool := decide (a.length = 2) && inR (nth a 0) 0 m && inR (nth a 1) 0 m
def relStep (m : Int) (r : List (List Int)) (k : Nat) : Bool := pairOk m (rnth r k) && (decide (k = 0) || decide (cmpL (rnth r (k - 1)) (rnth r k) < 0))
def relAll (m : Int) (r : List (List Int)) : Nat → Bool
  | 0 => true
  | k + 1 => relAll m r k && relStep m r k
def isRel (n : Int) (r : List (List Int)) : Bool := inR n 1 40 && relAll (n - 1) r r.length
theorem relAll_mono {m : Int} {r : List (List Int)} {k q : Nat} (h : relAll m r k = false) (hq : k ≤ q) : relAll m r q = false := by
  induction q with
  | zero => obtain rfl : k = 0 := by omega
            exact h
  | succ q ih =>
    by_cases e : k = q + 1
    · rw [← e]; exact h
    · rw [relAll, ih (by omega)]; rfl
theorem relAll_bad {m : Int} {r : List (List Int)} {k : Nat} (h : relStep m r k = false) (hk : k < r.length) : relAll m r r.length = false :=
  relAll_mono (k := k + 1) (by rw [relAll, h, Bool.and_false]) hk
theorem relAll_next {m : Int} {r : List (List Int)} {k : Nat} (h : relAll m r k = true) (h2 : relStep m r k = true) : relAll m r (k + 1) = true := by rw [relAll, h, h2]; rfl
theorem relAll_get {m : Int} {r : List (List Int)} {k j : Nat} (h : relAll m r k = true) (hj : j < k) : relStep m r j = true := by
  induction k with
  | zero => omega
  | succ k ih =>
    rw [relAll, Bool.and_eq_true] at h
    by_cases e : j = k
    · rw [e]; exact h.2
    · exact ih h.1 (by omega)
theorem pairOk_parts {m : Int} {a : List Int} (h : pairOk m a = true) : a.length = 2 ∧ 0 ≤ nth a 0 ∧ nth a 0 ≤ m ∧ 0 ≤ nth a 1 ∧ nth a 1 ≤ m := by
  simp only [pairOk, Bool.and_eq_true, decide_eq_true_eq] at h
  have h1 := inR_true h.1.2
  have h2 := inR_true h.2
  exact ⟨h.1.1, h1.1, h1.2, h2.1, h2.2⟩
theorem isRel_bad {n m : Int} {r : List (List Int)} (hm : n = -9223372036854775808 ∨ m = n - 1) (h : relAll m r r.length = false) : isRel n r = false := by
  rcases hm with e | e
  · rw [isRel, e]; simp [inR]
  · rw [isRel, ← e, h, Bool.and_false]
theorem isRel_good {n m : Int} {r : List (List Int)} (hm : n = -9223372036854775808 ∨ m = n - 1) (h : relAll m r r.length = true) : isRel n r = inR n 1 40 := by
  rcases hm with e | e
  · rw [isRel, e]; simp [inR]
  · rw [isRel, ← e, h, Bool.and_true]
theorem cmpL_two {a b : List Int} (ha : a.length = 2) (hb : b.length = 2) : (cmpL a b < 0 ↔ nth a 0 < nth b 0 ∨ nth a 0 = nth b 0 ∧ nth a 1 < nth b 1) := by
  obtain ⟨x, y, rfl⟩ : ∃ x y, a = [x, y] := by
    match a, ha with | [x, y], _ => exact ⟨x, y, rfl⟩
  obtain ⟨u, v, rfl⟩ : ∃ x y, b = [x, y] := by
    match b, hb with | [x, y], _ => exact ⟨x, y, rfl⟩
  have e1 : nth [x, y] 0 = x := by simp [nth]
  have e2 : nth [x, y] 1 = y := by simp [nth]
  have e3 : nth [u, v] 0 = u := by simp [nth]
  have e4 : nth [u, v] 1 = v := by simp [nth]
  rw [e1, e2, e3, e4]
  simp only [cmpL]
  split
  · constructor <;> intro h <;> omega
  · split
    · constructor <;> intro h <;> omega
    · split
      · constructor <;> intro h <;> omega
      · split <;> constructor <;> intro h <;> omega
theorem cmpL_num {m : Int} {a b : List Int} (hm : m < 40) (ha : pairOk m a = true) (hb : pairOk m b = true) : (cmpL a b < 0 ↔ nth a 0 * 40 + nth a 1 < nth b 0 * 40 + nth b 1) := by
  have h1 := pairOk_parts ha
  have h2 := pairOk_parts hb
  rw [cmpL_two h1.1 h2.1]
  omega
end Go.Proofs.YtcakmchefbohoaaGreatDoor
