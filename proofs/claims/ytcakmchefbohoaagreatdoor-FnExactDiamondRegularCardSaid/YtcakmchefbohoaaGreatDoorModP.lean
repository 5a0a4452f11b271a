/- Regular modalities: the plain law: what the program makes, and what the reference makes with its looks at the length. -/
import Derived.Test.YtcakmchefbohoaaGreatDoorProg
import Derived.Test.YtcakmchefbohoaaGreatDoorMem
import Derived.Test.YtcakmchefbohoaaGreatDoorMath
import Derived.Test.YtcakmchefbohoaaGreatDoorNode
import Derived.Test.YtcakmchefbohoaaGreatDoorReg
import Derived.Test.YtcakmchefbohoaaGreatDoorVReg
import Derived.Test.YtcakmchefbohoaaGreatDoorTreeR
set_option linter.unusedVariables false
set_option linter.unusedSimpArgs false
namespace Go.Proofs.YtcakmchefbohoaaGreatDoor
open Go.RowKit

/-- What an expression makes of an operand, where so many binders stand around. -/
abbrev MV := List Nd → Nat → Option (List Nd)
def mKind (box : Bool) : Int := if box = true then 5 else 4
def eKind (box : Bool) : Int := if box = true then 2 else 3
def xKind (box : Bool) : Int := if box = true then 8 else 7
def gate (l : List Nd) : Option (List Nd) := if l.length ≤ 30 then some l else none
def mTest (box : Bool) (x : Rg) (f : List Nd) : List Nd := ⟨mKind box, 0, x.lab, x.neg⟩ :: f
def mEither (box : Bool) (a b : List Nd) : List Nd := ⟨eKind box, 0, ByteArray.empty, false⟩ :: (a ++ b)
def mStar (box : Bool) (d : Nat) (f x : List Nd) : List Nd := ⟨xKind box, d, ByteArray.empty, false⟩ :: ⟨eKind box, 0, ByteArray.empty, false⟩ :: (f ++ x)
def mVar (d : Nat) : List Nd := [⟨6, d, ByteArray.empty, false⟩]
def mNone : MV := fun _ _ => none
/-- The program: an operand that is too long makes it full. -/
def opMI (box : Bool) (x : Rg) (l : List MV) : MV := fun f d =>
  if 30 < f.length then none
  else if x.kind = 1 then (l.getD 1 mNone f d).bind fun y => l.getD 0 mNone y d
  else if x.kind = 2 then (l.getD 0 mNone f d).bind fun a => (l.getD 1 mNone f d).map fun b => mEither box a b
  else if x.kind = 3 then (if 3 ≤ d then none else (l.getD 0 mNone (mVar d) (d + 1)).map fun y => mStar box d f y)
  else some (mTest box x f)
/-- The reference: each result is looked at. -/
def opMS (box : Bool) (x : Rg) (l : List MV) : MV := fun f d =>
  if x.kind = 1 then (l.getD 1 mNone f d).bind fun y => l.getD 0 mNone y d
  else if x.kind = 2 then (l.getD 0 mNone f d).bind fun a => (l.getD 1 mNone f d).bind fun b => gate (mEither box a b)
  else if x.kind = 3 then (if 3 ≤ d then none else (l.getD 0 mNone (mVar d) (d + 1)).bind fun y => gate (mStar box d f y))
  else gate (mTest box x f)
/-- One value of the program, one of the reference. -/
def Agree (a b : MV) : Prop :=
  (∀ f d, 30 < f.length → a f d = none) ∧ (∀ f d l, a f d = some l → f.length ≤ l.length) ∧ ∀ f d, f.length ≤ 30 → b f d = (a f d).bind gate
theorem agree_none : Agree mNone mNone := by
  refine ⟨fun _ _ _ => rfl, ?_, fun _ _ _ => rfl⟩
  intro f d l h
  exact absurd h (by simp [mNone])
theorem gate_some {l y : List Nd} (h : gate l = some y) : y = l ∧ l.length ≤ 30 := by
  unfold gate at h
  split at h
  · cases h; exact ⟨rfl, by assumption⟩
  · cases h
theorem gate_long {l : List Nd} (h : 30 < l.length) : gate l = none := by unfold gate; rw [if_neg (by omega)]
theorem gate_ok {l : List Nd} (h : l.length ≤ 30) : gate l = some l := by unfold gate; rw [if_pos h]
theorem agree_op (box : Bool) (x : Rg) (la lb : List MV) (h : ∀ i, Agree (la.getD i mNone) (lb.getD i mNone)) : Agree (opMI box x la) (opMS box x lb) := by
  obtain ⟨A1, A2, A3⟩ := h 0
  obtain ⟨B1, B2, B3⟩ := h 1
  clear h
  unfold opMI opMS Agree
  generalize la.getD 0 mNone = a0 at *
  generalize lb.getD 0 mNone = b0 at *
  generalize la.getD 1 mNone = a1 at *
  generalize lb.getD 1 mNone = b1 at *
  refine ⟨fun f d hf => by simp only []; rw [if_pos hf], fun f d l hl => ?_, fun f d hf => ?_⟩
  · by_cases h30 : 30 < f.length
    · simp only [if_pos h30] at hl
      cases hl
    simp only [if_neg h30] at hl
    by_cases k1 : x.kind = 1
    · simp only [if_pos k1] at hl
      cases h1 : a1 f d with
      | none => rw [h1] at hl; cases hl
      | some y =>
        rw [h1] at hl
        have e1 := B2 f d y h1
        have e2 := A2 y d l hl
        omega
    simp only [if_neg k1] at hl
    by_cases k2 : x.kind = 2
    · simp only [if_pos k2] at hl
      cases h0 : a0 f d with
      | none => rw [h0] at hl; cases hl
      | some y =>
        rw [h0] at hl
        have e1 := A2 f d y h0
        cases h1 : a1 f d with
        | none => rw [h1] at hl; cases hl
        | some z =>
          rw [h1] at hl
          cases hl
          unfold mEither
          simp only [List.length_cons, List.length_append]
          omega
    simp only [if_neg k2] at hl
    by_cases k3 : x.kind = 3
    · simp only [if_pos k3] at hl
      by_cases h3 : 3 ≤ d
      · simp only [if_pos h3] at hl
        cases hl
      simp only [if_neg h3] at hl
      cases h0 : a0 (mVar d) (d + 1) with
      | none => rw [h0] at hl; cases hl
      | some y =>
        rw [h0] at hl
        cases hl
        unfold mStar
        simp only [List.length_cons, List.length_append]
        omega
    simp only [if_neg k3] at hl
    cases hl
    unfold mTest
    simp only [List.length_cons]
    omega
  · simp only [if_neg (show ¬ 30 < f.length by omega)]
    by_cases k1 : x.kind = 1
    · simp only [if_pos k1]
      rw [B3 f d hf]
      cases h1 : a1 f d with
      | none => rfl
      | some y =>
        show (gate y).bind (fun y => b0 y d) = (a0 y d).bind gate
        by_cases hy : y.length ≤ 30
        · rw [gate_ok hy]
          exact A3 y d hy
        · rw [gate_long (by omega), A1 y d (by omega)]; rfl
    simp only [if_neg k1]
    by_cases k2 : x.kind = 2
    · simp only [if_pos k2]
      rw [A3 f d hf, B3 f d hf]
      cases h0 : a0 f d with
      | none => rfl
      | some y =>
        cases h1 : a1 f d with
        | none =>
          show (gate y).bind (fun a => none) = none
          cases gate y <;> rfl
        | some z =>
          show (gate y).bind (fun a => (gate z).bind fun b => gate (mEither box a b)) = gate (mEither box y z)
          have hl : (mEither box y z).length = y.length + z.length + 1 := by unfold mEither; simp only [List.length_cons, List.length_append]
          by_cases hy : y.length ≤ 30
          · by_cases hz : z.length ≤ 30
            · rw [gate_ok hy, gate_ok hz]; rfl
            · rw [gate_ok hy, gate_long (l := z) (by omega), gate_long (by omega)]; rfl
          · rw [gate_long (l := y) (by omega), gate_long (l := mEither box y z) (by omega)]; rfl
    simp only [if_neg k2]
    by_cases k3 : x.kind = 3
    · simp only [if_pos k3]
      by_cases h3 : 3 ≤ d
      · simp only [if_pos h3]; rfl
      simp only [if_neg h3]
      rw [A3 (mVar d) (d + 1) (by unfold mVar; simp)]
      cases h0 : a0 (mVar d) (d + 1) with
      | none => rfl
      | some y =>
        show (gate y).bind (fun a => gate (mStar box d f a)) = gate (mStar box d f y)
        have hl : (mStar box d f y).length = f.length + y.length + 2 := by unfold mStar; simp only [List.length_cons, List.length_append]
        by_cases hy : y.length ≤ 30
        · rw [gate_ok hy]; rfl
        · rw [gate_long (l := y) (by omega), gate_long (l := mStar box d f y) (by omega)]; rfl
    simp only [if_neg k3]
    rfl
theorem agree_fold (box : Bool) (G : FRg) : ∀ i, Agree ((FRg.fold (opMI box) G).getD i mNone) ((FRg.fold (opMS box) G).getD i mNone) := by
  induction G with
  | nil => intro i; exact agree_none
  | cons x k n ihk ihn =>
    intro i
    cases i with
    | zero => exact agree_op box x _ _ ihk
    | succ i => exact ihn i
theorem gate_isSome (l : List Nd) : (gate l).isSome = decide (l.length ≤ 30) := by
  unfold gate
  by_cases h : l.length ≤ 30
  · rw [if_pos h, decide_eq_true h]; rfl
  · rw [if_neg h, decide_eq_false h]; rfl
theorem opMS_then {box : Bool} {x : Rg} {l : List MV} (h : x.kind = 1) (f : List Nd) (d : Nat) : opMS box x l f d = (l.getD 1 mNone f d).bind fun y => l.getD 0 mNone y d := by unfold opMS; rw [if_pos h]
theorem opMS_either {box : Bool} {x : Rg} {l : List MV} (h : x.kind = 2) (f : List Nd) (d : Nat) : opMS box x l f d = (l.getD 0 mNone f d).bind fun a => (l.getD 1 mNone f d).bind fun b => gate (mEither box a b) := by unfold opMS; rw [if_neg (by omega), if_pos h]
theorem opMS_star {box : Bool} {x : Rg} {l : List MV} (h : x.kind = 3) (f : List Nd) (d : Nat) : opMS box x l f d = if 3 ≤ d then none else (l.getD 0 mNone (mVar d) (d + 1)).bind fun y => gate (mStar box d f y) := by unfold opMS; rw [if_neg (by omega), if_neg (by omega), if_pos h]
theorem opMS_test {box : Bool} {x : Rg} {l : List MV} (h : x.kind = 0) (f : List Nd) (d : Nat) : opMS box x l f d = gate (mTest box x f) := by unfold opMS; rw [if_neg (by omega), if_neg (by omega), if_neg (by omega)]
theorem opMI_long {box : Bool} {x : Rg} {l : List MV} {f : List Nd} (h : 30 < f.length) (d : Nat) : opMI box x l f d = none := by unfold opMI; rw [if_pos h]
theorem opMI_then {box : Bool} {x : Rg} {l : List MV} {f : List Nd} (h : x.kind = 1) (hf : f.length ≤ 30) (d : Nat) : opMI box x l f d = (l.getD 1 mNone f d).bind fun y => l.getD 0 mNone y d := by unfold opMI; rw [if_neg (by omega), if_pos h]
theorem opMI_either {box : Bool} {x : Rg} {l : List MV} {f : List Nd} (h : x.kind = 2) (hf : f.length ≤ 30) (d : Nat) : opMI box x l f d = (l.getD 0 mNone f d).bind fun a => (l.getD 1 mNone f d).map fun b => mEither box a b := by unfold opMI; rw [if_neg (by omega), if_neg (by omega), if_pos h]
theorem opMI_star {box : Bool} {x : Rg} {l : List MV} {f : List Nd} (h : x.kind = 3) (hf : f.length ≤ 30) (d : Nat) : opMI box x l f d = if 3 ≤ d then none else (l.getD 0 mNone (mVar d) (d + 1)).map fun y => mStar box d f y := by unfold opMI; rw [if_neg (by omega), if_neg (by omega), if_neg (by omega), if_pos h]
theorem opMI_test {box : Bool} {x : Rg} {l : List MV} {f : List Nd} (h : x.kind = 0) (hf : f.length ≤ 30) (d : Nat) : opMI box x l f d = some (mTest box x f) := by unfold opMI; rw [if_neg (by omega), if_neg (by omega), if_neg (by omega), if_neg (by omega)]
theorem opMS_short (box : Bool) (G : FRg) : ∀ (i : Nat) (f : List Nd) (d : Nat) (y : List Nd), ((FRg.fold (opMS box) G).getD i mNone) f d = some y → y.length ≤ 30 := by
  induction G with
  | nil => intro i f d y h; exact absurd h (by simp [FRg.fold, mNone])
  | cons x k n ihk ihn =>
    intro i f d y h
    cases i with
    | succ i => exact ihn i f d y h
    | zero =>
      have h2 : opMS box x (FRg.fold (opMS box) k) f d = some y := h
      clear h
      generalize FRg.fold (opMS box) k = g at ihk h2
      unfold opMS at h2
      split at h2
      · cases h1 : g.getD 1 mNone f d with
        | none => rw [h1] at h2; cases h2
        | some z => rw [h1] at h2; exact ihk 0 z d y h2
      split at h2
      · cases h1 : g.getD 0 mNone f d with
        | none => rw [h1] at h2; cases h2
        | some a =>
          rw [h1] at h2
          cases h3 : g.getD 1 mNone f d with
          | none => rw [h3] at h2; cases h2
          | some b =>
            rw [h3] at h2
            obtain ⟨rfl, hl⟩ := gate_some h2
            exact hl
      split at h2
      · split at h2
        · cases h2
        cases h1 : g.getD 0 mNone (mVar d) (d + 1) with
        | none => rw [h1] at h2; cases h2
        | some a =>
          rw [h1] at h2
          obtain ⟨rfl, hl⟩ := gate_some h2
          exact hl
      · obtain ⟨rfl, hl⟩ := gate_some h2
        exact hl
end Go.Proofs.YtcakmchefbohoaaGreatDoor
