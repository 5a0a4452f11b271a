/- Contracts: labels, of the program and of the reference. -/
import Derived.Test.YtcakmchefbohoaaGreatDoorProg
import Derived.Test.YtcakmchefbohoaaGreatDoorMem
import Derived.Test.YtcakmchefbohoaaGreatDoorMath
import Derived.Test.YtcakmchefbohoaaGreatDoorBasics
import Derived.Test.YtcakmchefbohoaaGreatDoorHelpI
import Derived.Test.YtcakmchefbohoaaGreatDoorOpenI
import Derived.Test.YtcakmchefbohoaaGreatDoorGrid
import Derived.Test.YtcakmchefbohoaaGreatDoorShelf
import Derived.Test.YtcakmchefbohoaaGreatDoorDec
import Derived.Test.YtcakmchefbohoaaGreatDoorNum
import Derived.Test.YtcakmchefbohoaaGreatDoorRead
import Derived.Test.YtcakmchefbohoaaGreatDoorText
import Derived.Test.YtcakmchefbohoaaGreatDoorLab
import Derived.Test.YtcakmchefbohoaaGreatDoorSplit
import Derived.Test.YtcakmchefbohoaaGreatDoorList
import Derived.Test.YtcakmchefbohoaaGreatDoorEnv
import Derived.Test.YtcakmchefbohoaaGreatDoorNumbers
import Derived.WalkKit
import Derived.BigQuiet
import Derived.Maps.AppendAt
import Derived.Lib.Hide
import Derived.Outline
set_option linter.unusedVariables false
set_option linter.unusedSimpArgs false
namespace Go.Proofs.YtcakmchefbohoaaGreatDoor
open Go.RowKit

theorem ba_tau : tauB = ba [116, 97, 117] := rfl
theorem areValues_any (v : Value) (xs : List Int) (w : World) (hn : xs.length ≤ 4611686018427387904) (hv : RdI w v xs) :
    Calls Tryz.prog 175 #[v] w fun e w' => e = .returned (.bool (vals2 xs)) ∧ w = w' := by
  obtain ⟨a, cap, rfl⟩ := hv.slice
  have HV := Lib.hid hv
  clear hv
  go_enter Tryz.func175, Tryz.ntmps175
  go_wp2_with fail
  refine (areVal1_contains _ xs _ hn HV.out).mono ?_
  rintro e w' ⟨rfl, rfl⟩
  go_wp2_with fail
  go_ret
  exact ⟨by simp [vals2], rfl⟩
set_option maxRecDepth 100000 in
set_option maxHeartbeats 1600000 in
theorem labelOf_any (s : ByteArray) (v : Value) (xs : List Int) (w : World) (hs : s.size ≤ 1048576) (hn : xs.length ≤ 1048577) (h64 : I64s xs) (hT : PowTab w) (hv : RdI w v xs) :
    Calls Tryz.prog 154 #[.string s, v] w fun e w' => ∃ t, e = .returned (.tuple #[.string t, .bool (mkOk s xs)]) ∧ (mkOk s xs = true → t = mkText s xs) ∧ Below w.heap.size w w' := by
  obtain ⟨a, cap, rfl⟩ := hv.slice
  have HV := Lib.hid hv
  have H64 := Lib.hid h64
  have HT := Lib.hid hT
  obtain ⟨n, hxn⟩ : ∃ n, n = xs.length := ⟨_, rfl⟩
  rw [← hxn] at HV hn ⊢
  have Hxn := Lib.hid hxn
  clear hv h64 hT hxn
  by_cases ht : s = tauB
  · have hb : (s.toList == ([116, 97, 117] : List UInt8)) = true := by rw [ht, ByteArray.toList_eq]; rfl
    have hb2 : s.toList = [116, 97, 117] := by simpa using hb
    by_cases h0 : n = 0
    · have hM : Hid (mkOk s xs = true) := Lib.hid (by unfold mkOk; rw [if_pos ht, ← Hxn.out, decide_eq_true h0])
      have hX : Hid (mkText s xs = ba [116, 97, 117]) := Lib.hid (by unfold mkText; rw [← Hxn.out, if_pos h0, ht]; rfl)
      subst h0
      clear ht
      go_enter Tryz.func154, Tryz.ntmps154
      go_wp2_with fail
      go_ret2
      exact ⟨_, by rw [hM.out]; rfl, (fun _ => hX.out.symm), Below.refl _ _⟩
    · have hM : Hid (mkOk s xs = false) := Lib.hid (by unfold mkOk; rw [if_pos ht, ← Hxn.out, decide_eq_false h0])
      have h0i : ¬ (n : Int) = 0 := by omega
      have h0b : ((n : Int) == 0) = false := by simp; omega
      clear ht
      go_enter Tryz.func154, Tryz.ntmps154
      go_wp2_with fail
      go_ret2
      exact ⟨_, by rw [hM.out]; rfl, (fun h => by rw [hM.out] at h; cases h), Below.refl _ _⟩
  have hb : (s.toList == ([116, 97, 117] : List UInt8)) = false := beq_lit s _ (by rw [← ba_tau]; exact ht)
  have hb2 : ¬ s.toList = [116, 97, 117] := by simpa using hb
  have HM : Hid (mkOk s xs = (isAction s && vals2 xs && decide (n ≤ 2))) := Lib.hid (by unfold mkOk; rw [if_neg ht, ← Hxn.out])
  clear ht
  cases ha : isAction s with
  | false =>
    have hM : Hid (mkOk s xs = false) := Lib.hid (by rw [HM.out, ha]; rfl)
    go_enter Tryz.func154, Tryz.ntmps154
    go_wp2_with fail
    refine (IsAction_any s _ (by omega)).mono ?_
    rw [ha]
    rintro e w' ⟨rfl, rfl⟩
    go_wp2_with fail
    go_ret2
    exact ⟨_, by rw [hM.out]; rfl, (fun h => by rw [hM.out] at h; cases h), Below.refl _ _⟩
  | true =>
    by_cases h2 : n ≤ 2
    · have h2i : ¬ (2 : Int) < (n : Int) := by omega
      cases hva : vals2 xs with
      | false =>
        have hM : Hid (mkOk s xs = false) := Lib.hid (by rw [HM.out, hva]; simp)
        go_enter Tryz.func154, Tryz.ntmps154
        go_wp2_with fail
        refine (IsAction_any s _ (by omega)).mono ?_
        rw [ha]
        rintro e w' ⟨rfl, rfl⟩
        go_wp2_with fail
        refine (areValues_any _ xs _ (by rw [← Hxn.out]; omega) HV.out).mono ?_
        rw [hva]
        rintro e w' ⟨rfl, rfl⟩
        go_wp2_with fail
        go_ret2
        exact ⟨_, by rw [hM.out]; rfl, (fun h => by rw [hM.out] at h; cases h), Below.refl _ _⟩
      | true =>
        have hM : Hid (mkOk s xs = true) := Lib.hid (by rw [HM.out, hva, ha, decide_eq_true h2]; rfl)
        by_cases h0 : n = 0
        · have hX : Hid (mkText s xs = s) := Lib.hid (by unfold mkText; rw [← Hxn.out, if_pos h0])
          subst h0
          go_enter Tryz.func154, Tryz.ntmps154
          go_wp2_with fail
          refine (IsAction_any s _ (by omega)).mono ?_
          rw [ha]
          rintro e w' ⟨rfl, rfl⟩
          go_wp2_with fail
          refine (areValues_any _ xs _ (by rw [← Hxn.out]; omega) HV.out).mono ?_
          rw [hva]
          rintro e w' ⟨rfl, rfl⟩
          go_wp2_with fail
          go_ret2
          exact ⟨_, by rw [hM.out]; rfl, (fun _ => hX.out.symm), Below.refl _ _⟩
        · have h0i : ¬ (n : Int) = 0 := by omega
          have h0b : ((n : Int) == 0) = false := by simp; omega
          have hs10 : s.size ≤ 10 := (isAction_le ha).2
          obtain ⟨J, hJ⟩ : ∃ J, J = ba (joinN xs 44) := ⟨_, rfl⟩
          have hJs : J.size ≤ 44 := by rw [hJ]; have := joinN_len xs 44 H64.out; rw [← Hxn.out] at this; show (joinN xs 44).length ≤ 44; omega
          have h40 : (⟨#[40]⟩ : ByteArray).size = 1 := rfl
          have h41 : (⟨#[41]⟩ : ByteArray).size = 1 := rfl
          obtain ⟨C, hC⟩ : ∃ C : ByteArray, C = s ++ ⟨#[40]⟩ := ⟨_, rfl⟩
          have hCs : C.size ≤ 11 := by rw [hC, ByteArray.size_append, h40]; omega
          have hX : Hid (mkText s xs = C ++ J ++ ⟨#[41]⟩) := Lib.hid (by
            unfold mkText
            rw [← Hxn.out, if_neg h0, hC, hJ]
            conv => rhs; rw [← ba_of s]
            rw [show (⟨#[40]⟩ : ByteArray) = ba [40] from rfl, show (⟨#[41]⟩ : ByteArray) = ba [41] from rfl, ba_append, ba_append, ba_append]
            simp)
          have HC := Lib.hid hC
          have HJ := Lib.hid hJ
          clear hC hJ
          go_enter Tryz.func154, Tryz.ntmps154
          go_wp2_with fail
          refine (IsAction_any s _ (by omega)).mono ?_
          rw [ha]
          rintro e w' ⟨rfl, rfl⟩
          go_wp2_with fail
          refine (areValues_any _ xs _ (by rw [← Hxn.out]; omega) HV.out).mono ?_
          rw [hva]
          rintro e w' ⟨rfl, rfl⟩
          go_wp2_with fail
          refine (joined_any _ xs _ 44 _ rfl HT.out (by rw [← Hxn.out]; omega) H64.out HV.out).mono ?_
          rw [← HJ.out, ← HC.out]
          rintro e w1 ⟨rfl, hb1⟩
          go_wp2_with fail
          go_ret2
          exact ⟨_, by rw [hM.out]; rfl, (fun _ => hX.out.symm), hb1⟩
    · have h2i : (2 : Int) < (n : Int) := by omega
      have hM : Hid (mkOk s xs = false) := Lib.hid (by rw [HM.out, decide_eq_false h2]; simp)
      go_enter Tryz.func154, Tryz.ntmps154
      go_wp2_with fail
      refine (IsAction_any s _ (by omega)).mono ?_
      rw [ha]
      rintro e w' ⟨rfl, rfl⟩
      go_wp2_with fail
      go_ret2
      exact ⟨_, by rw [hM.out]; rfl, (fun h => by rw [hM.out] at h; cases h), Below.refl _ _⟩
/-- The text of a label with a name and values. -/
def labelText (s : ByteArray) (xs : List Int) : ByteArray := if mkOk s xs = true then mkText s xs else ByteArray.empty
end Go.Proofs.YtcakmchefbohoaaGreatDoor
