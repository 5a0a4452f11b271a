/- Contracts: whether a pattern selects a label, of the program and of the reference. -/
import Derived.Test.YtcakmchefbohoaaGreatDoorProg
import Derived.Test.YtcakmchefbohoaaGreatDoorMem
import Derived.Test.YtcakmchefbohoaaGreatDoorMath
import Derived.Test.YtcakmchefbohoaaGreatDoorBasics
import Derived.Test.YtcakmchefbohoaaGreatDoorShelf
import Derived.Test.YtcakmchefbohoaaGreatDoorNum
import Derived.Test.YtcakmchefbohoaaGreatDoorRead
import Derived.Test.YtcakmchefbohoaaGreatDoorText
import Derived.Test.YtcakmchefbohoaaGreatDoorLab
import Derived.Test.YtcakmchefbohoaaGreatDoorSplit
import Derived.Test.YtcakmchefbohoaaGreatDoorEnv
import Derived.Test.YtcakmchefbohoaaGreatDoorRLab
import Derived.WalkKit
import Derived.BigQuiet
import Derived.Deep.QuietTactic
import Derived.Lib.Hide
import Derived.Outline
set_option linter.unusedVariables false
set_option linter.unusedSimpArgs false
namespace Go.Proofs.YtcakmchefbohoaaGreatDoor
open Go.RowKit

/-- What a pattern matches; whether it selects, with or without Not. -/
def matB (p l : ByteArray) : Bool := decide (p.size = 0) || decide (p = l) || (Lib.hasSuffix p.data.toList [42] && decide (labNm l = starOf p))
def selB (p : ByteArray) (neg : Bool) (l : ByteArray) : Bool := matB p l != neg
theorem name_last {s : ByteArray} (h : isName s = true) {j : Nat} (hj : s.size = j + 1) : bt s j ≠ 42 := by
  have h1 := (of_decide_eq_true h).2.2 j (by omega)
  intro e
  unfold nameAt at h1
  rw [e] at h1
  simp [small, digit] at h1
theorem lab_no_star {s : ByteArray} (h : labOk s = true) : Lib.hasSuffix s.data.toList [42] = false := by
  have hl := ba_len s
  cases hp : hasPar s with
  | false =>
    have hn : isName s = true := by unfold labOk at h; rwa [if_neg (by rw [hp]; decide)] at h
    have h1 := (isName_le hn).1
    obtain ⟨j, hj⟩ : ∃ j, s.size = j + 1 := ⟨s.size - 1, by omega⟩
    rw [star_bt hj]
    exact decide_eq_false (name_last hn hj)
  | true =>
    have hs : shutEnd s = true := by
      unfold labOk at h
      rw [if_pos hp] at h
      simp only [Bool.and_eq_true] at h
      exact h.1.1.1.2
    have hlt : idxC 40 s.data.toList < s.size := of_decide_eq_true hp
    obtain ⟨j, hj⟩ : ∃ j, s.size = j + 1 := ⟨s.size - 1, by omega⟩
    rw [shut_bt hp hj, decide_eq_true_eq] at hs
    rw [star_bt hj]
    apply decide_eq_false
    omega
theorem mat_empty {p l : ByteArray} (h : p.size = 0) : matB p l = true := by unfold matB; rw [decide_eq_true h]; rfl
theorem mat_star {p l : ByteArray} (hl : labOk l = true) (h : Lib.hasSuffix p.data.toList [42] = true) : matB p l = decide (nameOf l = starOf p) := by
  have h0 : ¬ p.size = 0 := by
    intro e
    rw [nat0_none e, hasSuffix_one] at h
    simp at h
  have hne : ¬ p = l := by
    intro e
    rw [e, lab_no_star hl] at h
    cases h
  have hn : labNm l = nameOf l := by unfold labNm; rw [if_pos hl]
  unfold matB
  rw [decide_eq_false h0, decide_eq_false hne, h, hn]
  simp
theorem mat_plain {p l : ByteArray} (h0 : ¬ p.size = 0) (h : Lib.hasSuffix p.data.toList [42] = false) : matB p l = decide (p = l) := by
  unfold matB
  rw [decide_eq_false h0, h]
  simp
set_option maxRecDepth 100000 in
set_option maxHeartbeats 800000 in
theorem selects_any (k v : Int) (p : ByteArray) (neg : Bool) (l : ByteArray) (w : World) (hp : p.size ≤ 1048576) (hl : l.size ≤ 1048576) (hT : Env w) :
    Calls Tryz.prog 52 #[.agg #[.int .i64 k, .int .i64 v, .string p, .bool neg], .string l] w fun e w' => e = .returned (.bool (selB p neg l)) ∧ Below w.heap.size w w' := by
  have HT := Lib.hid hT
  clear hT
  have hSt : Hid ((⟨(Lib.trimSuffix p.data.toList [42]).toArray⟩ : ByteArray) = starOf p) := Lib.hid rfl
  obtain ⟨St, hst⟩ : ∃ St, St = starOf p := ⟨_, rfl⟩
  obtain ⟨sf, hsf⟩ : ∃ sf, sf = Lib.hasSuffix p.data.toList [42] := ⟨_, rfl⟩
  rw [← hst] at hSt
  have HM : Hid (matB p l = (decide (p.size = 0) || decide (p = l) || (sf && decide (labNm l = St)))) := Lib.hid (by unfold matB; rw [hst, hsf])
  clear hst
  by_cases h0 : p.size = 0
  · have hP : Hid (selB p neg l = !neg) := Lib.hid (by unfold selB; rw [HM.out, decide_eq_true h0]; cases neg <;> rfl)
    have hb : p.toList = [] := toList_nil h0
    have hb2 : (p.toList == ([] : List UInt8)) = true := by rw [hb]; rfl
    have hbe : p.toList.isEmpty = true := by rw [hb]; rfl
    clear h0
    go_enter Tryz.func52, Tryz.ntmps52
    go_wp2_with fail
    refine (Tryz_strings_CutSuffix p _ _ (by omega)).mono ?_
    rw [show ({ data := #[42] } : ByteArray).data.toList = [42] from rfl, hSt.out, ← hsf]
    rintro e w1 ⟨rfl, rfl⟩
    clear hsf
    go_wp2_with fail
    go_ret
    exact ⟨by rw [hP.out]; rfl, (Below.refl _ _).alloc (Nat.le_refl _) _⟩
  · have hne : ¬ p.toList = [] := toList_ne h0
    have hb2 : (p.toList == ([] : List UInt8)) = false := by simpa using hne
    have hbe : p.toList.isEmpty = false := by simpa using hne
    by_cases h1 : p = l
    · have hP : Hid (selB p neg l = !neg) := Lib.hid (by unfold selB; rw [HM.out, decide_eq_true h1]; cases neg <;> simp)
      subst h1
      clear h0
      go_enter Tryz.func52, Tryz.ntmps52
      go_wp2_with fail
      refine (Tryz_strings_CutSuffix p _ _ (by omega)).mono ?_
      rw [show ({ data := #[42] } : ByteArray).data.toList = [42] from rfl, hSt.out, ← hsf]
      rintro e w1 ⟨rfl, rfl⟩
      clear hsf
      go_wp2_with fail
      go_ret
      exact ⟨by rw [hP.out]; rfl, (Below.refl _ _).alloc (Nat.le_refl _) _⟩
    · have h1b : (p.toList == l.toList) = false := by rw [beq_text]; exact decide_eq_false h1
      have h1c : ¬ p.toList = l.toList := by simpa using h1b
      cases hf : sf with
      | false =>
        have hP : Hid (selB p neg l = neg) := Lib.hid (by unfold selB; rw [HM.out, decide_eq_false h1, decide_eq_false h0, hf]; cases neg <;> rfl)
        rw [hf] at hsf
        have Hsf := Lib.hid hsf
        clear hsf
        clear h0 h1
        go_enter Tryz.func52, Tryz.ntmps52
        go_wp2_with fail
        refine (Tryz_strings_CutSuffix p _ _ (by omega)).mono ?_
        rw [show ({ data := #[42] } : ByteArray).data.toList = [42] from rfl, hSt.out, ← Hsf.out]
        rintro e w1 ⟨rfl, rfl⟩
        go_wp2_with fail
        go_ret
        exact ⟨by rw [hP.out]; rfl, (Below.refl _ _).alloc (Nat.le_refl _) _⟩
      | true =>
        have hP : Hid (selB p neg l = (decide (labNm l = St) != neg)) := Lib.hid (by unfold selB; rw [HM.out, decide_eq_false h1, decide_eq_false h0, hf]; simp)
        rw [hf] at hsf
        have Hsf := Lib.hid hsf
        clear hsf
        have hbt := Lib.hid (beq_text (labNm l) St)
        clear h0 h1
        go_enter Tryz.func52, Tryz.ntmps52
        go_wp2_with fail
        refine (Tryz_strings_CutSuffix p _ _ (by omega)).mono ?_
        rw [show ({ data := #[42] } : ByteArray).data.toList = [42] from rfl, hSt.out, ← Hsf.out]
        rintro e w1 ⟨rfl, hw1⟩
        have hbA : Below w.heap.size w w1 := by rw [hw1]; exact (Below.refl _ _).alloc (Nat.le_refl _) _
        have hc2 : w1.cell? ⟨w.heap.size, 2, none⟩ = some (.string p) := by rw [hw1, cell_of_row _ _ _ _ _ _ (heap_alloc_new w _)]; rfl
        have hc3 : w1.cell? ⟨w.heap.size, 3, none⟩ = some (.bool neg) := by rw [hw1, cell_of_row _ _ _ _ _ _ (heap_alloc_new w _)]; rfl
        have hlt : w.heap.size < w1.heap.size := by rw [hw1]; simp
        clear hw1
        go_wp2_with fail
        refine (LabelName_any l _ hl (HT.out.below hbA)).mono ?_
        rintro e w2 ⟨rfl, hb2⟩
        have hc4 : w2.cell? ⟨w.heap.size, 3, none⟩ = some (.bool neg) := (hb2.cell (by exact hlt)).trans hc3
        clear hc2 hc3
        go_wp2_with fail
        go_ret
        exact ⟨by rw [hP.out, ← hbt.out]; rfl, below_trans' hbA hb2⟩
set_option maxRecDepth 100000 in
set_option maxHeartbeats 800000 in
theorem l14Selects_any (p : ByteArray) (neg : Bool) (l : ByteArray) (w : World) (hp : p.size ≤ 1048576) (hl : l.size ≤ 1048576) (hok : labOk l = true) :
    Calls Tryz.prog 77 #[.string p, .bool neg, .string l] w fun e w' => e = .returned (.bool (selB p neg l)) ∧ Below w.heap.size w w' := by
  by_cases h0 : p.size = 0
  · have hP : Hid (selB p neg l = !neg) := Lib.hid (by unfold selB; rw [mat_empty h0]; cases neg <;> rfl)
    have h0i : (p.size : Int) = 0 := by omega
    obtain rfl : p = ByteArray.empty := by
      have := nat0_none h0
      rw [← ba_of p, this]; rfl
    clear h0 h0i
    go_enter Tryz.func77, Tryz.ntmps77
    go_wp2_with fail
    go_ret
    exact ⟨by rw [hP.out]; rfl, Below.refl _ _⟩
  · have h1n : ¬ p = ByteArray.empty := by intro e; rw [e] at h0; exact h0 rfl
    have h0i : ¬ (p.size : Int) = 0 := by omega
    have h0b : ((p.size : Int) == 0) = false := by simp; omega
    obtain ⟨j, hj⟩ : ∃ j, p.size = j + 1 := ⟨p.size - 1, by omega⟩
    have hj1 : (p.size : Int) - 1 = (j : Int) := by omega
    have hjs : j < p.size := by omega
    have hjl : j ≤ p.size := by omega
    have hcj : (p[j].toNat : Int) = bt p j := bt_eq p j hjs
    have HB := Lib.hid (star_bt hj)
    have HX := Lib.hid (fun h => ext_star h hj)
    clear hj
    by_cases h42 : bt p j = 42
    · have hsf : Lib.hasSuffix p.data.toList [42] = true := by rw [HB.out]; exact decide_eq_true h42
      have hP : Hid (selB p neg l = (decide (nameOf l = starOf p) != neg)) := Lib.hid (by unfold selB; rw [mat_star hok hsf])
      have hx := Lib.hid (HX.out hsf)
      have hbt := Lib.hid (beq_text (nameOf l) (starOf p))
      clear hsf h0
      go_enter Tryz.func77, Tryz.ntmps77
      go_wp2_with fail
      go_quiet ((go_at_call 122; exact Calls.quiet_of_same ((l01LabelName_any l _ hl).mono fun _ _ h => ⟨h.1, h.2.symm⟩)))
      go_wp2_with fail
      go_ret
      exact ⟨by rw [hP.out, ← hbt.out, ← hx.out]; rfl, below_drewN _ _⟩
    · have hsf : Lib.hasSuffix p.data.toList [42] = false := by rw [HB.out]; exact decide_eq_false h42
      have hP : Hid (selB p neg l = (decide (p = l) != neg)) := Lib.hid (by unfold selB; rw [mat_plain h0 hsf])
      have hbt := Lib.hid (beq_text p l)
      clear hsf h0
      go_enter Tryz.func77, Tryz.ntmps77
      go_wp2_with fail
      go_ret
      exact ⟨by rw [hP.out, ← hbt.out]; rfl, Below.refl _ _⟩
end Go.Proofs.YtcakmchefbohoaaGreatDoor
