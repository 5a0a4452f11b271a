/- Contracts: labels, of the program and of the reference. -/
import Derived.Test.YtefboecamhhagaaDoorProg
import Derived.Test.YtefboecamhhagaaDoorMem
import Derived.Test.YtefboecamhhagaaDoorMath
import Derived.Test.YtefboecamhhagaaDoorBasics
import Derived.Test.YtefboecamhhagaaDoorHelpI
import Derived.Test.YtefboecamhhagaaDoorOpenI
import Derived.Test.YtefboecamhhagaaDoorGrid
import Derived.Test.YtefboecamhhagaaDoorShelf
import Derived.Test.YtefboecamhhagaaDoorDec
import Derived.Test.YtefboecamhhagaaDoorNum
import Derived.Test.YtefboecamhhagaaDoorRead
import Derived.Test.YtefboecamhhagaaDoorText
import Derived.Test.YtefboecamhhagaaDoorLab
import Derived.Test.YtefboecamhhagaaDoorSplit
import Derived.Test.YtefboecamhhagaaDoorList
import Derived.Test.YtefboecamhhagaaDoorEnv
import Derived.Test.YtefboecamhhagaaDoorNumbers
import Derived.WalkKit
import Derived.BigQuiet
import Derived.Maps.AppendAt
import Derived.Lib.Hide
import Derived.Outline
set_option linter.unusedVariables false
set_option linter.unusedSimpArgs false
namespace Go.Proofs.YtefboecamhhagaaDoor
open Go.RowKit

theorem ba_tau : tauB = ba [116, 97, 117] := rfl
theorem areValues_any (v : Value) (xs : List Int) (w : World) (hn : xs.length ≤ 4611686018427387904) (hv : RdI w v xs) :
    Calls Tryd.prog 77 #[v] w fun e w' => e = .returned (.bool (vals2 xs)) ∧ w = w' := by
  obtain ⟨a, cap, rfl⟩ := hv.slice
  have HV := Lib.hid hv
  clear hv
  go_enter Tryd.func77, Tryd.ntmps77
  go_wp2_with fail
  refine (areVal1_contains _ xs _ hn HV.out).mono ?_
  rintro e w' ⟨rfl, rfl⟩
  go_wp2_with fail
  go_ret
  exact ⟨by simp [vals2], rfl⟩
set_option maxRecDepth 100000 in
set_option maxHeartbeats 1600000 in
theorem labelOf_any (s : ByteArray) (v : Value) (xs : List Int) (w : World) (hs : s.size ≤ 1048576) (hn : xs.length ≤ 1048577) (h64 : I64s xs) (hT : PowTab w) (hv : RdI w v xs) :
    Calls Tryd.prog 47 #[.string s, v] w fun e w' => ∃ t, e = .returned (.tuple #[.string t, .bool (mkOk s xs)]) ∧ (mkOk s xs = true → t = mkText s xs) ∧ Below w.heap.size w w' := by
  obtain ⟨a, cap, rfl⟩ := hv.slice
  have HV := Lib.hid hv
  have H64 := Lib.hid h64
  have HT := Lib.hid hT
  obtain ⟨n, hxn⟩ : ∃ n, n = xs.length := ⟨_, rfl⟩
  rw [← hxn] at HV hn ⊢
  have Hxn := Lib.hid hxn
  clear hv h64 hT hxn
  by_cases ht : s = tauB
  · have hb : (s.toList == ([116, 97, 117] : List UInt8)) = true := by rw [ht, ByteArray.toList_eq]; rfl
    have hb2 : s.toList = [116, 97, 117] := by simpa using hb
    by_cases h0 : n = 0
    · have hM : Hid (mkOk s xs = true) := Lib.hid (by unfold mkOk; rw [if_pos ht, ← Hxn.out, decide_eq_true h0])
      have hX : Hid (mkText s xs = ba [116, 97, 117]) := Lib.hid (by unfold mkText; rw [← Hxn.out, if_pos h0, ht]; rfl)
      subst h0
      clear ht
      go_enter Tryd.func47, Tryd.ntmps47
      go_wp2_with fail
      go_ret2
      exact ⟨_, by rw [hM.out]; rfl, (fun _ => hX.out.symm), Below.refl _ _⟩
    · have hM : Hid (mkOk s xs = false) := Lib.hid (by unfold mkOk; rw [if_pos ht, ← Hxn.out, decide_eq_false h0])
      have h0i : ¬ (n : Int) = 0 := by omega
      have h0b : ((n : Int) == 0) = false := by simp; omega
      clear ht
      go_enter Tryd.func47, Tryd.ntmps47
      go_wp2_with fail
      go_ret2
      exact ⟨_, by rw [hM.out]; rfl, (fun h => by rw [hM.out] at h; cases h), Below.refl _ _⟩
  have hb : (s.toList == ([116, 97, 117] : List UInt8)) = false := beq_lit s _ (by rw [← ba_tau]; exact ht)
  have hb2 : ¬ s.toList = [116, 97, 117] := by simpa using hb
  have HM : Hid (mkOk s xs = (isAction s && vals2 xs && decide (n ≤ 2))) := Lib.hid (by unfold mkOk; rw [if_neg ht, ← Hxn.out])
  clear ht
  cases ha : isAction s with
  | false =>
    have hM : Hid (mkOk s xs = false) := Lib.hid (by rw [HM.out, ha]; rfl)
    go_enter Tryd.func47, Tryd.ntmps47
    go_wp2_with fail
    refine (IsAction_any s _ (by omega)).mono ?_
    rw [ha]
    rintro e w' ⟨rfl, rfl⟩
    go_wp2_with fail
    go_ret2
    exact ⟨_, by rw [hM.out]; rfl, (fun h => by rw [hM.out] at h; cases h), Below.refl _ _⟩
  | true =>
    by_cases h2 : n ≤ 2
    · have h2i : ¬ (2 : Int) < (n : Int) := by omega
      cases hva : vals2 xs with
      | false =>
        have hM : Hid (mkOk s xs = false) := Lib.hid (by rw [HM.out, hva]; simp)
        go_enter Tryd.func47, Tryd.ntmps47
        go_wp2_with fail
        refine (IsAction_any s _ (by omega)).mono ?_
        rw [ha]
        rintro e w' ⟨rfl, rfl⟩
        go_wp2_with fail
        refine (areValues_any _ xs _ (by rw [← Hxn.out]; omega) HV.out).mono ?_
        rw [hva]
        rintro e w' ⟨rfl, rfl⟩
        go_wp2_with fail
        go_ret2
        exact ⟨_, by rw [hM.out]; rfl, (fun h => by rw [hM.out] at h; cases h), Below.refl _ _⟩
      | true =>
        have hM : Hid (mkOk s xs = true) := Lib.hid (by rw [HM.out, hva, ha, decide_eq_true h2]; rfl)
        by_cases h0 : n = 0
        · have hX : Hid (mkText s xs = s) := Lib.hid (by unfold mkText; rw [← Hxn.out, if_pos h0])
          subst h0
          go_enter Tryd.func47, Tryd.ntmps47
          go_wp2_with fail
          refine (IsAction_any s _ (by omega)).mono ?_
          rw [ha]
          rintro e w' ⟨rfl, rfl⟩
          go_wp2_with fail
          refine (areValues_any _ xs _ (by rw [← Hxn.out]; omega) HV.out).mono ?_
          rw [hva]
          rintro e w' ⟨rfl, rfl⟩
          go_wp2_with fail
          go_ret2
          exact ⟨_, by rw [hM.out]; rfl, (fun _ => hX.out.symm), Below.refl _ _⟩
        · have h0i : ¬ (n : Int) = 0 := by omega
          have h0b : ((n : Int) == 0) = false := by simp; omega
          have hs10 : s.size ≤ 10 := (isAction_le ha).2
          obtain ⟨J, hJ⟩ : ∃ J, J = ba (joinN xs 44) := ⟨_, rfl⟩
          have hJs : J.size ≤ 44 := by rw [hJ]; have := joinN_len xs 44 H64.out; rw [← Hxn.out] at this; show (joinN xs 44).length ≤ 44; omega
          have h40 : (⟨#[40]⟩ : ByteArray).size = 1 := rfl
          have h41 : (⟨#[41]⟩ : ByteArray).size = 1 := rfl
          obtain ⟨C, hC⟩ : ∃ C : ByteArray, C = s ++ ⟨#[40]⟩ := ⟨_, rfl⟩
          have hCs : C.size ≤ 11 := by rw [hC, ByteArray.size_append, h40]; omega
          have hX : Hid (mkText s xs = C ++ J ++ ⟨#[41]⟩) := Lib.hid (by
            unfold mkText
            rw [← Hxn.out, if_neg h0, hC, hJ]
            conv => rhs; rw [← ba_of s]
            rw [show (⟨#[40]⟩ : ByteArray) = ba [40] from rfl, show (⟨#[41]⟩ : ByteArray) = ba [41] from rfl, ba_append, ba_append, ba_append]
            simp)
          have HC := Lib.hid hC
          have HJ := Lib.hid hJ
          clear hC hJ
          go_enter Tryd.func47, Tryd.ntmps47
          go_wp2_with fail
          refine (IsAction_any s _ (by omega)).mono ?_
          rw [ha]
          rintro e w' ⟨rfl, rfl⟩
          go_wp2_with fail
          refine (areValues_any _ xs _ (by rw [← Hxn.out]; omega) HV.out).mono ?_
          rw [hva]
          rintro e w' ⟨rfl, rfl⟩
          go_wp2_with fail
          refine (joined_any _ xs _ 44 _ rfl HT.out (by rw [← Hxn.out]; omega) H64.out HV.out).mono ?_
          rw [← HJ.out, ← HC.out]
          rintro e w1 ⟨rfl, hb1⟩
          go_wp2_with fail
          go_ret2
          exact ⟨_, by rw [hM.out]; rfl, (fun _ => hX.out.symm), hb1⟩
    · have h2i : (2 : Int) < (n : Int) := by omega
      have hM : Hid (mkOk s xs = false) := Lib.hid (by rw [HM.out, decide_eq_false h2]; simp)
      go_enter Tryd.func47, Tryd.ntmps47
      go_wp2_with fail
      refine (IsAction_any s _ (by omega)).mono ?_
      rw [ha]
      rintro e w' ⟨rfl, rfl⟩
      go_wp2_with fail
      go_ret2
      exact ⟨_, by rw [hM.out]; rfl, (fun h => by rw [hM.out] at h; cases h), Below.refl _ _⟩
/-- The text of a label with a name and values. -/
def labelText (s : ByteArray) (xs : List Int) : ByteArray := if mkOk s xs = true then mkText s xs else ByteArray.empty
theorem LabelText_any (s : ByteArray) (v : Value) (xs : List Int) (w : World) (hs : s.size ≤ 1048576) (hn : xs.length ≤ 1048576) (h64 : I64s xs) (hT : PowTab w) (hv : RdI w v xs) :
    Calls Tryd.prog 18 #[.string s, v] w fun e w' => e = .returned (.string (labelText s xs)) ∧ Below w.heap.size w w' := by
  obtain ⟨a, cap, rfl⟩ := hv.slice
  have HV := Lib.hid hv
  have H64 := Lib.hid h64
  have HT := Lib.hid hT
  clear hv h64 hT
  cases hm : mkOk s xs with
  | false =>
    have HX : Hid (labelText s xs = ByteArray.empty) := Lib.hid (by unfold labelText; rw [hm]; rfl)
    go_enter Tryd.func18, Tryd.ntmps18
    go_wp2_with fail
    refine (labelOf_any s _ xs _ hs (by omega) H64.out HT.out HV.out).mono ?_
    rw [hm]
    rintro e w1 ⟨t, rfl, _, hb1⟩
    go_wp2_with fail
    go_ret
    exact ⟨by rw [HX.out]; rfl, hb1⟩
  | true =>
    have HX : Hid (labelText s xs = mkText s xs) := Lib.hid (by unfold labelText; rw [if_pos hm])
    go_enter Tryd.func18, Tryd.ntmps18
    go_wp2_with fail
    refine (labelOf_any s _ xs _ hs (by omega) H64.out HT.out HV.out).mono ?_
    rw [hm]
    rintro e w1 ⟨t, rfl, ht, hb1⟩
    have Ht := Lib.hid (ht rfl)
    clear ht
    go_wp2_with fail
    go_ret
    exact ⟨by rw [HX.out, ← Ht.out]; rfl, hb1⟩
set_option maxHeartbeats 800000 in
theorem l01Make_any (s : ByteArray) (v : Value) (xs : List Int) (w : World) (hs : s.size ≤ 1048576) (hn : xs.length ≤ 1048576) (h64 : I64s xs) (hv : RdI w v xs) :
    Calls Tryd.prog 46 #[.string s, v] w fun e w' => e = .returned (.string (mkText s xs)) ∧ Below w.heap.size w w' := by
  obtain ⟨a, cap, rfl⟩ := hv.slice
  have HV := Lib.hid hv
  have H64 := Lib.hid h64
  obtain ⟨n, hxn⟩ : ∃ n, n = xs.length := ⟨_, rfl⟩
  rw [← hxn] at HV hn ⊢
  have Hxn := Lib.hid hxn
  clear hv h64 hxn
  by_cases h0 : n = 0
  · have hX : Hid (mkText s xs = s) := Lib.hid (by unfold mkText; rw [← Hxn.out, if_pos h0])
    subst h0
    go_enter Tryd.func46, Tryd.ntmps46
    go_wp2_with fail
    go_ret
    exact ⟨by rw [hX.out]; rfl, Below.refl _ _⟩
  · have h0i : ¬ (n : Int) = 0 := by omega
    have h0b : ((n : Int) == 0) = false := by simp; omega
    have hjl := joinN_len xs 44 H64.out
    rw [← Hxn.out] at hjl
    obtain ⟨J, hJ⟩ : ∃ J, J = ba (joinN xs 44) := ⟨_, rfl⟩
    have hJs : J.size ≤ 30000000 := by rw [hJ]; show (joinN xs 44).length ≤ 30000000; omega
    have h40 : (⟨#[40]⟩ : ByteArray).size = 1 := rfl
    have h41 : (⟨#[41]⟩ : ByteArray).size = 1 := rfl
    obtain ⟨C, hC⟩ : ∃ C : ByteArray, C = s ++ ⟨#[40]⟩ := ⟨_, rfl⟩
    have hCs : C.size ≤ 1048577 := by rw [hC, ByteArray.size_append, h40]; omega
    have hX : Hid (mkText s xs = C ++ J ++ ⟨#[41]⟩) := Lib.hid (by
      unfold mkText
      rw [← Hxn.out, if_neg h0, hC, hJ]
      conv => rhs; rw [← ba_of s]
      rw [show (⟨#[40]⟩ : ByteArray) = ba [40] from rfl, show (⟨#[41]⟩ : ByteArray) = ba [41] from rfl, ba_append, ba_append, ba_append]
      simp)
    have HJ : Hid ((if xs.length = 0 then ba [45] else ba (joinN xs 44)) = J) := Lib.hid (by rw [← Hxn.out, if_neg h0, hJ])
    have HC := Lib.hid hC
    clear hC hJ hjl
    go_enter Tryd.func46, Tryd.ntmps46
    go_wp2_with fail
    refine (l01List_any _ xs _ (by rw [← Hxn.out]; exact hn) H64.out HV.out).mono ?_
    rw [HJ.out, ← HC.out]
    rintro e w1 ⟨rfl, hb1⟩
    go_wp2_with fail
    go_ret
    exact ⟨by rw [hX.out]; rfl, hb1⟩
theorem mkOk_spec (s : ByteArray) (xs : List Int) : mkOk s xs = (isName s && decide (xs.length ≤ 2) && !(decide (s = tauB) && decide (0 < xs.length)) && vals2 xs) := by
  unfold mkOk
  by_cases h : s = tauB
  · rw [if_pos h, h, tau_name]
    cases xs with
    | nil => rfl
    | cons a r => simp
  · rw [if_neg h, isAction_eq, decide_eq_false h]
    cases isName s <;> cases vals2 xs <;> simp
set_option maxRecDepth 100000 in
set_option maxHeartbeats 1600000 in
theorem spec_LabelText_any (s : ByteArray) (v : Value) (xs : List Int) (w : World) (hs : s.size ≤ 1048576) (hn : xs.length ≤ 1048576) (h64 : I64s xs) (hv : RdI w v xs) :
    Calls Tryd.prog 17 #[.string s, v] w fun e w' => e = .returned (.string (labelText s xs)) ∧ Below w.heap.size w w' := by
  have HM := Lib.hid (mkOk_spec s xs)
  have HE : Hid (mkOk s xs = false → labelText s xs = ByteArray.empty) := Lib.hid (fun h => by unfold labelText; rw [h]; rfl)
  have HV := Lib.hid hv
  obtain ⟨a, cap, rfl, hcap, hm, hv⟩ := hv
  have H64 := Lib.hid h64
  obtain ⟨n, hxn⟩ : ∃ n, n = xs.length := ⟨_, rfl⟩
  rw [← hxn] at HV hn hv hcap ⊢
  have Hxn := Lib.hid hxn
  clear h64 hxn
  cases hnm : isName s with
  | false =>
    have hX : Hid (labelText s xs = ByteArray.empty) := Lib.hid (HE.out (by rw [HM.out, hnm]; rfl))
    go_enter Tryd.func17, Tryd.ntmps17
    go_wp2_with fail
    refine (l01Name_any s _ (by omega)).mono ?_
    rw [hnm]
    rintro e w' ⟨rfl, rfl⟩
    go_wp2_with fail
    go_ret
    exact ⟨by rw [hX.out]; rfl, Below.refl _ _⟩
  | true =>
    by_cases h2 : n ≤ 2
    · have h2i : ¬ (2 : Int) < (n : Int) := by omega
      by_cases ht : s = tauB ∧ 0 < n
      · have hb : (s.toList == ([116, 97, 117] : List UInt8)) = true := by rw [ht.1, ByteArray.toList_eq]; rfl
        have hb2 : s.toList = [116, 97, 117] := by simpa using hb
        have hX : Hid (labelText s xs = ByteArray.empty) := Lib.hid (HE.out (by rw [HM.out, ← Hxn.out, decide_eq_true ht.1, decide_eq_true ht.2]; simp))
        have h0i : (0 : Int) < (n : Int) := by omega
        clear ht
        go_enter Tryd.func17, Tryd.ntmps17
        go_wp2_with fail
        refine (l01Name_any s _ (by omega)).mono ?_
        rw [hnm]
        rintro e w' ⟨rfl, rfl⟩
        go_wp2_with fail
        go_ret
        exact ⟨by rw [hX.out]; rfl, Below.refl _ _⟩
      · have HW : Hid (∀ P : Prop, (s.toList = [116, 97, 117] → n = 0 → P) → (¬ s.toList = [116, 97, 117] → P) → P) := Lib.hid (by
          intro P h1 h2
          by_cases h : s = tauB
          · exact h1 (by rw [h, ByteArray.toList_eq]; rfl) (by
              by_cases h0 : n = 0
              · exact h0
              · exact absurd ⟨h, by omega⟩ ht)
          · exact h2 (by simpa using beq_lit s _ (by rw [← ba_tau]; exact h)))
        have HM2 : Hid (mkOk s xs = vals2 xs) := Lib.hid (by
          have hq : (decide (s = tauB) && decide (0 < n)) = false := by
            cases h : (decide (s = tauB) && decide (0 < n)) with
            | false => rfl
            | true => exact absurd (by simpa using h) ht
          rw [HM.out, ← Hxn.out, hq, hnm, decide_eq_true h2]; simp)
        clear ht
        refine HW.out _ ?_ ?_
        · intro hb2 h0
          have hX : Hid (labelText s xs = mkText s xs) := Lib.hid (by
            have hx0 : xs = [] := List.length_eq_zero_iff.1 (by rw [← Hxn.out]; exact h0)
            unfold labelText
            rw [if_pos]
            rw [HM2.out, hx0]; rfl)
          have hb : (s.toList == ([116, 97, 117] : List UInt8)) = true := by simpa using hb2
          subst h0
          clear HW
          go_enter Tryd.func17, Tryd.ntmps17
          go_wp2_with fail
          refine (l01Name_any s _ (by omega)).mono ?_
          rw [hnm]
          rintro e w' ⟨rfl, rfl⟩
          go_wp2_with fail
          go_loop [5] (fun si => si = .int .i64 0) (fun _ => 0)
          case atStart => rfl
          case round =>
            subst hrel
            go_wp2_with fail
            refine (l01Make_any s _ xs _ hs (by rw [← Hxn.out]; omega) H64.out HV.out).mono ?_
            rintro e w1 ⟨rfl, hb1⟩
            go_wp2_with fail
            go_ret
            exact ⟨by rw [hX.out]; rfl, hb1⟩
        · intro hb2
          have hb : (s.toList == ([116, 97, 117] : List UInt8)) = false := by simpa using hb2
          clear HW
          go_enter Tryd.func17, Tryd.ntmps17
          go_wp2_with fail
          refine (l01Name_any s _ (by omega)).mono ?_
          rw [hnm]
          rintro e w' ⟨rfl, rfl⟩
          go_wp2_with fail
          go_loop [5] (fun si => ∃ k : Nat, k ≤ n ∧ si = .int .i64 k ∧ Hid ((xs.take k).all isVal = true)) (fun si => n - (intOf si).toNat)
          case atStart => exact ⟨0, Nat.zero_le _, rfl, Lib.hid rfl⟩
          case round =>
            obtain ⟨k, hk, rfl, HL⟩ := hrel
            by_cases hlt : k < n
            · obtain ⟨b, o, rfl, hbk, hc⟩ := hv (by omega)
              have hg : w.cell? ⟨b, o + k, none⟩ = some (.int .i64 (nth xs k)) := hc k (by omega)
              clear hc
              cases hp : isVal (nth xs k) with
              | true =>
                have H2 := Lib.hid (all_next (by rw [← Hxn.out]; exact hlt) HL.out hp)
                have hq : inR (nth xs k) 0 63 = true := hp
                clear HL hp
                go_wp2_with (go_at_call 45; refine (l00In_any _ _ _ _).mono ?_; rintro e w' ⟨rfl, rfl⟩)
                go_round
                case rel => exact ⟨k + 1, by omega, by go_num, H2⟩
                case measure => simp [intOf]; omega
              | false =>
                have hX : Hid (labelText s xs = ByteArray.empty) := Lib.hid (HE.out (by rw [HM2.out]; exact all_hit (by rw [← Hxn.out]; exact hlt) hp))
                have hq : inR (nth xs k) 0 63 = false := hp
                clear HL hp
                go_wp2_with (go_at_call 45; refine (l00In_any _ _ _ _).mono ?_; rintro e w' ⟨rfl, rfl⟩)
                go_ret
                exact ⟨by rw [hX.out]; rfl, Below.refl _ _⟩
            · obtain rfl : k = n := by omega
              have hX : Hid (labelText s xs = mkText s xs) := Lib.hid (by
                have := HL.out
                rw [List.take_of_length_le (by rw [Hxn.out]; exact Nat.le_refl _)] at this
                unfold labelText
                rw [if_pos (by rw [HM2.out]; exact this)])
              go_wp2_with fail
              refine (l01Make_any s _ xs _ hs (by rw [← Hxn.out]; omega) H64.out HV.out).mono ?_
              rintro e w1 ⟨rfl, hb1⟩
              go_wp2_with fail
              go_ret
              exact ⟨by rw [hX.out]; rfl, hb1⟩
    · have h2i : (2 : Int) < (n : Int) := by omega
      have hX : Hid (labelText s xs = ByteArray.empty) := Lib.hid (HE.out (by rw [HM.out, ← Hxn.out, decide_eq_false h2]; simp))
      go_enter Tryd.func17, Tryd.ntmps17
      go_wp2_with fail
      refine (l01Name_any s _ (by omega)).mono ?_
      rw [hnm]
      rintro e w' ⟨rfl, rfl⟩
      go_wp2_with fail
      go_ret
      exact ⟨by rw [hX.out]; rfl, Below.refl _ _⟩
end Go.Proofs.YtefboecamhhagaaDoor
