/- Contracts: labels and patterns read, of the program and of the reference. -/
import Derived.Test.YtcakmchefbohoaaGreatDoorProg
import Derived.Test.YtcakmchefbohoaaGreatDoorMem
import Derived.Test.YtcakmchefbohoaaGreatDoorMath
import Derived.Test.YtcakmchefbohoaaGreatDoorBasics
import Derived.Test.YtcakmchefbohoaaGreatDoorHelpI
import Derived.Test.YtcakmchefbohoaaGreatDoorOpenI
import Derived.Test.YtcakmchefbohoaaGreatDoorGrid
import Derived.Test.YtcakmchefbohoaaGreatDoorShelf
import Derived.Test.YtcakmchefbohoaaGreatDoorDec
import Derived.Test.YtcakmchefbohoaaGreatDoorNum
import Derived.Test.YtcakmchefbohoaaGreatDoorRead
import Derived.Test.YtcakmchefbohoaaGreatDoorText
import Derived.Test.YtcakmchefbohoaaGreatDoorLab
import Derived.Test.YtcakmchefbohoaaGreatDoorSplit
import Derived.Test.YtcakmchefbohoaaGreatDoorList
import Derived.Test.YtcakmchefbohoaaGreatDoorEnv
import Derived.Test.YtcakmchefbohoaaGreatDoorNumbers
import Derived.Test.YtcakmchefbohoaaGreatDoorLabel
import Derived.WalkKit
import Derived.BigQuiet
import Derived.Maps.AppendAt
import Derived.Lib.Hide
import Derived.Outline
set_option linter.unusedVariables false
set_option linter.unusedSimpArgs false
namespace Go.Proofs.YtcakmchefbohoaaGreatDoor
open Go.RowKit

/-- What is read of a label. -/
def labNm (s : ByteArray) : ByteArray := if labOk s = true then nameOf s else ByteArray.empty
def labVs (s : ByteArray) : List Int := if labOk s = true then labVals s else []
theorem labVs_len (s : ByteArray) : (labVs s).length ≤ 2 := by
  unfold labVs
  by_cases h : labOk s = true
  · rw [if_pos h]
    unfold labVals
    by_cases hp : hasPar s = true
    · rw [if_pos hp, numsV_length]
      unfold labOk at h
      rw [if_pos hp, Bool.and_eq_true, decide_eq_true_eq] at h
      exact h.2
    · rw [if_neg hp]; exact Nat.zero_le _
  · rw [if_neg h]; exact Nat.zero_le _
theorem listVals_len (s : ByteArray) : (listVals s).length ≤ 64 := by
  unfold listVals
  by_cases hd : s = ⟨#[45]⟩
  · rw [if_pos hd]; exact Nat.zero_le _
  · rw [if_neg hd]
    by_cases h : listOkR s = true
    · rw [if_pos h]
      unfold listOkR at h
      rw [if_neg hd, Bool.and_eq_true] at h
      exact fits_len h.2
    · rw [if_neg h]; exact Nat.zero_le _
theorem nameOf_no {s : ByteArray} (h : hasPar s = false) : nameOf s = s := by
  have h1 : ¬ idxC 40 s.data.toList < s.size := of_decide_eq_false h
  unfold nameOf
  rw [List.take_of_length_le (by rw [ba_len]; omega)]
  exact ba_of s
theorem below_drewN (w : World) (n : Nat) : Below w.heap.size w (w.drewN n) := ⟨rfl, rfl, rfl, Nat.le_refl _, fun _ _ => rfl⟩
theorem trim_len (l p : List UInt8) : (Lib.trimSuffix l p).length ≤ l.length := by
  unfold Lib.trimSuffix
  split
  · rw [List.length_take]; omega
  · exact Nat.le_refl _
theorem rest_len (s : ByteArray) : (restOf s).length ≤ s.size := by
  unfold restOf
  rw [List.length_drop, ba_len]; omega
theorem inner_len (s : ByteArray) : (innerOf s).size ≤ s.size := Nat.le_trans (trim_len _ _) (rest_len s)
theorem name_len (s : ByteArray) : (nameOf s).size ≤ s.size := by
  have : (nameOf s).size = (s.data.toList.take (idxC 40 s.data.toList)).length := rfl
  rw [this, List.length_take, ba_len]
  omega
theorem ne_text {x y : ByteArray} (h : decide (x = y) = false) : (x.toList == y.toList) = false := by rw [beq_text, h]
set_option maxRecDepth 100000 in
set_option maxHeartbeats 1600000 in
theorem readLabel_no (s : ByteArray) (w : World) (hs : s.size ≤ 1048576) (hT : Env w) (hp : hasPar s = false) :
    Calls Tryz.prog 125 #[.string s] w fun e w' => ∃ u, e = .returned (.tuple #[.string (labNm s), u, .bool (labOk s)]) ∧ OwI w' w.heap.size u (labVs s) ∧ Below w.heap.size w w' := by
  have hL := Lib.hid (lab_no hp)
  have hcut := cut_no hp
  have hnm := Lib.hid (nameOf_no hp)
  have hvl : Hid (labVals s = []) := Lib.hid (by unfold labVals; rw [hp]; rfl)
  have HT := Lib.hid hT
  obtain ⟨m, hmx⟩ := hT.2
  clear hT hp
  go_enter Tryz.func125, Tryz.ntmps125
  go_wp2_with fail
  refine (Tryz_strings_Cut s _ m _ (by omega) hmx).mono ?_
  rw [show ({ data := #[40] } : ByteArray).data.toList = [40] from rfl, hcut]
  simp only [Lib.mk_data]
  rintro e w' ⟨rfl, q, rfl⟩
  have hbA := below_drewN w q
  have HT1 := Lib.hid (HT.out.1.below hbA).1
  have hsz : w.heap.size ≤ (w.drewN q).heap.size := hbA.size
  generalize w.drewN q = w1 at *
  clear hmx hcut
  cases hk : mkOk s [] with
  | false =>
    have hO : Hid (labOk s = false) := Lib.hid (hL.out.trans hk)
    have hN : Hid (labNm s = ByteArray.empty) := Lib.hid (by unfold labNm; rw [hO.out]; rfl)
    have hV : Hid (labVs s = []) := Lib.hid (by unfold labVs; rw [hO.out]; rfl)
    go_wp2_with fail
    refine (labelOf_any s _ [] _ hs (by decide) (fun x hx => by cases hx) HT1.out (OwI_nil _ 0).rd).mono ?_
    rw [hk]
    rintro e w2 ⟨t, rfl, _, hb2⟩
    go_wp2_with fail
    go_ret3
    exact ⟨_, by rw [hO.out, hN.out]; rfl, by rw [hV.out]; exact OwI_nil _ _, below_trans' hbA hb2⟩
  | true =>
    have hO : Hid (labOk s = true) := Lib.hid (hL.out.trans hk)
    have hN : Hid (labNm s = s) := Lib.hid (by unfold labNm; rw [if_pos hO.out, hnm.out])
    have hV : Hid (labVs s = []) := Lib.hid (by unfold labVs; rw [if_pos hO.out, hvl.out])
    go_wp2_with fail
    refine (labelOf_any s _ [] _ hs (by decide) (fun x hx => by cases hx) HT1.out (OwI_nil _ 0).rd).mono ?_
    rw [hk]
    rintro e w2 ⟨t, rfl, ht, hb2⟩
    obtain rfl : t = s := ht rfl
    clear ht
    go_wp2_with fail
    go_ret3
    exact ⟨_, by rw [hO.out, hN.out]; rfl, by rw [hV.out]; exact OwI_nil _ _, below_trans' hbA hb2⟩
set_option maxRecDepth 100000 in
set_option maxHeartbeats 3200000 in
theorem readLabel_par (s : ByteArray) (w : World) (hs : s.size ≤ 1048576) (hT : Env w) (hp : hasPar s = true) :
    Calls Tryz.prog 125 #[.string s] w fun e w' => ∃ u, e = .returned (.tuple #[.string (labNm s), u, .bool (labOk s)]) ∧ OwI w' w.heap.size u (labVs s) ∧ Below w.heap.size w w' := by
  have hL := Lib.hid (lab_par hp)
  have hcut := cut_par hp
  have hvl : Hid (labVals s = numsV (wordsOf s)) := Lib.hid (by unfold labVals; rw [if_pos hp])
  have hagain := Lib.hid (fun hc => mk_again hp hc)
  have HFail : Hid (labOk s = false → labNm s = ByteArray.empty ∧ labVs s = []) := Lib.hid (fun h => ⟨by unfold labNm; rw [h]; rfl, by unfold labVs; rw [h]; rfl⟩)
  obtain ⟨R, hR⟩ : ∃ R, R = ba (restOf s) := ⟨_, rfl⟩
  obtain ⟨Nm, hNm⟩ : ∃ Nm, Nm = nameOf s := ⟨_, rfl⟩
  obtain ⟨In, hIn⟩ : ∃ In, In = innerOf s := ⟨_, rfl⟩
  obtain ⟨W, hW⟩ : ∃ W, W = wordsOf s := ⟨_, rfl⟩
  have hRs : R.size ≤ 1048576 := by rw [hR]; exact Nat.le_trans (rest_len s) hs
  have hNs : Nm.size ≤ 1048576 := by rw [hNm]; exact Nat.le_trans (name_len s) hs
  have hIs : In.size ≤ 1048576 := by rw [hIn]; exact Nat.le_trans (inner_len s) hs
  have HWin : Hid (W = wordsB 44 In) := Lib.hid (by rw [hW, hIn]; rfl)
  have HC : Hid (Lib.countB In ⟨#[44]⟩ + 1 = W.length) := Lib.hid (by rw [countB_one, HWin.out])
  have HB : Hid (Lib.splitB ⟨#[44]⟩ 0 (Lib.countB In ⟨#[44]⟩) In = W) := Lib.hid (by rw [splitB_one, HWin.out])
  have HTr : Hid ((⟨(Lib.trimSuffix R.data.toList [41]).toArray⟩ : ByteArray) = In) := Lib.hid (by rw [hR, hIn]; rfl)
  have hWl : W.length ≤ 1048577 := by rw [HWin.out]; have := wordsB_length 44 In; omega
  have HWs : Hid (∀ k, k < W.length → (snth W k).size ≤ 1048576) := Lib.hid (by rw [HWin.out]; intro k hk; have := snth_word hk; omega)
  rw [← hNm, ← hW] at hL
  rw [← hW] at hvl
  rw [← hNm, ← hW] at hagain
  rw [← hNm] at hcut
  have HRe : Hid ((⟨(restOf s).toArray⟩ : ByteArray) = R) := Lib.hid (by rw [hR]; rfl)
  have HN0 := Lib.hid hNm
  have HT := Lib.hid hT
  obtain ⟨m, hmx⟩ := hT.2
  clear hT hp hW hIn hNm hR
  go_enter Tryz.func125, Tryz.ntmps125
  go_wp2_with fail
  refine (Tryz_strings_Cut s _ m _ (by omega) hmx).mono ?_
  rw [show ({ data := #[40] } : ByteArray).data.toList = [40] from rfl, hcut]
  simp only [Lib.mk_data, HRe.out]
  rintro e w' ⟨rfl, q, rfl⟩
  have hbA := below_drewN w q
  have HTA := Lib.hid (HT.out.below hbA)
  have hszA : w.heap.size ≤ (w.drewN q).heap.size := hbA.size
  generalize w.drewN q = wa at *
  clear hmx hcut HT
  obtain ⟨m, hmx⟩ := HTA.out.2
  go_wp2_with fail
  refine (Tryz_strings_TrimSuffix R _ _ (by omega)).mono ?_
  rw [show ({ data := #[41] } : ByteArray).data.toList = [41] from rfl, HTr.out]
  rintro e w' ⟨rfl, rfl⟩
  go_wp2_with fail
  refine (Tryz_strings_Split In _ m _ (by omega) hmx (by decide)).mono ?_
  rw [HB.out, HC.out]
  rintro e w1 ⟨rfl, hw1⟩
  have hbB : Below w'.heap.size w' w1 := by rw [hw1]; exact (Below.refl _ _).alloc (Nat.le_refl _) _
  have HR : Hid (RdS w1 (.slice (some ⟨w'.heap.size, 0, none⟩) W.length W.length) W) := Lib.hid (by rw [hw1, HWin.out]; exact (rd_words hIs).rd)
  have HT1 := Lib.hid (HTA.out.below hbB)
  have hbl1 := below_trans' hbA hbB
  have hsz1 := hbl1.size
  clear hmx hw1
  cases hcn : canons W with
  | false =>
    have hO : Hid (labOk s = false) := Lib.hid (by rw [hL.out, hcn]; simp)
    have hF := Lib.hid (HFail.out hO.out)
    have HE : Hid (numsOr W = []) := Lib.hid (by unfold numsOr; rw [hcn]; rfl)
    go_wp2_with fail
    refine (readNumbers_any _ W _ hWl HWs.out HT1.out.1 HR.out).mono ?_
    rw [hcn, HE.out]
    rintro e w2 ⟨u, rfl, hu, hb2⟩
    go_wp2_with fail
    go_ret3
    exact ⟨_, by rw [hO.out, hF.out.1]; rfl, by rw [hF.out.2]; exact OwI_nil _ _, below_trans' hbl1 hb2⟩
  | true =>
    have HE : Hid (numsOr W = numsV W) := Lib.hid (by unfold numsOr; rw [if_pos hcn])
    have H64 := Lib.hid (numsV_64 hcn)
    have hag := Lib.hid (hagain.out hcn)
    go_wp2_with fail
    refine (readNumbers_any _ W _ hWl HWs.out HT1.out.1 HR.out).mono ?_
    rw [hcn, HE.out]
    rintro e w2 ⟨u, rfl, hu, hb2⟩
    obtain ⟨au, cu, rfl⟩ := hu.rd.slice
    have HU := Lib.hid hu
    have hbl2 := below_trans' hbl1 hb2
    have HP2 := Lib.hid (HT1.out.below hb2).1.1
    clear hu
    cases hk : mkOk Nm (numsV W) with
    | false =>
      have hO : Hid (labOk s = false) := Lib.hid (by rw [hL.out, hk]; simp)
      have hF := Lib.hid (HFail.out hO.out)
      go_wp2_with fail
      refine (labelOf_any Nm _ (numsV W) _ hNs (by rw [numsV_length]; omega) H64.out HP2.out HU.out.rd).mono ?_
      rw [hk]
      rintro e w3 ⟨t, rfl, _, hb3⟩
      go_wp2_with fail
      go_ret3
      exact ⟨_, by rw [hO.out, hF.out.1]; rfl, by rw [hF.out.2]; exact OwI_nil _ _, below_trans' hbl2 hb3⟩
    | true =>
      cases hsh : shutEnd s with
      | false =>
        have hO : Hid (labOk s = false) := Lib.hid (by rw [hL.out, hsh]; rfl)
        have hF := Lib.hid (HFail.out hO.out)
        go_wp2_with fail
        refine (labelOf_any Nm _ (numsV W) _ hNs (by rw [numsV_length]; omega) H64.out HP2.out HU.out.rd).mono ?_
        rw [hk]
        rintro e w3 ⟨t, rfl, ht, hb3⟩
        have hq : decide (t = s) = false := by rw [ht rfl]; exact hag.out.trans hsh
        have hq2 := ne_text hq
        have hq3 : ¬ t.toList = s.toList := by simpa using hq2
        clear ht hq
        go_wp2_with fail
        go_ret3
        exact ⟨_, by rw [hO.out, hF.out.1]; rfl, by rw [hF.out.2]; exact OwI_nil _ _, below_trans' hbl2 hb3⟩
      | true =>
        have hO : Hid (labOk s = true) := Lib.hid (by rw [hL.out, hsh, hcn, hk]; rfl)
        have hN : Hid (labNm s = Nm) := Lib.hid (by unfold labNm; rw [if_pos hO.out, HN0.out])
        have hV : Hid (labVs s = numsV W) := Lib.hid (by unfold labVs; rw [if_pos hO.out, hvl.out])
        go_wp2_with fail
        refine (labelOf_any Nm _ (numsV W) _ hNs (by rw [numsV_length]; omega) H64.out HP2.out HU.out.rd).mono ?_
        rw [hk]
        rintro e w3 ⟨t, rfl, ht, hb3⟩
        obtain rfl : t = s := by
          have hq : decide (t = s) = true := by rw [ht rfl]; exact hag.out.trans hsh
          exact of_decide_eq_true hq
        clear ht
        go_wp2_with fail
        go_ret3
        exact ⟨_, by rw [hO.out, hN.out]; rfl, by rw [hV.out]; exact OwI.mono' (OwI.below HU.out hb3) hsz1, below_trans' hbl2 hb3⟩
theorem readLabel_any (s : ByteArray) (w : World) (hs : s.size ≤ 1048576) (hT : Env w) :
    Calls Tryz.prog 125 #[.string s] w fun e w' => ∃ u, e = .returned (.tuple #[.string (labNm s), u, .bool (labOk s)]) ∧ OwI w' w.heap.size u (labVs s) ∧ Below w.heap.size w w' := by
  cases hp : hasPar s with
  | false => exact readLabel_no s w hs hT hp
  | true => exact readLabel_par s w hs hT hp
theorem IsLabel_any (s : ByteArray) (w : World) (hs : s.size ≤ 1048576) (hT : Env w) :
    Calls Tryz.prog 83 #[.string s] w fun e w' => e = .returned (.bool (labOk s)) ∧ Below w.heap.size w w' := by
  go_enter Tryz.func83, Tryz.ntmps83
  go_wp2_with fail
  refine (readLabel_any s _ hs hT).mono ?_
  rintro e w1 ⟨u, rfl, hu, hb1⟩
  obtain ⟨au, cu, rfl⟩ := hu.rd.slice
  have HU := Lib.hid hu
  clear hu
  go_wp2_with fail
  go_ret
  exact ⟨rfl, hb1⟩
theorem LabelName_any (s : ByteArray) (w : World) (hs : s.size ≤ 1048576) (hT : Env w) :
    Calls Tryz.prog 89 #[.string s] w fun e w' => e = .returned (.string (labNm s)) ∧ Below w.heap.size w w' := by
  go_enter Tryz.func89, Tryz.ntmps89
  go_wp2_with fail
  refine (readLabel_any s _ hs hT).mono ?_
  rintro e w1 ⟨u, rfl, hu, hb1⟩
  obtain ⟨au, cu, rfl⟩ := hu.rd.slice
  have HU := Lib.hid hu
  clear hu
  go_wp2_with fail
  go_ret
  exact ⟨rfl, hb1⟩
theorem idxC_bt {s : ByteArray} {k : Nat} (c : UInt8) (hk : k ≤ s.size) (h1 : ∀ i, i < k → bt s i ≠ (c.toNat : Int)) (h2 : k < s.size → bt s k = (c.toNat : Int)) : idxC c s.data.toList = k := by
  have hl := ba_len s
  refine idxC_of (by omega) (fun i hi hik e => ?_) (fun hlt => ?_)
  · have := bt_list s i hi
    rw [e] at this
    exact h1 i hik this.symm
  · have := bt_list s k hlt
    rw [h2 (by omega)] at this
    exact UInt8.toNat_inj.1 (by omega)
theorem l01Open_any (s : ByteArray) (w : World) (hs : s.size ≤ 4611686018427387904) :
    Calls Tryz.prog 150 #[.string s] w fun e w' => e = .returned (.int .i64 (idxC 40 s.data.toList : Nat)) ∧ w = w' := by
  go_enter Tryz.func150, Tryz.ntmps150
  go_wp2_with fail
  go_loop [3] (fun si => ∃ k : Nat, k ≤ s.size ∧ si = .int .i64 k ∧ Hid (∀ i, i < k → bt s i ≠ ((40 : UInt8).toNat : Int))) (fun si => s.size - (intOf si).toNat)
  case atStart => exact ⟨0, Nat.zero_le _, rfl, Lib.hid fun i h => absurd h (by omega)⟩
  case round =>
    obtain ⟨k, hk, rfl, hn⟩ := hrel
    by_cases hlt : k < s.size
    · have hck : (s[k].toNat : Int) = bt s k := bt_eq s k hlt
      by_cases h40 : bt s k = 40
      · have HI : Hid (idxC 40 s.data.toList = k) := Lib.hid (idxC_bt 40 hk hn.out (fun _ => h40))
        go_wp2_with fail
        go_ret
        exact ⟨by rw [HI.out]; rfl, rfl⟩
      · have H : Hid (∀ i, i < k + 1 → bt s i ≠ ((40 : UInt8).toNat : Int)) := Lib.hid fun i hi => by
          by_cases e : i = k
          · rw [e]; exact h40
          · exact hn.out i (by omega)
        go_wp2_with fail
        go_round
        case rel => exact ⟨k + 1, by omega, by go_num, H⟩
        case measure => simp [intOf]; omega
    · obtain rfl : k = s.size := by omega
      have HI : Hid (idxC 40 s.data.toList = s.size) := Lib.hid (idxC_bt 40 hk hn.out (fun h => absurd h (by omega)))
      go_wp2_with fail
      go_ret
      exact ⟨by rw [HI.out]; rfl, rfl⟩
theorem ext_name (s : ByteArray) : s.extract 0 (idxC 40 s.data.toList) = nameOf s := by
  have h := Lib.extract_data s 0 (idxC 40 s.data.toList)
  rw [List.drop_zero, Nat.sub_zero] at h
  unfold nameOf
  rw [← h]
  exact (ba_of _).symm
theorem l01LabelName_any (s : ByteArray) (w : World) (hs : s.size ≤ 1048576) :
    Calls Tryz.prog 122 #[.string s] w fun e w' => e = .returned (.string (nameOf s)) ∧ w = w' := by
  have hle : idxC 40 s.data.toList ≤ s.size := by have := idxC_le 40 s.data.toList; rwa [ba_len] at this
  have HX := Lib.hid (ext_name s)
  obtain ⟨k, hk⟩ : ∃ k, k = idxC 40 s.data.toList := ⟨_, rfl⟩
  rw [← hk] at HX hle
  go_enter Tryz.func122, Tryz.ntmps122
  go_wp2_with fail
  refine (l01Open_any s _ (by omega)).mono ?_
  rw [← hk]
  rintro e w' ⟨rfl, rfl⟩
  clear hk
  go_wp2_with fail
  go_ret
  exact ⟨by rw [← HX.out]; rfl, rfl⟩
theorem last_get {l : List UInt8} {j : Nat} (h : l.length = j + 1) : l.getLast? = l[j]? := by
  rw [List.getLast?_eq_getElem?, h]
  rfl
theorem shut_bt {s : ByteArray} (h : hasPar s = true) {j : Nat} (hj : s.size = j + 1) : shutEnd s = decide (bt s j = 41) := by
  have hlt : idxC 40 s.data.toList < s.size := of_decide_eq_true h
  have hl := ba_len s
  have hjl : j < s.data.toList.length := by omega
  have hb := bt_list s j hjl
  unfold shutEnd
  rw [hasSuffix_one]
  apply decide_eq_decide.2
  have h41 : (41 : UInt8).toNat = 41 := rfl
  by_cases he : idxC 40 s.data.toList + 1 = s.size
  · have e0 : restOf s = [] := List.length_eq_zero_iff.1 (by unfold restOf; rw [List.length_drop]; omega)
    rw [e0]
    have hij : idxC 40 s.data.toList = j := by omega
    have h40 := idxC_hit 40 s.data.toList (by omega)
    have h40n : (40 : UInt8).toNat = 40 := rfl
    simp only [hij] at h40
    rw [h40] at hb
    constructor
    · intro e; cases e
    · intro e; omega
  · have hr : (restOf s).length = (j - (idxC 40 s.data.toList + 1)) + 1 := by unfold restOf; rw [List.length_drop]; omega
    rw [last_get hr]
    unfold restOf
    rw [List.getElem?_drop, show idxC 40 s.data.toList + 1 + (j - (idxC 40 s.data.toList + 1)) = j by omega, List.getElem?_eq_getElem hjl]
    constructor
    · intro e
      injection e with e
      rw [e] at hb
      omega
    · intro e
      rw [UInt8.toNat_inj.1 (show (s.data.toList[j]).toNat = (41 : UInt8).toNat by omega)]
theorem ext_inner {s : ByteArray} (h : hasPar s = true) (hs : shutEnd s = true) {j : Nat} (hj : s.size = j + 1) : s.extract (idxC 40 s.data.toList + 1) j = innerOf s := by
  have hl := ba_len s
  have h1 := Lib.extract_data s (idxC 40 s.data.toList + 1) j
  have h2 : Lib.trimSuffix (restOf s) [41] = (restOf s).take (j - (idxC 40 s.data.toList + 1)) := by
    unfold shutEnd at hs
    unfold Lib.trimSuffix
    rw [if_pos hs]
    congr 1
    unfold restOf
    rw [List.length_drop, List.length_singleton]; omega
  unfold innerOf
  rw [h2]
  unfold restOf
  rw [← h1]
  exact (ba_of _).symm
theorem shut_room {s : ByteArray} (h : hasPar s = true) (hs : shutEnd s = true) {j : Nat} (hj : s.size = j + 1) : idxC 40 s.data.toList + 1 ≤ j := by
  have hlt : idxC 40 s.data.toList < s.size := of_decide_eq_true h
  rw [shut_bt h hj, decide_eq_true_eq] at hs
  have hl := ba_len s
  have h40 := idxC_hit 40 s.data.toList (by omega)
  have hb := bt_list s (idxC 40 s.data.toList) (by omega)
  rw [h40] at hb
  have h40n : (40 : UInt8).toNat = 40 := rfl
  by_cases e : idxC 40 s.data.toList = j
  · rw [e] at hb; omega
  · omega
theorem vals_next {y : Int} (ys zs : List Int) (h : zs = ys ++ [y]) (h0 : vals2 ys = true) (hy : isVal y = true) : vals2 zs = true := by
  unfold vals2 at h0 ⊢
  rw [h, List.all_append, h0]
  simp [hy]
theorem vals_no_at {ws : List ByteArray} {k : Nat} (h : k < ws.length) (hc : canon (snth ws k).data.toList = true) (hy : isVal (rdN (snth ws k)) = false) : vals2 (numsV ws) = false := by
  unfold vals2
  cases he : (numsV ws).all isVal with
  | false => rfl
  | true =>
    have hm : numV (snth ws k).data.toList ∈ numsV ws := List.mem_map.2 ⟨ws[k], List.getElem_mem h, by rw [snth_eq ws k h]⟩
    have := List.all_eq_true.1 he _ hm
    rw [← rd_yes hc, hy] at this
    cases this
set_option maxRecDepth 100000 in
set_option maxHeartbeats 1600000 in
theorem l01Values_no (s : ByteArray) (w : World) (hs : s.size ≤ 1048576) (hp : hasPar s = false) :
    Calls Tryz.prog 121 #[.string s] w fun e w' => ∃ a n c, e = .returned (.tuple #[.slice a n c, .bool (labOk s)]) ∧ (labOk s = true → OwI w' w.heap.size (.slice a n c) (labVals s)) ∧ Below w.heap.size w w' := by
  have hO : Hid (labOk s = isName s) := Lib.hid (by unfold labOk; rw [hp]; rfl)
  have hV : Hid (labVals s = []) := Lib.hid (by unfold labVals; rw [hp]; rfl)
  have hi : idxC 40 s.data.toList = s.size := by
    have h1 : ¬ idxC 40 s.data.toList < s.size := of_decide_eq_false hp
    have := idxC_le 40 s.data.toList
    rw [ba_len] at this
    omega
  have HN : Hid (OwI (w.alloc (.cells #[] 2)) w.heap.size (.slice (some ⟨w.heap.size, 0, none⟩) 0 0) []) := Lib.hid (ownsRow_owI (n := 0) (e := 2) (nil_owned _ _ (Nat.le_refl _)))
  have hbA : Below w.heap.size w (w.alloc (.cells #[] 2)) := (Below.refl _ _).alloc (Nat.le_refl _) _
  clear hp
  go_enter Tryz.func121, Tryz.ntmps121
  go_wp2_with fail
  refine (l01Open_any s _ (by omega)).mono ?_
  rw [hi]
  rintro e w' ⟨rfl, rfl⟩
  clear hi
  go_wp2_with fail
  refine (l01Name_any s _ (by omega)).mono ?_
  rintro e w1 ⟨rfl, hw1⟩
  have HN1 := HN.out
  have hb1 := hbA
  rw [hw1] at HN1 hb1
  have HN2 := Lib.hid HN1
  clear HN1 hw1 HN hbA
  go_wp2_with fail
  go_ret2
  exact ⟨_, _, _, by rw [hO.out]; rfl, fun _ => by rw [hV.out]; exact HN2.out, hb1⟩
set_option maxRecDepth 100000 in
set_option maxHeartbeats 3200000 in
theorem l01Values_par (s : ByteArray) (w : World) (hs : s.size ≤ 1048576) (hp : hasPar s = true) :
    Calls Tryz.prog 121 #[.string s] w fun e w' => ∃ a n c, e = .returned (.tuple #[.slice a n c, .bool (labOk s)]) ∧ (labOk s = true → OwI w' w.heap.size (.slice a n c) (labVals s)) ∧ Below w.heap.size w w' := by
  obtain ⟨i0, hi, hz0, hz1, hz2⟩ := info_parts infoI64
  have HO : Hid (labOk s = (isAction (nameOf s) && shutEnd s && canons (wordsOf s) && vals2 (numsV (wordsOf s)) && decide ((wordsOf s).length ≤ 2))) := Lib.hid (by unfold labOk; rw [if_pos hp])
  have HV : Hid (labVals s = numsV (wordsOf s)) := Lib.hid (by unfold labVals; rw [if_pos hp])
  have hlt : idxC 40 s.data.toList < s.size := of_decide_eq_true hp
  obtain ⟨j, hj⟩ : ∃ j, s.size = j + 1 := ⟨s.size - 1, by omega⟩
  have Hsh := Lib.hid (shut_bt hp hj)
  have Hin := Lib.hid (fun h => ext_inner hp h hj)
  have Hro := Lib.hid (fun h => shut_room hp h hj)
  have HX := Lib.hid (ext_name s)
  have HNs := name_len s
  have HIs := inner_len s
  obtain ⟨k0, hk0⟩ : ∃ k0, k0 = idxC 40 s.data.toList := ⟨_, rfl⟩
  obtain ⟨Nm, hNm⟩ : ∃ Nm, Nm = nameOf s := ⟨_, rfl⟩
  obtain ⟨In, hIn⟩ : ∃ In, In = innerOf s := ⟨_, rfl⟩
  obtain ⟨W, hW⟩ : ∃ W, W = wordsOf s := ⟨_, rfl⟩
  have HW : Hid (W = wordsB 44 In) := Lib.hid (by rw [hW, hIn]; rfl)
  rw [← hNm, ← hW] at HO
  rw [← hW] at HV
  rw [← hk0] at hlt HX Hin Hro
  rw [← hIn] at Hin HIs
  rw [← hNm] at HX HNs
  have hle : k0 ≤ s.size := by omega
  have hne : ¬ (k0 : Int) = (s.size : Int) := by omega
  have hneb : ((k0 : Int) == (s.size : Int)) = false := by simp; omega
  have hj1 : (s.size : Int) - 1 = (j : Int) := by omega
  have hjs : j < s.size := by omega
  have hcj : (s[j].toNat : Int) = bt s j := bt_eq s j hjs
  have hWl : W.length ≤ 1048577 := by rw [HW.out]; have := wordsB_length 44 In; omega
  have HWs : Hid (∀ k, k < W.length → (snth W k).size ≤ 1048576) := Lib.hid (by rw [HW.out]; intro k hk; have := snth_word hk; omega)
  have Hk0 := Lib.hid hk0
  clear hp hk0 hNm hIn hW
  cases ha : isAction Nm with
  | false =>
    have hO : Hid (labOk s = false) := Lib.hid (by rw [HO.out, ha]; rfl)
    go_enter Tryz.func121, Tryz.ntmps121
    go_wp2_with fail
    refine (l01Open_any s _ (by omega)).mono ?_
    rw [← Hk0.out]
    rintro e w' ⟨rfl, rfl⟩
    go_wp2_with fail
    rw [HX.out]
    refine (l01Action_any Nm _ (by omega)).mono ?_
    rw [ha]
    rintro e w' ⟨rfl, rfl⟩
    go_wp2_with fail
    go_ret2
    exact ⟨_, _, _, by rw [hO.out]; rfl, (fun h => by rw [hO.out] at h; cases h), Below.refl _ _⟩
  | true =>
    cases hsh : shutEnd s with
    | false =>
      have hO : Hid (labOk s = false) := Lib.hid (by rw [HO.out, hsh]; simp)
      have hbj : ¬ bt s j = 41 := by
        have := Hsh.out
        rw [hsh] at this
        exact of_decide_eq_false this.symm
      go_enter Tryz.func121, Tryz.ntmps121
      go_wp2_with fail
      refine (l01Open_any s _ (by omega)).mono ?_
      rw [← Hk0.out]
      rintro e w' ⟨rfl, rfl⟩
      go_wp2_with fail
      rw [HX.out]
      refine (l01Action_any Nm _ (by omega)).mono ?_
      rw [ha]
      rintro e w' ⟨rfl, rfl⟩
      go_wp2_with fail
      go_ret2
      exact ⟨_, _, _, by rw [hO.out]; rfl, (fun h => by rw [hO.out] at h; cases h), Below.refl _ _⟩
    | true =>
      have hbj : bt s j = 41 := by
        have := Hsh.out
        rw [hsh] at this
        exact of_decide_eq_true this.symm
      have hro := Hro.out hsh
      have hie := Hin.out hsh
      obtain ⟨k1, hk1e⟩ : ∃ k1, k1 = k0 + 1 := ⟨_, rfl⟩
      have hk1 : (k0 : Int) + 1 = (k1 : Int) := by omega
      rw [← hk1e] at hro hie
      have HI := Lib.hid hie
      have hjl : j ≤ s.size := by omega
      clear hie hk1e hj
      have HO2 : Hid (labOk s = (canons W && vals2 (numsV W) && decide (W.length ≤ 2))) := Lib.hid (by rw [HO.out, ha, hsh]; simp)
      go_enter Tryz.func121, Tryz.ntmps121
      go_wp2_with fail
      refine (l01Open_any s _ (by omega)).mono ?_
      rw [← Hk0.out]
      rintro e w' ⟨rfl, rfl⟩
      go_wp2_with fail
      rw [HX.out]
      refine (l01Action_any Nm _ (by omega)).mono ?_
      rw [ha]
      rintro e w' ⟨rfl, rfl⟩
      go_wp2_with fail
      rw [HI.out]
      refine (l01Split_any In 44 44 _ rfl (by omega)).mono ?_
      rw [← HW.out]
      rintro e w1 ⟨u, rfl, hu, hb1⟩
      have hu' := hu.rd
      clear hu
      obtain ⟨a, cap, rfl, hcap, hm, hv⟩ := hu'
      obtain ⟨n, hxn⟩ : ∃ n, n = W.length := ⟨_, rfl⟩
      rw [← hxn] at hcap hv hWl HO2 ⊢
      have Hxn := Lib.hid hxn; clear hxn
      go_wp2_with fail
      go_loopw [6, 7] (fun so si wr => ∃ k : Nat, k ≤ n ∧ si = .int .i64 k ∧ Hid (canons (W.take k) = true) ∧ Hid (vals2 (numsV (W.take k)) = true) ∧ Hid (wr.ownsRow w1.heap.size 2 1 so k ((numsV (W.take k)).map (Value.int .i64))) ∧ Below w1.heap.size w1 wr) (fun _ si _ => n - (intOf si).toNat)
      case atStart => exact ⟨0, Nat.zero_le _, rfl, Lib.hid rfl, Lib.hid rfl, Lib.hid (nil_owned _ _ (Nat.le_refl _)), (Below.refl _ _).alloc (Nat.le_refl _) _⟩
      case round =>
        obtain ⟨k, hk, rfl, HL, HA, HR, hbo⟩ := hrel
        have hbl := below_trans' hb1 hbo
        obtain ⟨a5, c5, rfl⟩ := owned_slice HR.out
        by_cases hlt : k < n
        · obtain ⟨b, o, rfl, hb, hc⟩ := hv (by omega)
          have hg : wr.cell? ⟨b, o + k, none⟩ = some (.string (snth W k)) := (hbo.cell (by exact hb)).trans (hc k (by omega))
          clear hc
          have hxs := HWs.out k (by rw [← Hxn.out]; exact hlt)
          obtain ⟨x, hx⟩ : ∃ x, x = snth W k := ⟨_, rfl⟩
          have Hx := Lib.hid hx
          rw [← hx] at hg hxs
          clear hx
          cases hp : canon x.data.toList with
          | true =>
            have HN2 : Hid (numsV (W.take (k + 1)) = numsV (W.take k) ++ [rdN x]) := Lib.hid (by rw [numsV_next (by rw [← Hxn.out]; exact hlt) (by rw [← Hx.out]; exact hp), Hx.out])
            obtain ⟨y, hy⟩ : ∃ y, y = rdN x := ⟨_, rfl⟩
            have Hy := Lib.hid hy
            cases hwd : isVal y with
            | true =>
              have hq : inR y 0 63 = true := hwd
              have HL2 := Lib.hid (canons_next (k := k) (by rw [← Hxn.out]; exact hlt) HL.out (by rw [← Hx.out]; exact hp))
              have HA2 : Hid (vals2 (numsV (W.take (k + 1))) = true) := Lib.hid (vals_next _ _ HN2.out HA.out (by rw [← Hy.out]; exact hwd))
              go_wp2_with fail
              refine (l01Number_any x _ (by omega)).mono ?_
              rw [hp, ← Hy.out]
              rintro e w' ⟨rfl, rfl⟩
              clear HL HA hp hy hwd
              go_wp2_with (first | (go_at_call 65; refine (l00In_any _ _ _ _).mono ?_; rintro e w' ⟨rfl, rfl⟩) | (at_builtin; refine wpList_append_own_at _ rfl _ _ 47 rfl w1.heap.size 2 i0 (.int .i64 0) 1 8 Tryz.underlying47 hi hz0 hz1 hz2 rfl (by decide) _ k _ rfl (HR.out.alloc _) ⟨wr.heap.size, 0, none⟩ 1 1 [.int .i64 y] rfl rfl (new_cell _ _ _ _ rfl) (by simp [Value.oneCell']) ?c2 ?c3 ?c4 ?_))
              case c2 => unfold maxLen; omega
              case c3 => omega
              case c4 => have := hbo.size; first | omega | (simp; omega)
              intro v' w2 hown' hgrow hnil hloc
              have hbo2 : Below w1.heap.size w1 w2 := (hbo.alloc hbo.size _).grown hgrow (by have := hbo.size; first | omega | (simp; omega)) (fun j hj => (HR.out.lt j hj).1)
              have HR2 : Hid (w2.ownsRow w1.heap.size 2 1 v' (k + 1) ((numsV (W.take (k + 1))).map (Value.int .i64))) := by
                refine Lib.hid ?_
                rw [HN2.out, List.map_append, ← Hy.out]
                exact hown'
              clear hown' hgrow hnil hloc HR hbl
              go_wp2_with fail
              go_roundw
              case rel => exact ⟨k + 1, by omega, by go_num, HL2, HA2, HR2, hbo2⟩
              case measure => simp [intOf]; omega
            | false =>
              have hq : inR y 0 63 = false := hwd
              have HF : Hid (vals2 (numsV W) = false) := Lib.hid (vals_no_at (k := k) (by rw [← Hxn.out]; exact hlt) (by rw [← Hx.out]; exact hp) (by rw [← Hx.out, ← Hy.out]; exact hwd))
              have hO : Hid (labOk s = false) := Lib.hid (by rw [HO2.out, HF.out]; simp)
              go_wp2_with fail
              refine (l01Number_any x _ (by omega)).mono ?_
              rw [hp, ← Hy.out]
              rintro e w' ⟨rfl, rfl⟩
              clear hy hwd
              go_wp2_with (go_at_call 65; refine (l00In_any _ _ _ _).mono ?_; rintro e w' ⟨rfl, rfl⟩)
              go_ret2
              exact ⟨_, _, _, by rw [hO.out]; rfl, (fun h => by rw [hO.out] at h; cases h), hbl⟩
          | false =>
            have HF := Lib.hid (canons_hit (k := k) (by rw [← Hxn.out]; exact hlt) (by rw [← Hx.out]; exact hp))
            have hO : Hid (labOk s = false) := Lib.hid (by rw [HO2.out, HF.out]; rfl)
            go_wp2_with fail
            refine (l01Number_any x _ (by omega)).mono ?_
            rw [hp]
            rintro e w' ⟨rfl, rfl⟩
            go_wp2_with fail
            go_ret2
            exact ⟨_, _, _, by rw [hO.out]; rfl, (fun h => by rw [hO.out] at h; cases h), hbl⟩
        · obtain rfl : k = n := by omega
          have HT : Hid (W.take k = W) := Lib.hid (List.take_of_length_le (by rw [Hxn.out]; exact Nat.le_refl _))
          have hd2 : decide ((k : Int) ≤ 2) = decide (k ≤ 2) := decide_eq_decide.2 (by omega)
          have hO : Hid (labOk s = decide ((k : Int) ≤ 2)) := Lib.hid (by
            have h1 := HL.out
            have h2 := HA.out
            rw [HT.out] at h1 h2
            rw [HO2.out, h1, h2, hd2]; rfl)
          have hV2 : Hid (labVals s = numsV (W.take k)) := Lib.hid (by rw [HV.out, HT.out])
          clear hd2
          go_wp2_with fail
          go_ret2
          exact ⟨_, _, _, by rw [hO.out]; rfl, (fun _ => by rw [hV2.out]; exact OwI.mono' (ownsRow_owI HR.out) hb1.size), hbl⟩
theorem l01Values_any (s : ByteArray) (w : World) (hs : s.size ≤ 1048576) :
    Calls Tryz.prog 121 #[.string s] w fun e w' => ∃ a n c, e = .returned (.tuple #[.slice a n c, .bool (labOk s)]) ∧ (labOk s = true → OwI w' w.heap.size (.slice a n c) (labVals s)) ∧ Below w.heap.size w w' := by
  cases hp : hasPar s with
  | false => exact l01Values_no s w hs hp
  | true => exact l01Values_par s w hs hp
theorem l01Label_any (s : ByteArray) (w : World) (hs : s.size ≤ 1048576) :
    Calls Tryz.prog 76 #[.string s] w fun e w' => e = .returned (.bool (labOk s)) ∧ Below w.heap.size w w' := by
  go_enter Tryz.func76, Tryz.ntmps76
  go_wp2_with fail
  refine (l01Values_any s _ hs).mono ?_
  rintro e w1 ⟨a, n, c, rfl, _, hb1⟩
  go_wp2_with fail
  go_ret
  exact ⟨rfl, hb1⟩
/-- A pattern: nothing, a label, or an action and a star. -/
def starOf (s : ByteArray) : ByteArray := ba (Lib.trimSuffix s.data.toList [42])
def patOk (s : ByteArray) : Bool := decide (s.size = 0) || labOk s || (Lib.hasSuffix s.data.toList [42] && isAction (starOf s))
set_option maxHeartbeats 800000 in
theorem IsPattern_any (s : ByteArray) (w : World) (hs : s.size ≤ 1048576) (hT : Env w) :
    Calls Tryz.prog 79 #[.string s] w fun e w' => e = .returned (.bool (patOk s)) ∧ Below w.heap.size w w' := by
  have HT := Lib.hid hT
  clear hT
  have hSt : Hid ((⟨(Lib.trimSuffix s.data.toList [42]).toArray⟩ : ByteArray) = starOf s) := Lib.hid rfl
  have hss : (starOf s).size ≤ s.size := by
    have := trim_len s.data.toList [42]
    rw [ba_len] at this
    exact this
  obtain ⟨St, hst⟩ : ∃ St, St = starOf s := ⟨_, rfl⟩
  obtain ⟨sf, hsf⟩ : ∃ sf, sf = Lib.hasSuffix s.data.toList [42] := ⟨_, rfl⟩
  rw [← hst] at hSt hss
  by_cases h0 : s.size = 0
  · have hP : Hid (patOk s = true) := Lib.hid (by unfold patOk; rw [decide_eq_true h0]; rfl)
    have hb : s.toList = [] := toList_nil h0
    have hb2 : (s.toList == ([] : List UInt8)) = true := by rw [hb]; rfl
    have hbe : s.toList.isEmpty = true := by rw [hb]; rfl
    clear h0 hst
    go_enter Tryz.func79, Tryz.ntmps79
    go_wp2_with fail
    refine (Tryz_strings_CutSuffix s _ _ (by omega)).mono ?_
    rw [show ({ data := #[42] } : ByteArray).data.toList = [42] from rfl, hSt.out, ← hsf]
    rintro e w' ⟨rfl, rfl⟩
    clear hsf
    go_wp2_with fail
    go_ret
    exact ⟨by rw [hP.out]; rfl, Below.refl _ _⟩
  · have hne : ¬ s.toList = [] := toList_ne h0
    have hb2 : (s.toList == ([] : List UInt8)) = false := by simpa using hne
    have hbe : s.toList.isEmpty = false := by simpa using hne
    have HP : Hid (patOk s = (labOk s || (sf && isAction St))) := Lib.hid (by unfold patOk; rw [decide_eq_false h0, hst, hsf]; rfl)
    clear h0 hst
    go_enter Tryz.func79, Tryz.ntmps79
    go_wp2_with fail
    refine (Tryz_strings_CutSuffix s _ _ (by omega)).mono ?_
    rw [show ({ data := #[42] } : ByteArray).data.toList = [42] from rfl, hSt.out, ← hsf]
    rintro e w' ⟨rfl, rfl⟩
    clear hsf
    cases hl : labOk s with
    | true =>
      have hP : Hid (patOk s = true) := Lib.hid (by rw [HP.out, hl]; rfl)
      go_wp2_with fail
      refine (IsLabel_any s _ hs HT.out).mono ?_
      rw [hl]
      rintro e w1 ⟨rfl, hb1⟩
      go_wp2_with fail
      go_ret
      exact ⟨by rw [hP.out]; rfl, hb1⟩
    | false =>
      cases hf : sf with
      | false =>
        have hP : Hid (patOk s = false) := Lib.hid (by rw [HP.out, hl, hf]; rfl)
        go_wp2_with fail
        refine (IsLabel_any s _ hs HT.out).mono ?_
        rw [hl]
        rintro e w1 ⟨rfl, hb1⟩
        go_wp2_with fail
        go_ret
        exact ⟨by rw [hP.out]; rfl, hb1⟩
      | true =>
        have hP : Hid (patOk s = isAction St) := Lib.hid (by rw [HP.out, hl, hf]; rfl)
        go_wp2_with fail
        refine (IsLabel_any s _ hs HT.out).mono ?_
        rw [hl]
        rintro e w1 ⟨rfl, hb1⟩
        go_wp2_with fail
        refine (IsAction_any St _ (by omega)).mono ?_
        rintro e w' ⟨rfl, rfl⟩
        go_wp2_with fail
        go_ret
        exact ⟨by rw [hP.out]; rfl, hb1⟩
theorem star_bt {s : ByteArray} {j : Nat} (hj : s.size = j + 1) : Lib.hasSuffix s.data.toList [42] = decide (bt s j = 42) := by
  have hl := ba_len s
  have hjl : j < s.data.toList.length := by omega
  have hb := bt_list s j hjl
  rw [hasSuffix_one, last_get (j := j) (by omega), List.getElem?_eq_getElem hjl]
  apply decide_eq_decide.2
  have h42 : (42 : UInt8).toNat = 42 := rfl
  constructor
  · intro e
    injection e with e
    rw [e] at hb
    omega
  · intro e
    rw [UInt8.toNat_inj.1 (show (s.data.toList[j]).toNat = (42 : UInt8).toNat by omega)]
theorem ext_star {s : ByteArray} (h : Lib.hasSuffix s.data.toList [42] = true) {j : Nat} (hj : s.size = j + 1) : s.extract 0 j = starOf s := by
  have hl := ba_len s
  have h1 := Lib.extract_data s 0 j
  rw [List.drop_zero, Nat.sub_zero] at h1
  unfold starOf Lib.trimSuffix
  rw [if_pos h, List.length_singleton, show s.data.toList.length - 1 = j by omega, ← h1]
  exact (ba_of _).symm
set_option maxHeartbeats 800000 in
theorem l14Pattern_any (s : ByteArray) (w : World) (hs : s.size ≤ 1048576) :
    Calls Tryz.prog 67 #[.string s] w fun e w' => e = .returned (.bool (patOk s)) ∧ Below w.heap.size w w' := by
  by_cases h0 : s.size = 0
  · have hP : Hid (patOk s = true) := Lib.hid (by unfold patOk; rw [decide_eq_true h0]; rfl)
    have hb : s.toList = [] := toList_nil h0
    have hb2 : (s.toList == ([] : List UInt8)) = true := by rw [hb]; rfl
    have hbe : s.toList.isEmpty = true := by rw [hb]; rfl
    clear h0
    go_enter Tryz.func67, Tryz.ntmps67
    go_wp2_with fail
    go_ret
    exact ⟨by rw [hP.out]; rfl, Below.refl _ _⟩
  · have hne : ¬ s.toList = [] := toList_ne h0
    have hb2 : (s.toList == ([] : List UInt8)) = false := by simpa using hne
    have hbe : s.toList.isEmpty = false := by simpa using hne
    have HP : Hid (patOk s = (labOk s || (Lib.hasSuffix s.data.toList [42] && isAction (starOf s)))) := Lib.hid (by unfold patOk; rw [decide_eq_false h0]; rfl)
    obtain ⟨j, hj⟩ : ∃ j, s.size = j + 1 := ⟨s.size - 1, by omega⟩
    have hj1 : (s.size : Int) - 1 = (j : Int) := by omega
    have hjs : j < s.size := by omega
    have hcj : (s[j].toNat : Int) = bt s j := bt_eq s j hjs
    have HB := Lib.hid (star_bt hj)
    have HX := Lib.hid (fun h => ext_star h hj)
    clear h0
    cases hl : labOk s with
    | true =>
      have hP : Hid (patOk s = true) := Lib.hid (by rw [HP.out, hl]; rfl)
      go_enter Tryz.func67, Tryz.ntmps67
      go_wp2_with fail
      refine (l01Label_any s _ hs).mono ?_
      rw [hl]
      rintro e w1 ⟨rfl, hb1⟩
      go_wp2_with fail
      go_ret
      exact ⟨by rw [hP.out]; rfl, hb1⟩
    | false =>
      by_cases h42 : bt s j = 42
      · have hsf : Lib.hasSuffix s.data.toList [42] = true := by rw [HB.out]; exact decide_eq_true h42
        have hP : Hid (patOk s = isAction (starOf s)) := Lib.hid (by rw [HP.out, hl, hsf]; rfl)
        have hx := Lib.hid (HX.out hsf)
        have hss : (starOf s).size ≤ s.size := by
          have := trim_len s.data.toList [42]
          rw [ba_len] at this
          exact this
        clear hsf
        go_enter Tryz.func67, Tryz.ntmps67
        go_wp2_with fail
        refine (l01Label_any s _ hs).mono ?_
        rw [hl]
        rintro e w1 ⟨rfl, hb1⟩
        go_wp2_with fail
        rw [hx.out]
        refine (l01Action_any (starOf s) _ (by omega)).mono ?_
        rintro e w' ⟨rfl, rfl⟩
        go_wp2_with fail
        go_ret
        exact ⟨by rw [hP.out]; rfl, hb1⟩
      · have hsf : Lib.hasSuffix s.data.toList [42] = false := by rw [HB.out]; exact decide_eq_false h42
        have hP : Hid (patOk s = false) := Lib.hid (by rw [HP.out, hl, hsf]; rfl)
        clear hsf
        go_enter Tryz.func67, Tryz.ntmps67
        go_wp2_with fail
        refine (l01Label_any s _ hs).mono ?_
        rw [hl]
        rintro e w1 ⟨rfl, hb1⟩
        go_wp2_with fail
        go_ret
        exact ⟨by rw [hP.out]; rfl, hb1⟩
end Go.Proofs.YtcakmchefbohoaaGreatDoor
