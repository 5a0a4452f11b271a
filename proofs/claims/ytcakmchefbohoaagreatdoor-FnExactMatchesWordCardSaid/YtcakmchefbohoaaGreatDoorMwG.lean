/- Contracts: words of a regular expression, by the program: MatchesWord. -/
import Derived.Test.YtcakmchefbohoaaGreatDoorProg
import Derived.Test.YtcakmchefbohoaaGreatDoorMem
import Derived.Test.YtcakmchefbohoaaGreatDoorMath
import Derived.Test.YtcakmchefbohoaaGreatDoorBasics
import Derived.Test.YtcakmchefbohoaaGreatDoorOpenI
import Derived.Test.YtcakmchefbohoaaGreatDoorHelpI
import Derived.Test.YtcakmchefbohoaaGreatDoorGrid
import Derived.Test.YtcakmchefbohoaaGreatDoorLab
import Derived.Test.YtcakmchefbohoaaGreatDoorEnv
import Derived.Test.YtcakmchefbohoaaGreatDoorRLab
import Derived.Test.YtcakmchefbohoaaGreatDoorDec
import Derived.Test.YtcakmchefbohoaaGreatDoorReg
import Derived.Test.YtcakmchefbohoaaGreatDoorVReg
import Derived.Test.YtcakmchefbohoaaGreatDoorTreeR
import Derived.Test.YtcakmchefbohoaaGreatDoorConc
import Derived.Test.YtcakmchefbohoaaGreatDoorEmp
import Derived.Test.YtcakmchefbohoaaGreatDoorPart
import Derived.Test.YtcakmchefbohoaaGreatDoorSel
import Derived.Test.YtcakmchefbohoaaGreatDoorMwP
import Derived.Test.YtcakmchefbohoaaGreatDoorMwS
import Derived.Test.YtcakmchefbohoaaGreatDoorRgs
import Derived.Test.YtcakmchefbohoaaGreatDoorShelf2
import Derived.Test.YtcakmchefbohoaaGreatDoorMwI
import Derived.Test.YtcakmchefbohoaaGreatDoorMwX
import Derived.Test.YtcakmchefbohoaaGreatDoorMwE
import Derived.Test.YtcakmchefbohoaaGreatDoorMwF
import Derived.Test.YtcakmchefbohoaaGreatDoorMwQ
import Derived.WalkKit
import Derived.BigQuiet
import Derived.BigRegion
import Derived.Deep.QuietTactic
import Derived.Deep.RegionHeld3
import Derived.Deep.RegionLaw
import Derived.Deep.AppendLies
import Derived.Maps.AppendAt
import Derived.Laws.OwnMore
import Derived.Lib.SliceRun
import Derived.Lib.Hide
import Derived.Outline
set_option linter.unusedVariables false
set_option linter.unusedSimpArgs false
namespace Go.Proofs.YtcakmchefbohoaaGreatDoor
open Go.RowKit

/-- Is a number in a list? -/
def hasI (L : List Int) (n : Int) : Bool := L.contains n
theorem has_at {xs : List Int} {n : Int} {k : Nat} (hk : k < xs.length) (h : nth xs k = n) : hasI xs n = true := by
  unfold hasI
  rw [List.contains_iff_mem, ← h, nth_eq xs k hk]
  exact List.getElem_mem hk
theorem has_none {xs : List Int} {n : Int} (h : ∀ i, i < xs.length → nth xs i ≠ n) : hasI xs n = false := by
  cases hc : hasI xs n with
  | false => rfl
  | true =>
    unfold hasI at hc
    rw [List.contains_iff_mem] at hc
    obtain ⟨i, hi, e⟩ := List.getElem_of_mem hc
    exact absurd (by rw [nth_eq xs i hi]; exact e) (h i hi)
theorem slicesContainsI_index (v : Value) (xs : List Int) (n : Int) (w : World) (hv : RdI w v xs) : Calls Tryz.prog 90 #[v, .int .i64 n] w fun e w' => ∃ r : Int, e = .returned (.int .i64 r) ∧ decide (0 ≤ r) = hasI xs n ∧ w = w' := by
  obtain ⟨a, cap, rfl, hcap, hm, hv⟩ := hv
  unfold maxLen at hm
  go_enter Tryz.func90, Tryz.ntmps90
  go_wp2
  go_loop [8] (fun si => ∃ k : Nat, k ≤ xs.length ∧ si = .int .i64 k ∧ Hid (∀ i, i < k → nth xs i ≠ n)) (fun si => xs.length - (intOf si).toNat)
  case atStart => exact ⟨0, Nat.zero_le _, rfl, Lib.hid fun i h => absurd h (by omega)⟩
  case round =>
    obtain ⟨k, hk, rfl, hn⟩ := hrel
    by_cases hlt : k < xs.length
    · obtain ⟨b, o, rfl, hb, hc⟩ := hv (by omega)
      have g1 : w.cell? ⟨b, o + k, none⟩ = some (.int .i64 (nth xs k)) := hc k (by omega)
      clear hc
      by_cases he : nth xs k = n
      · have he2 : (n == nth xs k) = true := by simp [he]
        have H : Hid (hasI xs n = true) := Lib.hid (has_at hlt he)
        clear he
        go_wp2
        go_ret
        exact ⟨k, rfl, by rw [H.out]; exact decide_eq_true (by omega), rfl⟩
      · have he2 : (n == nth xs k) = false := by simp; exact fun e => he e.symm
        have H : Hid (∀ i, i < k + 1 → nth xs i ≠ n) := Lib.hid (next_all hn.out he)
        clear he
        go_wp2
        go_round
        case rel => exact ⟨k + 1, by omega, by go_num, H⟩
        case measure => simp [intOf]; omega
    · have H : Hid (hasI xs n = false) := Lib.hid (has_none fun i hi => hn.out i (by omega))
      go_wp2
      go_ret
      exact ⟨-1, rfl, by rw [H.out]; rfl, rfl⟩
theorem slicesContainsI_any (v : Value) (xs : List Int) (n : Int) (w : World) (hv : RdI w v xs) : Calls Tryz.prog 53 #[v, .int .i64 n] w fun e w' => e = .returned (.bool (hasI xs n)) ∧ w = w' := by
  obtain ⟨a, cap, rfl⟩ := hv.slice
  have HV := Lib.hid hv
  clear hv
  go_enter Tryz.func53, Tryz.ntmps53
  go_wp2_with fail
  refine (slicesContainsI_index _ xs n _ HV.out).mono ?_
  rintro e w' ⟨r, rfl, hr, rfl⟩
  go_wp2_with fail
  go_ret
  exact ⟨by rw [← hr]; rfl, rfl⟩
theorem hasI_asc (U : List Bool) (m : Nat) : hasI (asc U) (m : Int) = bnth U m := asc_has U m
set_option maxRecDepth 100000 in
set_option maxHeartbeats 1600000 in
theorem MatchesWord_any (v vl : Value) (r : List Rg) (L : List ByteArray) (w : World) (hn : r.length ≤ 1048576) (hls : ∀ i, i < r.length → (rgnth r i).lab.size ≤ 1048576) (hnL : L.length ≤ 1048576) (hlL : ∀ i, i < L.length → (snth L i).size ≤ 1048576) (hT : Env w) (hv : RdRg w v r) (hvl : RdS w vl L) :
    Calls Tryz.prog 24 #[v, vl] w fun e w' => e = .returned (.tuple #[.bool (mwV r L), .int .i64 (mwC r L)]) ∧ Below w.heap.size w w' := by
  have HV := Lib.hid hv
  have HVL := Lib.hid hvl
  have HLS := Lib.hid hls
  have HLL := Lib.hid hlL
  have HT := Lib.hid hT
  obtain ⟨a, cap, rfl⟩ := hv.slice
  obtain ⟨al, cl, rfl⟩ := hvl.slice
  obtain ⟨n, hn'⟩ : ∃ n, n = r.length := ⟨_, rfl⟩
  obtain ⟨m, hm'⟩ : ∃ m, m = L.length := ⟨_, rfl⟩
  rw [← hn'] at HV hn ⊢
  rw [← hm'] at HVL hnL ⊢
  have Hn := Lib.hid hn'
  have Hm := Lib.hid hm'
  have hbA : Below w.heap.size w (w.alloc (.cells #[.slice al m cl] 37)) := (Below.refl _ _).alloc (Nat.le_refl _) _
  have hlA : (w.alloc (.cells #[.slice al m cl] 37)).cell? ⟨w.heap.size, 0, none⟩ = some (.slice al m cl) := by rw [cell_of_row _ _ _ _ _ _ (heap_alloc_new w _)]; rfl
  have hsA : (w.alloc (.cells #[.slice al m cl] 37)).heap.size = w.heap.size + 1 := by simp
  obtain ⟨V, hV⟩ : ∃ V, V = mwV r L := ⟨_, rfl⟩
  obtain ⟨C, hC⟩ : ∃ C, C = mwC r L := ⟨_, rfl⟩
  rw [← hV, ← hC]
  clear hv hvl hls hlL hT hn' hm'
  cases hvr : validR r with
  | false =>
    have hb := mw_bad (L := L) hvr
    obtain rfl : V = false := hV.trans hb.1
    obtain rfl : C = 1 := hC.trans hb.2
    clear hV hC hb
    go_enter Tryz.func24, Tryz.ntmps24
    go_wp2_with fail
    refine (ValidRegular_any _ r _ (by rw [← Hn.out]; exact hn) HLS.out (HT.out.below hbA) (HV.out.below hbA)).mono ?_
    rw [hvr]
    rintro e w1 ⟨rfl, hb1⟩
    have hbl1 := below_trans' hbA hb1
    go_wp2_with fail
    go_ret2
    exact ⟨rfl, hbl1⟩
  | true =>
  by_cases h64 : 64 < m
  · have h64b : decide ((64 : Int) < (m : Int)) = true := decide_eq_true (by omega)
    have hb := mw_range hvr (mwOk_long (r := r) (L := L) (by have := Hm.out; omega))
    obtain rfl : V = false := hV.trans hb.1
    obtain rfl : C = 2 := hC.trans hb.2
    clear hV hC hb
    go_enter Tryz.func24, Tryz.ntmps24
    go_wp2_with fail
    refine (ValidRegular_any _ r _ (by rw [← Hn.out]; exact hn) HLS.out (HT.out.below hbA) (HV.out.below hbA)).mono ?_
    rw [hvr]
    rintro e w1 ⟨rfl, hb1⟩
    have hbl1 := below_trans' hbA hb1
    have k1 := cell_up hlA hb1
    go_wp2_with fail
    go_ret2
    exact ⟨rfl, hbl1⟩
  have h64b : decide ((64 : Int) < (m : Int)) = false := decide_eq_false (by omega)
  have hok : mwOk r L = L.all labOk := mwOk_short (by have := Hm.out; omega)
  cases hla : L.all labOk with
  | false =>
    have hb := mw_range hvr (hok.trans hla)
    obtain rfl : V = false := hV.trans hb.1
    obtain rfl : C = 2 := hC.trans hb.2
    clear hV hC hb hok
    go_enter Tryz.func24, Tryz.ntmps24
    go_wp2_with fail
    refine (ValidRegular_any _ r _ (by rw [← Hn.out]; exact hn) HLS.out (HT.out.below hbA) (HV.out.below hbA)).mono ?_
    rw [hvr]
    rintro e w1 ⟨rfl, hb1⟩
    have hbl1 := below_trans' hbA hb1
    have k1 := cell_up hlA hb1
    go_wp2_with fail
    refine (areLabels_any _ L _ (by rw [← Hm.out]; exact hnL) HLL.out (HT.out.below hbl1) (HVL.out.below hbl1)).mono ?_
    rw [hla]
    rintro e w2 ⟨rfl, hb2⟩
    have hbl2 := below_trans' hbl1 hb2
    go_wp2_with fail
    go_ret2
    exact ⟨rfl, hbl2⟩
  | true =>
    have hb := mw_good hvr (hok.trans hla)
    obtain ⟨hs1, hs2⟩ := validR_shape hvr
    obtain ⟨x, kids, hB, hko, hf⟩ := FRg.one hs1 hs2
    obtain ⟨U, hU⟩ : ∃ U, U = opX L x (FRg.fold (opX L) kids) (startB L.length) := ⟨_, rfl⟩
    have HLab : Hid (LabsOk L) := Lib.hid ⟨by have := Hm.out; omega, HLL.out⟩
    have HEnds : Hid (Ends1 L x kids) := Lib.hid (ends_aux L HLab.out (kids.flat.length + 1) x kids (Nat.lt_succ_self _) hko (by rw [← hf]; exact valid_rg hvr HLS.out))
    have HVU : Hid (bnth U m = V) := Lib.hid (by rw [hV, hb.1, mwRes_at hB, hU, Hm.out])
    obtain rfl : C = 0 := hC.trans hb.2
    have HU := Lib.hid hU
    have Hko := Lib.hid hko
    have Hf := Lib.hid hf
    have hmf : ∀ (fn : Fn) (first cap : Array Value) (w : World), (Instr.makeFunc fn first cap).run Tryz.prog w = .ok (.func fn first cap) w := fun _ _ _ _ => rfl
    clear hV hC hb hok hs1 hs2 hB hko hf hU
    go_enter Tryz.func24, Tryz.ntmps24
    go_wp2_with fail
    refine (ValidRegular_any _ r _ (by rw [← Hn.out]; exact hn) HLS.out (HT.out.below hbA) (HV.out.below hbA)).mono ?_
    rw [hvr]
    rintro e w1 ⟨rfl, hb1⟩
    have hbl1 := below_trans' hbA hb1
    have k1 := cell_up hlA hb1
    go_wp2_with fail
    refine (areLabels_any _ L _ (by rw [← Hm.out]; exact hnL) HLL.out (HT.out.below hbl1) (HVL.out.below hbl1)).mono ?_
    rw [hla]
    rintro e w2 ⟨rfl, hb2⟩
    have hbl2 := below_trans' hbl1 hb2
    have k2 := cell_up k1 hb2
    go_wp2_with fail
    have hA3 := alc w2 (.cells #[.int .i64 (m : Int)] 2)
    have hbl3 := below_trans' hbl2 hA3
    have cn3 : (w2.alloc (.cells #[.int .i64 (m : Int)] 2)).cell? ⟨w2.heap.size, 0, none⟩ = some (.int .i64 (m : Int)) := by rw [cell_of_row _ _ _ _ _ _ (heap_alloc_new w2 _)]; rfl
    refine (regularOf_any x kids _ _ Hko.out (by rw [← Hf.out, ← Hn.out]; exact hn) (by rw [← Hf.out]; exact HV.out.below hbl3)).mono ?_
    rintro e w4 ⟨b, rfl, hF, hb4⟩
    have hbl4 := below_trans' hbl3 hb4
    have HF := Lib.hid hF
    have k4 := cell_up (cell_up k2 hA3) hb4
    have c4 := cell_up cn3 hb4
    clear hF k1 k2 cn3 hA3 hb4 hlA
    go_wp2_with fail
    have hA5 := alc w4 (.cells #[.int .i64 0] 2)
    have hbl5 := below_trans' hbl4 hA5
    have HS0 : RdI (w4.alloc (.cells #[.int .i64 0] 2)) (.slice (some ⟨w4.heap.size, 0, none⟩) 1 1) (asc (startB L.length)) := by
      rw [asc_startB]
      exact Ow.rd (rd_alloc w4 #[.int .i64 0] _ 1 (ic [0]) rfl (by unfold maxLen; decide) fun i hi => by
        match i, hi with
        | 0, _ => rfl)
    have k5 := cell_up k4 hA5
    have c5 := cell_up c4 hA5
    refine (HEnds.out b w2.heap.size w.heap.size _ _ (startB L.length) _ _ (HF.out.below hA5) (startB_len _) HS0 ⟨by rw [← Hm.out]; exact c5, k5, HVL.out.below hbl5⟩ (HT.out.below hbl5)).mono ?_
    rw [← HU.out]
    rintro e w6 ⟨u6, rfl, hO6, hb6⟩
    have hbl6 := below_trans' hbl5 hb6
    have c6 := cell_up c5 hb6
    obtain ⟨a6, cc6, rfl⟩ := hO6.rd.slice
    have HO6 : Hid (RdI w6 (.slice a6 (asc U).length cc6) (asc U)) := Lib.hid hO6.rd
    obtain ⟨q, hq⟩ : ∃ q, q = (asc U).length := ⟨_, rfl⟩
    rw [← hq] at HO6 ⊢
    clear hO6 hq HS0 k5 c5 hA5 k4 c4
    go_wp2_with fail
    refine (slicesContainsI_any _ (asc U) m _ HO6.out).mono ?_
    rw [hasI_asc, HVU.out]
    rintro e w7 ⟨rfl, rfl⟩
    go_wp2_with fail
    go_ret2
    exact ⟨rfl, hbl6⟩
end Go.Proofs.YtcakmchefbohoaaGreatDoor
