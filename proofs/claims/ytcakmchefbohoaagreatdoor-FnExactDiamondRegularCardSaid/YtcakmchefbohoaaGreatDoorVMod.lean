/- Contracts: the shape of a formula, and whether a modal formula is valid, of the program and of the reference. -/
import Derived.Test.YtcakmchefbohoaaGreatDoorProg
import Derived.Test.YtcakmchefbohoaaGreatDoorMem
import Derived.Test.YtcakmchefbohoaaGreatDoorMath
import Derived.Test.YtcakmchefbohoaaGreatDoorBasics
import Derived.Test.YtcakmchefbohoaaGreatDoorOpenI
import Derived.Test.YtcakmchefbohoaaGreatDoorHelpI
import Derived.Test.YtcakmchefbohoaaGreatDoorGrid
import Derived.Test.YtcakmchefbohoaaGreatDoorPart
import Derived.Test.YtcakmchefbohoaaGreatDoorText
import Derived.Test.YtcakmchefbohoaaGreatDoorLab
import Derived.Test.YtcakmchefbohoaaGreatDoorEnv
import Derived.Test.YtcakmchefbohoaaGreatDoorRLab
import Derived.Test.YtcakmchefbohoaaGreatDoorNode
import Derived.Test.YtcakmchefbohoaaGreatDoorNodeW
import Derived.Test.YtcakmchefbohoaaGreatDoorVReg
import Derived.WalkKit
import Derived.BigQuiet
import Derived.BigRegion
import Derived.Deep.QuietTactic
import Derived.Lib.Hide
import Derived.Outline
set_option linter.unusedVariables false
set_option linter.unusedSimpArgs false
namespace Go.Proofs.YtcakmchefbohoaaGreatDoor
open Go.RowKit

/-- How many operands a node has; how many are wanted ahead of the i-th node; whether a node's fields are right. -/
def arity (k : Int) : Int := if k = 2 ∨ k = 3 then 2 else if k = 4 ∨ k = 5 ∨ k = 7 ∨ k = 8 then 1 else 0
def needN (f : List Nd) : Nat → Int
  | 0 => 1
  | i + 1 => needN f i + (arity (ndnth f i).kind - 1)
def isModal (k : Int) : Bool := decide (k = 4) || decide (k = 5)
def fieldsB (n : Nd) : Bool := if isModal n.kind = true then patOk n.lab else bare n.lab n.neg
def shapeN (f : List Nd) : Bool := decide (∀ i, i < f.length → needN f i ≠ 0) && decide (needN f f.length = 0)
theorem arity_bd (k : Int) : 0 ≤ arity k ∧ arity k ≤ 2 := by unfold arity; split <;> (try split) <;> omega
theorem needN_bd (f : List Nd) (i : Nat) : -(i : Int) ≤ needN f i ∧ needN f i ≤ 1 + (i : Int) := by
  induction i with
  | zero => simp [needN]
  | succ i ih =>
    have := arity_bd (ndnth f i).kind
    rw [needN]
    omega
theorem operandsN_any (k v : Int) (l : ByteArray) (b : Bool) (w : World) :
    Calls Tryz.prog 145 #[.agg #[.int .i64 k, .int .i64 v, .string l, .bool b]] w fun e w' => e = .returned (.int .i64 (arity k)) ∧ Below w.heap.size w w' := by
  have hr : Hid (arity k = if k = 2 ∨ k = 3 then 2 else if k = 4 ∨ k = 5 ∨ k = 7 ∨ k = 8 then 1 else 0) := Lib.hid rfl
  go_enter Tryz.func145, Tryz.ntmps145
  go_wp2_with fail
  all_goals
    go_ret
    refine ⟨?_, (Below.refl _ w).alloc (Nat.le_refl _) _⟩
    rw [hr.out]
    try congr 2
    try simp_all
theorem isModality_any (k v : Int) (l : ByteArray) (b : Bool) (w : World) :
    Calls Tryz.prog 146 #[.agg #[.int .i64 k, .int .i64 v, .string l, .bool b]] w fun e w' => e = .returned (.bool (isModal k)) ∧ Below w.heap.size w w' := by
  go_enter Tryz.func146, Tryz.ntmps146
  go_wp2_with fail
  all_goals
    go_ret
    refine ⟨?_, (Below.refl _ w).alloc (Nat.le_refl _) _⟩
    try congr 2
    try simp_all [isModal]
set_option maxHeartbeats 800000 in
theorem fieldsOk_any (n : Nd) (w : World) (hl : n.lab.size ≤ 1048576) (hT : Env w) :
    Calls Tryz.prog 116 #[.agg #[.int .i64 n.kind, .int .i64 n.var, .string n.lab, .bool n.neg]] w fun e w' => e = .returned (.bool (fieldsB n)) ∧ Below w.heap.size w w' := by
  have HT := Lib.hid hT
  clear hT
  obtain ⟨cs, hcs⟩ : ∃ cs : Array Value, cs = #[.int .i64 n.kind, .int .i64 n.var, .string n.lab, .bool n.neg] := ⟨_, rfl⟩
  have hbA : Below w.heap.size w (w.alloc (.cells cs 65)) := (Below.refl _ _).alloc (Nat.le_refl _) _
  have hltA : w.heap.size < (w.alloc (.cells cs 65)).heap.size := by simp
  have c2 : (w.alloc (.cells cs 65)).cell? ⟨w.heap.size, 2, none⟩ = some (.string n.lab) := by rw [cell_of_row _ _ _ _ _ _ (heap_alloc_new w _), hcs]; rfl
  have c3 : (w.alloc (.cells cs 65)).cell? ⟨w.heap.size, 3, none⟩ = some (.bool n.neg) := by rw [cell_of_row _ _ _ _ _ _ (heap_alloc_new w _), hcs]; rfl
  rw [hcs] at hbA hltA c2 c3
  clear hcs
  cases hm : isModal n.kind with
  | true =>
    have hX : Hid (fieldsB n = patOk n.lab) := Lib.hid (by unfold fieldsB; rw [if_pos hm])
    go_enter Tryz.func116, Tryz.ntmps116
    go_wp2_with fail
    refine (isModality_any n.kind _ _ _ _).mono ?_
    rw [hm]
    rintro e w2 ⟨rfl, hb2⟩
    have d2 := (hb2.cell (by exact hltA)).trans c2
    have hbl := below_trans' hbA hb2
    clear hb2 c2 c3 hbA hltA
    go_wp2_with fail
    refine (IsPattern_any n.lab _ hl (HT.out.below hbl)).mono ?_
    rintro e w3 ⟨rfl, hb3⟩
    go_wp2_with fail
    go_ret
    exact ⟨by rw [hX.out]; rfl, below_trans' hbl hb3⟩
  | false =>
    have HX : Hid (fieldsB n = bare n.lab n.neg) := Lib.hid (by unfold fieldsB; rw [if_neg (by rw [hm]; decide)])
    by_cases hl0 : n.lab.size = 0
    · have hle : n.lab.toList = [] := toList_nil hl0
      have hle2 : (n.lab.toList == ([] : List UInt8)) = true := by rw [hle]; rfl
      have hle3 : n.lab.toList.isEmpty = true := by rw [hle]; rfl
      have hX : Hid (fieldsB n = !n.neg) := Lib.hid (by rw [HX.out, bare, decide_eq_true hl0]; rfl)
      go_enter Tryz.func116, Tryz.ntmps116
      go_wp2_with fail
      refine (isModality_any n.kind _ _ _ _).mono ?_
      rw [hm]
      rintro e w2 ⟨rfl, hb2⟩
      have d2 := (hb2.cell (by exact hltA)).trans c2
      have d3 := (hb2.cell (by exact hltA)).trans c3
      have hbl := below_trans' hbA hb2
      clear hb2 c2 c3 hbA hltA
      go_wp2_with fail
      go_ret
      exact ⟨by rw [hX.out]; rfl, hbl⟩
    · have hle : ¬ n.lab.toList = [] := toList_ne hl0
      have hle2 : (n.lab.toList == ([] : List UInt8)) = false := by simpa using hle
      have hle3 : n.lab.toList.isEmpty = false := by simpa using hle
      have hX : Hid (fieldsB n = false) := Lib.hid (by rw [HX.out, bare, decide_eq_false hl0]; rfl)
      go_enter Tryz.func116, Tryz.ntmps116
      go_wp2_with fail
      refine (isModality_any n.kind _ _ _ _).mono ?_
      rw [hm]
      rintro e w2 ⟨rfl, hb2⟩
      have d2 := (hb2.cell (by exact hltA)).trans c2
      have d3 := (hb2.cell (by exact hltA)).trans c3
      have hbl := below_trans' hbA hb2
      clear hb2 c2 c3 hbA hltA
      go_wp2_with fail
      go_ret
      exact ⟨by rw [hX.out]; rfl, hbl⟩
set_option maxRecDepth 100000 in
set_option maxHeartbeats 1000000 in
theorem shapeOk_any (v : Value) (f : List Nd) (w : World) (hn : f.length ≤ 1048576) (hv : RdNd w v f) :
    Calls Tryz.prog 115 #[v] w fun e w' => e = .returned (.bool (shapeN f)) ∧ Below w.heap.size w w' := by
  have HV := Lib.hid hv
  obtain ⟨a, cap, rfl, hcap, hm, hv⟩ := hv
  unfold maxLen at hm
  obtain ⟨n, hxn⟩ : ∃ n, n = f.length := ⟨_, rfl⟩
  rw [← hxn] at hcap HV hn ⊢
  have Hxn := Lib.hid hxn
  clear hxn hv
  go_enter Tryz.func115, Tryz.ntmps115
  go_wp2_with fail
  go_loopw [3, 8] (fun sn si wr => ∃ k : Nat, k ≤ n ∧ si = .int .i64 k ∧ sn = .int .i64 (needN f k) ∧ Hid (∀ i, i < k → needN f i ≠ 0) ∧ Below w.heap.size w wr) (fun _ si _ => n - (intOf si).toNat)
  case atStart => exact ⟨0, Nat.zero_le _, rfl, rfl, Lib.hid (fun i h => absurd h (by omega)), Below.refl _ _⟩
  case round =>
    obtain ⟨k, hk, rfl, rfl, HL, hbl⟩ := hrel
    have hnb := needN_bd f k
    by_cases hlt : k < n
    · have hkf : k < f.length := by rw [← Hxn.out]; exact hlt
      obtain ⟨b, o, rfl, hb, g0, g1, g2, g3⟩ := RdNd.cells HV.out hkf
      have q0 := (hbl.cell (by exact hb)).trans g0
      have q1 := (hbl.cell (by exact hb)).trans g1
      have q2 := (hbl.cell (by exact hb)).trans g2
      have q3 := (hbl.cell (by exact hb)).trans g3
      have Hn1 : Hid (needN f (k + 1) = needN f k + (arity (ndnth f k).kind - 1)) := Lib.hid rfl
      obtain ⟨Y, hY⟩ : ∃ Y, Y = ndnth f k := ⟨_, rfl⟩
      rw [← hY] at q0 q1 q2 q3 Hn1
      obtain ⟨M, hM⟩ : ∃ M, M = needN f k := ⟨_, rfl⟩
      rw [← hM] at hnb Hn1 ⊢
      have HM := Lib.hid hM
      have hrb := arity_bd Y.kind
      clear hY hM g0 g1 g2 g3
      by_cases hM0 : M = 0
      · have HX : Hid (shapeN f = false) := Lib.hid (by
          unfold shapeN
          rw [decide_eq_false (fun h => h k hkf (by rw [← HM.out]; exact hM0))]; rfl)
        have hMb : (M == 0) = true := by simpa using hM0
        go_wp2_with fail
        go_ret
        exact ⟨by rw [HX.out]; rfl, hbl.alloc hbl.size _⟩
      · have hMb : (M == 0) = false := by simpa using hM0
        have HL2 : Hid (∀ i, i < k + 1 → needN f i ≠ 0) := Lib.hid (next_all HL.out (by rw [← HM.out]; exact hM0))
        have hbA : Below wr.heap.size wr (wr.alloc (.cells #[.int .i64 Y.kind, .int .i64 Y.var, .string Y.lab, .bool Y.neg] 65)) := (Below.refl _ _).alloc (Nat.le_refl _) _
        go_wp2_with fail
        refine (operandsN_any Y.kind _ _ _ _).mono ?_
        rintro e w3 ⟨rfl, hb3⟩
        have hbl3 := below_trans' (below_trans' hbl hbA) hb3
        clear hbA hb3
        go_wp2_with fail
        go_roundw
        case rel => exact ⟨k + 1, by omega, by go_num, by rw [Hn1.out], HL2, hbl3⟩
        case measure => simp [intOf]; omega
    · obtain rfl : k = n := by omega
      have HX : Hid (shapeN f = decide (needN f k = 0)) := Lib.hid (by
        have e := Hxn.out
        unfold shapeN
        rw [decide_eq_true (fun i hi => HL.out i (by rw [e]; exact hi)), ← e, Bool.true_and])
      obtain ⟨M, hM⟩ : ∃ M, M = needN f k := ⟨_, rfl⟩
      rw [← hM] at HX hnb ⊢
      clear hM
      by_cases hM0 : M = 0
      · have hX : Hid (shapeN f = true) := Lib.hid (by rw [HX.out, decide_eq_true hM0])
        have hMb : (M == 0) = true := by simpa using hM0
        go_wp2_with fail
        go_ret
        exact ⟨by rw [hX.out]; rfl, hbl⟩
      · have hX : Hid (shapeN f = false) := Lib.hid (by rw [HX.out, decide_eq_false hM0])
        have hMb : (M == 0) = false := by simpa using hM0
        go_wp2_with fail
        go_ret
        exact ⟨by rw [hX.out]; rfl, hbl⟩
theorem l14Arity_any (k : Int) (w : World) (h : inR k 0 8 = true) :
    Calls Tryz.prog 113 #[.int .i64 k] w fun e w' => e = .returned (.int .i64 (arity k)) ∧ w = w' := by
  have hb := inR_true h
  have hr : Hid (arity k = if k = 2 ∨ k = 3 then 2 else if k = 4 ∨ k = 5 ∨ k = 7 ∨ k = 8 then 1 else 0) := Lib.hid rfl
  have hc : k = 0 ∨ k = 1 ∨ k = 2 ∨ k = 3 ∨ k = 4 ∨ k = 5 ∨ k = 6 ∨ k = 7 ∨ k = 8 := by omega
  rw [hr.out]
  clear hb h hr
  rcases hc with rfl | rfl | rfl | rfl | rfl | rfl | rfl | rfl | rfl
  all_goals
    go_enter Tryz.func113, Tryz.ntmps113
    go_wp2_with fail
    go_ret
    exact ⟨rfl, rfl⟩
/-- What the reference asks of a node, its kind up to top. -/
def nodeS (top : Int) (n : Nd) : Bool := inR n.kind 0 top && fieldsB n
def shapeS (f : List Nd) (most top : Int) : Bool := inR f.length 1 most && decide (∀ i, i < f.length → needN f i ≠ 0 ∧ nodeS top (ndnth f i) = true) && decide (needN f f.length = 0)
theorem shapeS_no {f : List Nd} {most top : Int} {i : Nat} (hi : i < f.length) (h : needN f i = 0 ∨ nodeS top (ndnth f i) = false) : shapeS f most top = false := by
  unfold shapeS
  rw [decide_eq_false, Bool.and_false, Bool.false_and]
  intro h2
  obtain ⟨h3, h4⟩ := h2 i hi
  rcases h with h | h
  · exact h3 h
  · rw [h] at h4; cases h4
set_option maxRecDepth 100000 in
set_option maxHeartbeats 1000000 in
theorem l14Shape_any (v : Value) (f : List Nd) (most top : Int) (w : World) (hmo : 0 ≤ most ∧ most ≤ 1000) (htop : 0 ≤ top ∧ top ≤ 8) (hn : f.length ≤ 1048576) (hls : ∀ i, i < f.length → (ndnth f i).lab.size ≤ 1048576) (hv : RdNd w v f) :
    Calls Tryz.prog 68 #[v, .int .i64 most, .int .i64 top] w fun e w' => e = .returned (.bool (shapeS f most top)) ∧ Below w.heap.size w w' := by
  have HV := Lib.hid hv
  have Hls := Lib.hid hls
  obtain ⟨a, cap, rfl, hcap, hm, hv⟩ := hv
  unfold maxLen at hm
  obtain ⟨n, hxn⟩ : ∃ n, n = f.length := ⟨_, rfl⟩
  rw [← hxn] at hcap HV hn ⊢
  have Hxn := Lib.hid hxn
  clear hxn hv hls
  by_cases hn1 : n < 1
  · have HX : Hid (shapeS f most top = false) := Lib.hid (by
      have e : f = [] := List.length_eq_zero_iff.1 (by rw [← Hxn.out]; omega)
      rw [e]
      unfold shapeS inR
      simp)
    have hn1i : (n : Int) < 1 := by omega
    have hn1b : decide ((n : Int) < 1) = true := decide_eq_true hn1i
    go_enter Tryz.func68, Tryz.ntmps68
    go_wp2_with fail
    go_ret
    exact ⟨by rw [HX.out]; rfl, Below.refl _ _⟩
  have hn1i : ¬ (n : Int) < 1 := by omega
  have hn1b : decide ((n : Int) < 1) = false := decide_eq_false hn1i
  by_cases hn2 : most < n
  · have HX : Hid (shapeS f most top = false) := Lib.hid (by unfold shapeS inR; rw [← Hxn.out, decide_eq_false (show ¬ (n : Int) ≤ most by omega)]; simp)
    go_enter Tryz.func68, Tryz.ntmps68
    go_wp2_with fail
    go_ret
    exact ⟨by rw [HX.out]; rfl, Below.refl _ _⟩
  have HR : Hid (inR (f.length : Int) 1 most = true) := Lib.hid (by unfold inR; rw [← Hxn.out, decide_eq_true (show (1 : Int) ≤ n by omega), decide_eq_true (show (n : Int) ≤ most by omega)]; rfl)
  go_enter Tryz.func68, Tryz.ntmps68
  go_wp2_with fail
  go_loopw [7, 8] (fun sn si wr => ∃ k : Nat, k ≤ n ∧ si = .int .i64 k ∧ sn = .int .i64 (needN f k) ∧ Hid (∀ i, i < k → needN f i ≠ 0 ∧ nodeS top (ndnth f i) = true) ∧ Below w.heap.size w wr) (fun _ si _ => n - (intOf si).toNat)
  case atStart => exact ⟨0, Nat.zero_le _, rfl, rfl, Lib.hid (fun i h => absurd h (by omega)), Below.refl _ _⟩
  case round =>
    obtain ⟨k, hk, rfl, rfl, HL, hbl⟩ := hrel
    have hnb := needN_bd f k
    by_cases hlt : k < n
    · have hkf : k < f.length := by rw [← Hxn.out]; exact hlt
      obtain ⟨b, o, rfl, hb, g0, g1, g2, g3⟩ := RdNd.cells HV.out hkf
      have q0 := (hbl.cell (by exact hb)).trans g0
      have q2 := (hbl.cell (by exact hb)).trans g2
      have q3 := (hbl.cell (by exact hb)).trans g3
      have hys := Hls.out k hkf
      have HNo : Hid (needN f k = 0 ∨ nodeS top (ndnth f k) = false → shapeS f most top = false) := Lib.hid (fun h => shapeS_no hkf h)
      have Hn1 : Hid (needN f (k + 1) = needN f k + (arity (ndnth f k).kind - 1)) := Lib.hid rfl
      obtain ⟨Y, hY⟩ : ∃ Y, Y = ndnth f k := ⟨_, rfl⟩
      rw [← hY] at q0 q2 q3 hys HNo Hn1
      have HY := Lib.hid hY
      obtain ⟨M, hM⟩ : ∃ M, M = needN f k := ⟨_, rfl⟩
      rw [← hM] at hnb HNo Hn1 ⊢
      have HM := Lib.hid hM
      have hrb := arity_bd Y.kind
      have hblo : w.heap.size ≤ wr.heap.size := hbl.size
      clear hY hM g0 g1 g2 g3
      by_cases hM0 : M = 0
      · have HX := Lib.hid (HNo.out (Or.inl hM0))
        have hMb : (M == 0) = true := by simpa using hM0
        go_wp2_with fail
        go_ret
        exact ⟨by rw [HX.out]; rfl, hbl⟩
      · have hMb : (M == 0) = false := by simpa using hM0
        cases hkd : inR Y.kind 0 top with
        | false =>
          have HX := Lib.hid (HNo.out (Or.inr (by unfold nodeS; rw [hkd]; rfl)))
          go_wp2_with (go_at_call 65; refine (l00In_any _ _ _ _).mono ?_; rintro e w' ⟨rfl, rfl⟩)
          go_ret
          exact ⟨by rw [HX.out]; rfl, hbl⟩
        | true =>
          have hk8 : inR Y.kind 0 8 = true := by
            have := inR_true hkd
            unfold inR
            rw [decide_eq_true (show (0 : Int) ≤ Y.kind by omega), decide_eq_true (show Y.kind ≤ 8 by omega)]; rfl
          cases hmd : isModal Y.kind with
          | true =>
            have hmp : (Y.kind == 4) = true ∨ ((Y.kind == 4) = false ∧ (Y.kind == 5) = true) := by
              unfold isModal at hmd
              by_cases h4 : Y.kind = 4
              · exact Or.inl (by simpa using h4)
              · right
                rw [decide_eq_false h4, Bool.false_or, decide_eq_true_eq] at hmd
                exact ⟨by simpa using h4, by simpa using hmd⟩
            have HFd : Hid (fieldsB Y = patOk Y.lab) := Lib.hid (by unfold fieldsB; rw [if_pos hmd])
            rcases hmp with h4 | ⟨h4, h5⟩
            all_goals
              go_wp2_with (first | (go_at_call 65; refine (l00In_any _ _ _ _).mono ?_; rintro e w' ⟨rfl, rfl⟩) | (go_at_call 113; refine (l14Arity_any _ _ hk8).mono ?_; rintro e w' ⟨rfl, rfl⟩))
              refine (l14Pattern_any Y.lab _ hys).mono ?_
              rintro e w2 ⟨rfl, hb2⟩
              have p0 := (hb2.cell (by exact Nat.lt_of_lt_of_le hb hblo)).trans q0
              have p2 := (hb2.cell (by exact Nat.lt_of_lt_of_le hb hblo)).trans q2
              have p3 := (hb2.cell (by exact Nat.lt_of_lt_of_le hb hblo)).trans q3
              have hbl2 := below_trans' hbl hb2
              cases hpt : patOk Y.lab with
              | false =>
                have HX := Lib.hid (HNo.out (Or.inr (by unfold nodeS; rw [HFd.out, hpt, Bool.and_false])))
                go_wp2_with fail
                go_ret
                exact ⟨by rw [HX.out]; rfl, hbl2⟩
              | true =>
                have hnode : nodeS top Y = true := by unfold nodeS; rw [HFd.out, hpt, hkd]; rfl
                have HL2 : Hid (∀ i, i < k + 1 → needN f i ≠ 0 ∧ nodeS top (ndnth f i) = true) := Lib.hid (next_all HL.out ⟨by rw [← HM.out]; exact hM0, by rw [← HY.out]; exact hnode⟩)
                clear hnode
                go_wp2_with fail
                go_roundw
                case rel => exact ⟨k + 1, by omega, by go_num, by rw [Hn1.out], HL2, hbl2⟩
                case measure => simp [intOf]; omega
          | false =>
            have hm2 := hmd
            unfold isModal at hm2
            simp only [Bool.or_eq_false_iff, decide_eq_false_iff_not] at hm2
            have h4 : (Y.kind == 4) = false := by simpa using hm2.1
            have h5 : (Y.kind == 5) = false := by simpa using hm2.2
            have HFd : Hid (fieldsB Y = bare Y.lab Y.neg) := Lib.hid (by unfold fieldsB; rw [if_neg (by rw [hmd]; decide)])
            by_cases hl0 : Y.lab.size = 0
            · have hle : Y.lab.toList = [] := toList_nil hl0
              have hle2 : (Y.lab.toList == ([] : List UInt8)) = true := by rw [hle]; rfl
              have hle3 : Y.lab.toList.isEmpty = true := by rw [hle]; rfl
              cases hng : Y.neg with
              | true =>
                have HX := Lib.hid (HNo.out (Or.inr (by unfold nodeS; rw [HFd.out, bare, hng]; simp)))
                rw [hng] at q3
                clear hm2
                go_wp2_with (first | (go_at_call 65; refine (l00In_any _ _ _ _).mono ?_; rintro e w' ⟨rfl, rfl⟩) | (go_at_call 113; refine (l14Arity_any _ _ hk8).mono ?_; rintro e w' ⟨rfl, rfl⟩))
                go_ret
                exact ⟨by rw [HX.out]; rfl, hbl⟩
              | false =>
                have hnode : nodeS top Y = true := by unfold nodeS; rw [HFd.out, bare, hng, hkd, decide_eq_true hl0]; rfl
                rw [hng] at q3
                clear hm2
                have HL2 : Hid (∀ i, i < k + 1 → needN f i ≠ 0 ∧ nodeS top (ndnth f i) = true) := Lib.hid (next_all HL.out ⟨by rw [← HM.out]; exact hM0, by rw [← HY.out]; exact hnode⟩)
                clear hnode
                go_wp2_with (first | (go_at_call 65; refine (l00In_any _ _ _ _).mono ?_; rintro e w' ⟨rfl, rfl⟩) | (go_at_call 113; refine (l14Arity_any _ _ hk8).mono ?_; rintro e w' ⟨rfl, rfl⟩))
                go_roundw
                case rel => exact ⟨k + 1, by omega, by go_num, by rw [Hn1.out], HL2, hbl⟩
                case measure => simp [intOf]; omega
            · have hle : ¬ Y.lab.toList = [] := toList_ne hl0
              have hle2 : (Y.lab.toList == ([] : List UInt8)) = false := by simpa using hle
              have hle3 : Y.lab.toList.isEmpty = false := by simpa using hle
              have HX := Lib.hid (HNo.out (Or.inr (by unfold nodeS; rw [HFd.out, bare, decide_eq_false hl0]; simp)))
              clear hm2
              go_wp2_with (first | (go_at_call 65; refine (l00In_any _ _ _ _).mono ?_; rintro e w' ⟨rfl, rfl⟩) | (go_at_call 113; refine (l14Arity_any _ _ hk8).mono ?_; rintro e w' ⟨rfl, rfl⟩))
              go_ret
              exact ⟨by rw [HX.out]; rfl, hbl⟩
    · obtain rfl : k = n := by omega
      have HX : Hid (shapeS f most top = decide (needN f k = 0)) := Lib.hid (by
        have e := Hxn.out
        unfold shapeS
        rw [HR.out, decide_eq_true (fun i hi => HL.out i (by rw [e]; exact hi)), ← e]; simp)
      obtain ⟨M, hM⟩ : ∃ M, M = needN f k := ⟨_, rfl⟩
      rw [← hM] at HX hnb ⊢
      clear hM
      by_cases hM0 : M = 0
      · have hX : Hid (shapeS f most top = true) := Lib.hid (by rw [HX.out, decide_eq_true hM0])
        have hMb : (M == 0) = true := by simpa using hM0
        go_wp2_with fail
        go_ret
        exact ⟨by rw [hX.out]; rfl, hbl⟩
      · have hX : Hid (shapeS f most top = false) := Lib.hid (by rw [HX.out, decide_eq_false hM0])
        have hMb : (M == 0) = false := by simpa using hM0
        go_wp2_with fail
        go_ret
        exact ⟨by rw [hX.out]; rfl, hbl⟩
end Go.Proofs.YtcakmchefbohoaaGreatDoor
