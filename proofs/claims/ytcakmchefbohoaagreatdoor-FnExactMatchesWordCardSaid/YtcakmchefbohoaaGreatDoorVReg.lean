/- Contracts: whether a regular expression is valid, of the program and of the reference. -/
import Derived.Test.YtcakmchefbohoaaGreatDoorProg
import Derived.Test.YtcakmchefbohoaaGreatDoorMem
import Derived.Test.YtcakmchefbohoaaGreatDoorMath
import Derived.Test.YtcakmchefbohoaaGreatDoorBasics
import Derived.Test.YtcakmchefbohoaaGreatDoorOpenI
import Derived.Test.YtcakmchefbohoaaGreatDoorHelpI
import Derived.Test.YtcakmchefbohoaaGreatDoorGrid
import Derived.Test.YtcakmchefbohoaaGreatDoorText
import Derived.Test.YtcakmchefbohoaaGreatDoorLab
import Derived.Test.YtcakmchefbohoaaGreatDoorEnv
import Derived.Test.YtcakmchefbohoaaGreatDoorPart
import Derived.Test.YtcakmchefbohoaaGreatDoorRLab
import Derived.Test.YtcakmchefbohoaaGreatDoorReg
import Derived.Test.YtcakmchefbohoaaGreatDoorRegW
import Derived.WalkKit
import Derived.BigQuiet
import Derived.BigRegion
import Derived.Deep.QuietTactic
import Derived.Lib.Hide
import Derived.Outline
set_option linter.unusedVariables false
set_option linter.unusedSimpArgs false
namespace Go.Proofs.YtcakmchefbohoaaGreatDoor
open Go.RowKit

/-- How many operands an element has; how many are wanted ahead of the i-th element; whether an element's fields are right. -/
def rarity (k : Int) : Int := if k = 1 ∨ k = 2 then 2 else if k = 3 then 1 else 0
def needR (f : List Rg) : Nat → Int
  | 0 => 1
  | i + 1 => needR f i + (rarity (rgnth f i).kind - 1)
def bare (s : ByteArray) (neg : Bool) : Bool := decide (s.size = 0) && !neg
def regNode (n : Rg) : Bool := inR n.kind 0 3 && patOk n.lab && (decide (n.kind = 0) || bare n.lab n.neg)
def validR (f : List Rg) : Bool := decide (∀ i, i < f.length → needR f i ≠ 0 ∧ regNode (rgnth f i) = true) && decide (needR f f.length = 0) && decide (f.length ≤ 20)
theorem rarity_bd (k : Int) : 0 ≤ rarity k ∧ rarity k ≤ 2 := by unfold rarity; split <;> (try split) <;> omega
theorem needR_bd (f : List Rg) (i : Nat) : -(i : Int) ≤ needR f i ∧ needR f i ≤ 1 + (i : Int) := by
  induction i with
  | zero => simp [needR]
  | succ i ih =>
    have := rarity_bd (rgnth f i).kind
    rw [needR]
    omega
theorem validR_no {f : List Rg} {i : Nat} (hi : i < f.length) (h : needR f i = 0 ∨ regNode (rgnth f i) = false) : validR f = false := by
  unfold validR
  rw [decide_eq_false]
  · rfl
  · intro h2
    obtain ⟨h3, h4⟩ := h2 i hi
    rcases h with h | h
    · exact h3 h
    · rw [h] at h4; cases h4
theorem validR_end {f : List Rg} (h : ∀ i, i < f.length → needR f i ≠ 0 ∧ regNode (rgnth f i) = true) : validR f = (decide (needR f f.length = 0) && decide (f.length ≤ 20)) := by
  unfold validR
  rw [decide_eq_true h]; rfl
theorem size_empty {s : ByteArray} (h : s.size = 0) : s = ByteArray.empty := by
  have := nat0_none h
  rw [← ba_of s, this]; rfl
theorem pat_empty : patOk ByteArray.empty = true := by unfold patOk; rfl
theorem operandsR_any (k : Int) (l : ByteArray) (b : Bool) (w : World) :
    Calls Tryz.prog 80 #[.agg #[.int .i64 k, .string l, .bool b]] w fun e w' => e = .returned (.int .i64 (rarity k)) ∧ Below w.heap.size w w' := by
  have hr : Hid (rarity k = if k = 1 ∨ k = 2 then 2 else if k = 3 then 1 else 0) := Lib.hid rfl
  go_enter Tryz.func80, Tryz.ntmps80
  go_wp2_with fail
  all_goals
    go_ret
    refine ⟨?_, (Below.refl _ w).alloc (Nat.le_refl _) _⟩
    rw [hr.out]
    congr 2
    simp_all
theorem l20Arity_any (k : Int) (w : World) (h : inR k 0 3 = true) :
    Calls Tryz.prog 66 #[.int .i64 k] w fun e w' => e = .returned (.int .i64 (rarity k)) ∧ w = w' := by
  have hb := inR_true h
  have hr : Hid (rarity k = if k = 1 ∨ k = 2 then 2 else if k = 3 then 1 else 0) := Lib.hid rfl
  have hc : k = 0 ∨ k = 1 ∨ k = 2 ∨ k = 3 := by omega
  rw [hr.out]
  clear hb h hr
  rcases hc with rfl | rfl | rfl | rfl
  all_goals
    go_enter Tryz.func66, Tryz.ntmps66
    go_wp2_with fail
    go_ret
    exact ⟨rfl, rfl⟩
set_option maxRecDepth 100000 in
set_option maxHeartbeats 1000000 in
theorem ValidRegular_any (v : Value) (f : List Rg) (w : World) (hn : f.length ≤ 1048576) (hls : ∀ i, i < f.length → (rgnth f i).lab.size ≤ 1048576) (hT : Env w) (hv : RdRg w v f) :
    Calls Tryz.prog 47 #[v] w fun e w' => e = .returned (.bool (validR f)) ∧ Below w.heap.size w w' := by
  have HV := Lib.hid hv
  have HT := Lib.hid hT
  have Hls := Lib.hid hls
  obtain ⟨a, cap, rfl, hcap, hm, hv⟩ := hv
  unfold maxLen at hm
  obtain ⟨n, hxn⟩ : ∃ n, n = f.length := ⟨_, rfl⟩
  rw [← hxn] at hcap HV hn ⊢
  have Hxn := Lib.hid hxn
  clear hxn hv hT hls
  go_enter Tryz.func47, Tryz.ntmps47
  go_wp2_with fail
  go_loopw [3, 8] (fun sn si wr => ∃ k : Nat, k ≤ n ∧ si = .int .i64 k ∧ sn = .int .i64 (needR f k) ∧ Hid (∀ i, i < k → needR f i ≠ 0 ∧ regNode (rgnth f i) = true) ∧ Below w.heap.size w wr) (fun _ si _ => n - (intOf si).toNat)
  case atStart => exact ⟨0, Nat.zero_le _, rfl, rfl, Lib.hid (fun i h => absurd h (by omega)), Below.refl _ _⟩
  case round =>
    obtain ⟨k, hk, rfl, rfl, HL, hbl⟩ := hrel
    have hnb := needR_bd f k
    by_cases hlt : k < n
    · have hkf : k < f.length := by rw [← Hxn.out]; exact hlt
      obtain ⟨b, o, rfl, hb, g0, g1, g2⟩ := RdRg.cells HV.out hkf
      have q0 := (hbl.cell (by exact hb)).trans g0
      have q1 := (hbl.cell (by exact hb)).trans g1
      have q2 := (hbl.cell (by exact hb)).trans g2
      have hys := Hls.out k hkf
      have HNo : Hid (needR f k = 0 ∨ regNode (rgnth f k) = false → validR f = false) := Lib.hid (fun h => validR_no hkf h)
      have Hn1 : Hid (needR f (k + 1) = needR f k + (rarity (rgnth f k).kind - 1)) := Lib.hid rfl
      obtain ⟨Y, hY⟩ : ∃ Y, Y = rgnth f k := ⟨_, rfl⟩
      rw [← hY] at q0 q1 q2 hys HNo Hn1
      have HY := Lib.hid hY
      obtain ⟨M, hM⟩ : ∃ M, M = needR f k := ⟨_, rfl⟩
      rw [← hM] at hnb HNo Hn1 ⊢
      have HM := Lib.hid hM
      have hrb := rarity_bd Y.kind
      clear hY hM g0 g1 g2
      by_cases hM0 : M = 0
      · have HX := Lib.hid (HNo.out (Or.inl hM0))
        have hMb : (M == 0) = true := by simpa using hM0
        go_wp2_with fail
        go_ret
        exact ⟨by rw [HX.out]; rfl, hbl.alloc hbl.size _⟩
      · have hMb : (M == 0) = false := by simpa using hM0
        cases hkd : inR Y.kind 0 3 with
        | false =>
          have HX := Lib.hid (HNo.out (Or.inr (by unfold regNode; rw [hkd]; rfl)))
          go_wp2_with (go_at_call 78; refine (within_any _ _ _ _).mono ?_; rintro e w' ⟨rfl, rfl⟩)
          go_ret
          exact ⟨by rw [HX.out]; rfl, hbl.alloc hbl.size _⟩
        | true =>
          have hkb := inR_true hkd
          go_wp2_with (go_at_call 78; refine (within_any _ _ _ _).mono ?_; rintro e w' ⟨rfl, rfl⟩)
          have hbA : Below wr.heap.size wr (wr.alloc (.cells #[.int .i64 Y.kind, .string Y.lab, .bool Y.neg] 63)) := (Below.refl _ _).alloc (Nat.le_refl _) _
          refine (IsPattern_any Y.lab _ hys (HT.out.below (below_trans' hbl hbA))).mono ?_
          rintro e w2 ⟨rfl, hb2⟩
          have hlt2 : wr.heap.size < (wr.alloc (.cells #[.int .i64 Y.kind, .string Y.lab, .bool Y.neg] 63)).heap.size := by simp
          have p0 : w2.cell? ⟨wr.heap.size, 0, none⟩ = some (.int .i64 Y.kind) := (hb2.cell (by exact hlt2)).trans (by rw [cell_of_row _ _ _ _ _ _ (heap_alloc_new wr _)]; rfl)
          have p1 : w2.cell? ⟨wr.heap.size, 1, none⟩ = some (.string Y.lab) := (hb2.cell (by exact hlt2)).trans (by rw [cell_of_row _ _ _ _ _ _ (heap_alloc_new wr _)]; rfl)
          have p2 : w2.cell? ⟨wr.heap.size, 2, none⟩ = some (.bool Y.neg) := (hb2.cell (by exact hlt2)).trans (by rw [cell_of_row _ _ _ _ _ _ (heap_alloc_new wr _)]; rfl)
          have hbl2 := below_trans' (below_trans' hbl hbA) hb2
          clear hbA hb2 hlt2
          cases hpt : patOk Y.lab with
          | false =>
            have HX := Lib.hid (HNo.out (Or.inr (by unfold regNode; rw [hkd, hpt]; rfl)))
            go_wp2_with fail
            go_ret
            exact ⟨by rw [HX.out]; rfl, hbl2⟩
          | true =>
            by_cases hk0 : Y.kind = 0
            · have hnode : regNode Y = true := by unfold regNode; rw [hkd, hpt, decide_eq_true hk0]; rfl
              have hk0b : (Y.kind != 0) = false := by simpa using hk0
              clear hk0
              have HL2 : Hid (∀ i, i < k + 1 → needR f i ≠ 0 ∧ regNode (rgnth f i) = true) := Lib.hid (next_all HL.out ⟨by rw [← HM.out]; exact hM0, by rw [← HY.out]; exact hnode⟩)
              clear hnode
              go_wp2_with fail
              refine (operandsR_any Y.kind _ _ _).mono ?_
              rintro e w3 ⟨rfl, hb3⟩
              have hbl3 := below_trans' hbl2 hb3
              go_wp2_with fail
              go_roundw
              case rel => exact ⟨k + 1, by omega, by go_num, by rw [Hn1.out], HL2, hbl3⟩
              case measure => simp [intOf]; omega
            · have hk0b : (Y.kind != 0) = true := by simpa using hk0
              by_cases hl0 : Y.lab.size = 0
              · have hle : Y.lab.toList = [] := toList_nil hl0
                have hle2 : (Y.lab.toList == ([] : List UInt8)) = true := by rw [hle]; rfl
                have hle3 : Y.lab.toList.isEmpty = true := by rw [hle]; rfl
                cases hng : Y.neg with
                | true =>
                  have HX := Lib.hid (HNo.out (Or.inr (by unfold regNode bare; rw [hkd, hpt, decide_eq_false hk0, hng]; simp)))
                  rw [hng] at p2
                  go_wp2_with fail
                  go_ret
                  exact ⟨by rw [HX.out]; rfl, hbl2⟩
                | false =>
                  have hnode : regNode Y = true := by unfold regNode bare; rw [hkd, hpt, decide_eq_true hl0, hng]; simp
                  have HL2 : Hid (∀ i, i < k + 1 → needR f i ≠ 0 ∧ regNode (rgnth f i) = true) := Lib.hid (next_all HL.out ⟨by rw [← HM.out]; exact hM0, by rw [← HY.out]; exact hnode⟩)
                  clear hnode
                  go_wp2_with fail
                  refine (operandsR_any Y.kind _ _ _).mono ?_
                  rintro e w3 ⟨rfl, hb3⟩
                  have hbl3 := below_trans' hbl2 hb3
                  go_wp2_with fail
                  go_roundw
                  case rel => exact ⟨k + 1, by omega, by go_num, by rw [Hn1.out], HL2, hbl3⟩
                  case measure => simp [intOf]; omega
              · have hle : ¬ Y.lab.toList = [] := toList_ne hl0
                have hle2 : (Y.lab.toList == ([] : List UInt8)) = false := by simpa using hle
                have hle3 : Y.lab.toList.isEmpty = false := by simpa using hle
                have HX := Lib.hid (HNo.out (Or.inr (by unfold regNode bare; rw [hkd, hpt, decide_eq_false hk0, decide_eq_false hl0]; rfl)))
                go_wp2_with fail
                go_ret
                exact ⟨by rw [HX.out]; rfl, hbl2⟩
    · obtain rfl : k = n := by omega
      have HX : Hid (validR f = (decide (needR f k = 0) && decide (k ≤ 20))) := Lib.hid (by
        have e := Hxn.out
        rw [validR_end (fun i hi => HL.out i (by rw [e]; exact hi)), ← e])
      obtain ⟨M, hM⟩ : ∃ M, M = needR f k := ⟨_, rfl⟩
      rw [← hM] at HX hnb ⊢
      clear hM
      by_cases hM0 : M = 0
      · have hX : Hid (validR f = decide ((k : Int) ≤ 20)) := Lib.hid (by rw [HX.out, decide_eq_true hM0, Bool.true_and]; apply decide_eq_decide.2; omega)
        have hMb : (M == 0) = true := by simpa using hM0
        go_wp2_with fail
        go_ret
        exact ⟨by rw [hX.out]; rfl, hbl⟩
      · have hX : Hid (validR f = false) := Lib.hid (by rw [HX.out, decide_eq_false hM0]; rfl)
        have hMb : (M == 0) = false := by simpa using hM0
        go_wp2_with fail
        go_ret
        exact ⟨by rw [hX.out]; rfl, hbl⟩
set_option maxRecDepth 100000 in
set_option maxHeartbeats 1000000 in
theorem l20Is_any (v : Value) (f : List Rg) (w : World) (hn : f.length ≤ 1048576) (hls : ∀ i, i < f.length → (rgnth f i).lab.size ≤ 1048576) (hv : RdRg w v f) :
    Calls Tryz.prog 36 #[v] w fun e w' => e = .returned (.bool (validR f)) ∧ Below w.heap.size w w' := by
  have HV := Lib.hid hv
  have Hls := Lib.hid hls
  obtain ⟨a, cap, rfl, hcap, hm, hv⟩ := hv
  unfold maxLen at hm
  obtain ⟨n, hxn⟩ : ∃ n, n = f.length := ⟨_, rfl⟩
  rw [← hxn] at hcap HV hn ⊢
  have Hxn := Lib.hid hxn
  clear hxn hv hls
  by_cases hn1 : n < 1
  · have HX : Hid (validR f = false) := Lib.hid (by
      have e : f = [] := List.length_eq_zero_iff.1 (by rw [← Hxn.out]; omega)
      rw [e]; rfl)
    have hn1i : (n : Int) < 1 := by omega
    have hn1b : decide ((n : Int) < 1) = true := decide_eq_true hn1i
    go_enter Tryz.func36, Tryz.ntmps36
    go_wp2_with fail
    go_ret
    exact ⟨by rw [HX.out]; rfl, Below.refl _ _⟩
  have hn1i : ¬ (n : Int) < 1 := by omega
  have hn1b : decide ((n : Int) < 1) = false := decide_eq_false hn1i
  by_cases hn2 : 20 < n
  · have HX : Hid (validR f = false) := Lib.hid (by unfold validR; rw [← Hxn.out, decide_eq_false (show ¬ n ≤ 20 by omega), Bool.and_false])
    have hn2i : (20 : Int) < (n : Int) := by omega
    go_enter Tryz.func36, Tryz.ntmps36
    go_wp2_with fail
    go_ret
    exact ⟨by rw [HX.out]; rfl, Below.refl _ _⟩
  have hn2i : ¬ (20 : Int) < (n : Int) := by omega
  go_enter Tryz.func36, Tryz.ntmps36
  go_wp2_with fail
  go_loopw [3, 4] (fun sn si wr => ∃ k : Nat, k ≤ n ∧ si = .int .i64 k ∧ sn = .int .i64 (needR f k) ∧ Hid (∀ i, i < k → needR f i ≠ 0 ∧ regNode (rgnth f i) = true) ∧ Below w.heap.size w wr) (fun _ si _ => n - (intOf si).toNat)
  case atStart => exact ⟨0, Nat.zero_le _, rfl, rfl, Lib.hid (fun i h => absurd h (by omega)), Below.refl _ _⟩
  case round =>
    obtain ⟨k, hk, rfl, rfl, HL, hbl⟩ := hrel
    have hnb := needR_bd f k
    by_cases hlt : k < n
    · have hkf : k < f.length := by rw [← Hxn.out]; exact hlt
      obtain ⟨b, o, rfl, hb, g0, g1, g2⟩ := RdRg.cells HV.out hkf
      have q0 := (hbl.cell (by exact hb)).trans g0
      have q1 := (hbl.cell (by exact hb)).trans g1
      have q2 := (hbl.cell (by exact hb)).trans g2
      have hys := Hls.out k hkf
      have HNo : Hid (needR f k = 0 ∨ regNode (rgnth f k) = false → validR f = false) := Lib.hid (fun h => validR_no hkf h)
      have Hn1 : Hid (needR f (k + 1) = needR f k + (rarity (rgnth f k).kind - 1)) := Lib.hid rfl
      obtain ⟨Y, hY⟩ : ∃ Y, Y = rgnth f k := ⟨_, rfl⟩
      rw [← hY] at q0 q1 q2 hys HNo Hn1
      have HY := Lib.hid hY
      obtain ⟨M, hM⟩ : ∃ M, M = needR f k := ⟨_, rfl⟩
      rw [← hM] at hnb HNo Hn1 ⊢
      have HM := Lib.hid hM
      have hrb := rarity_bd Y.kind
      have hblo : w.heap.size ≤ wr.heap.size := hbl.size
      clear hY hM g0 g1 g2
      by_cases hM0 : M = 0
      · have HX := Lib.hid (HNo.out (Or.inl hM0))
        have hMb : (M == 0) = true := by simpa using hM0
        go_wp2_with fail
        go_ret
        exact ⟨by rw [HX.out]; rfl, hbl⟩
      · have hMb : (M == 0) = false := by simpa using hM0
        cases hkd : inR Y.kind 0 3 with
        | false =>
          have HX := Lib.hid (HNo.out (Or.inr (by unfold regNode; rw [hkd]; rfl)))
          go_wp2_with (go_at_call 65; refine (l00In_any _ _ _ _).mono ?_; rintro e w' ⟨rfl, rfl⟩)
          go_ret
          exact ⟨by rw [HX.out]; rfl, hbl⟩
        | true =>
          by_cases hk0 : Y.kind = 0
          · have hk0b : (Y.kind != 0) = false := by simpa using hk0
            have hk0c : (Y.kind == 0) = true := by simpa using hk0
            have Hk0 := Lib.hid hk0
            clear hk0
            go_wp2_with (first | (go_at_call 65; refine (l00In_any _ _ _ _).mono ?_; rintro e w' ⟨rfl, rfl⟩) | (go_at_call 66; refine (l20Arity_any _ _ hkd).mono ?_; rintro e w' ⟨rfl, rfl⟩))
            refine (l14Pattern_any Y.lab _ hys).mono ?_
            rintro e w2 ⟨rfl, hb2⟩
            have p0 := (hb2.cell (by exact Nat.lt_of_lt_of_le hb hblo)).trans q0
            have hbl2 := below_trans' hbl hb2
            cases hpt : patOk Y.lab with
            | false =>
              have HX := Lib.hid (HNo.out (Or.inr (by unfold regNode; rw [hkd, hpt]; rfl)))
              go_wp2_with fail
              go_ret
              exact ⟨by rw [HX.out]; rfl, hbl2⟩
            | true =>
              have hnode : regNode Y = true := by unfold regNode; rw [hkd, hpt, decide_eq_true Hk0.out]; rfl
              have HL2 : Hid (∀ i, i < k + 1 → needR f i ≠ 0 ∧ regNode (rgnth f i) = true) := Lib.hid (next_all HL.out ⟨by rw [← HM.out]; exact hM0, by rw [← HY.out]; exact hnode⟩)
              clear hnode
              go_wp2_with fail
              go_roundw
              case rel => exact ⟨k + 1, by omega, by go_num, by rw [Hn1.out], HL2, hbl2⟩
              case measure => simp [intOf]; omega
          · have hk0b : (Y.kind != 0) = true := by simpa using hk0
            have hk0c : (Y.kind == 0) = false := by simpa using hk0
            by_cases hl0 : Y.lab.size = 0
            · have hle : Y.lab.toList = [] := toList_nil hl0
              have hle2 : (Y.lab.toList == ([] : List UInt8)) = true := by rw [hle]; rfl
              have hle3 : Y.lab.toList.isEmpty = true := by rw [hle]; rfl
              have hpt : patOk Y.lab = true := by rw [size_empty hl0]; exact pat_empty
              cases hng : Y.neg with
              | true =>
                have HX := Lib.hid (HNo.out (Or.inr (by unfold regNode bare; rw [hkd, hpt, decide_eq_false hk0, hng]; simp)))
                rw [hng] at q2
                go_wp2_with (first | (go_at_call 65; refine (l00In_any _ _ _ _).mono ?_; rintro e w' ⟨rfl, rfl⟩) | (go_at_call 66; refine (l20Arity_any _ _ hkd).mono ?_; rintro e w' ⟨rfl, rfl⟩))
                go_ret
                exact ⟨by rw [HX.out]; rfl, hbl⟩
              | false =>
                have hnode : regNode Y = true := by unfold regNode bare; rw [hkd, hpt, decide_eq_true hl0, hng]; simp
                rw [hng] at q2
                have HL2 : Hid (∀ i, i < k + 1 → needR f i ≠ 0 ∧ regNode (rgnth f i) = true) := Lib.hid (next_all HL.out ⟨by rw [← HM.out]; exact hM0, by rw [← HY.out]; exact hnode⟩)
                clear hnode
                go_wp2_with (first | (go_at_call 65; refine (l00In_any _ _ _ _).mono ?_; rintro e w' ⟨rfl, rfl⟩) | (go_at_call 66; refine (l20Arity_any _ _ hkd).mono ?_; rintro e w' ⟨rfl, rfl⟩))
                go_roundw
                case rel => exact ⟨k + 1, by omega, by go_num, by rw [Hn1.out], HL2, hbl⟩
                case measure => simp [intOf]; omega
            · have hle : ¬ Y.lab.toList = [] := toList_ne hl0
              have hle2 : (Y.lab.toList == ([] : List UInt8)) = false := by simpa using hle
              have hle3 : Y.lab.toList.isEmpty = false := by simpa using hle
              have HX := Lib.hid (HNo.out (Or.inr (by unfold regNode bare; rw [decide_eq_false hk0, decide_eq_false hl0]; simp)))
              go_wp2_with (first | (go_at_call 65; refine (l00In_any _ _ _ _).mono ?_; rintro e w' ⟨rfl, rfl⟩) | (go_at_call 66; refine (l20Arity_any _ _ hkd).mono ?_; rintro e w' ⟨rfl, rfl⟩))
              go_ret
              exact ⟨by rw [HX.out]; rfl, hbl⟩
    · obtain rfl : k = n := by omega
      have HX : Hid (validR f = decide (needR f k = 0)) := Lib.hid (by
        have e := Hxn.out
        rw [validR_end (fun i hi => HL.out i (by rw [e]; exact hi)), ← e, decide_eq_true (show k ≤ 20 by omega), Bool.and_true])
      obtain ⟨M, hM⟩ : ∃ M, M = needR f k := ⟨_, rfl⟩
      rw [← hM] at HX hnb ⊢
      clear hM
      by_cases hM0 : M = 0
      · have hX : Hid (validR f = true) := Lib.hid (by rw [HX.out, decide_eq_true hM0])
        have hMb : (M == 0) = true := by simpa using hM0
        go_wp2_with fail
        go_ret
        exact ⟨by rw [hX.out]; rfl, hbl⟩
      · have hX : Hid (validR f = false) := Lib.hid (by rw [HX.out, decide_eq_false hM0])
        have hMb : (M == 0) = false := by simpa using hM0
        go_wp2_with fail
        go_ret
        exact ⟨by rw [hX.out]; rfl, hbl⟩
end Go.Proofs.YtcakmchefbohoaaGreatDoor
