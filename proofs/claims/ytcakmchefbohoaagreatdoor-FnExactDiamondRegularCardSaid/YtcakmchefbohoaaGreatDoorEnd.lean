/- The ends of subformulas and the binders of variables: the plain law, and the contracts of both sides. -/
import Derived.Test.YtcakmchefbohoaaGreatDoorProg
import Derived.Test.YtcakmchefbohoaaGreatDoorMem
import Derived.Test.YtcakmchefbohoaaGreatDoorMath
import Derived.Test.YtcakmchefbohoaaGreatDoorBasics
import Derived.Test.YtcakmchefbohoaaGreatDoorOpenI
import Derived.Test.YtcakmchefbohoaaGreatDoorHelpI
import Derived.Test.YtcakmchefbohoaaGreatDoorGrid
import Derived.Test.YtcakmchefbohoaaGreatDoorPart
import Derived.Test.YtcakmchefbohoaaGreatDoorNode
import Derived.Test.YtcakmchefbohoaaGreatDoorNodeW
import Derived.Test.YtcakmchefbohoaaGreatDoorVMod
import Derived.Test.YtcakmchefbohoaaGreatDoorRLab
import Derived.WalkKit
import Derived.BigQuiet
import Derived.BigRegion
import Derived.Deep.QuietTactic
import Derived.Deep.RegionHeld3
import Derived.StillTailTactics
import Derived.Lib.Hide
import Derived.Outline
set_option linter.unusedVariables false
set_option linter.unusedSimpArgs false
namespace Go.Proofs.YtcakmchefbohoaaGreatDoor
open Go.RowKit

theorem shape_parts {f : List Nd} (h : shapeN f = true) : (∀ i, i < f.length → 1 ≤ needN f i) ∧ needN f f.length = 0 := by
  unfold shapeN at h
  simp only [Bool.and_eq_true, decide_eq_true_eq] at h
  refine ⟨fun i => ?_, h.2⟩
  induction i with
  | zero => intro _; exact Int.le_refl _
  | succ i ih =>
    intro hi
    have h1 := ih (by omega)
    have h2 := h.1 (i + 1) hi
    have h3 := arity_bd (ndnth f i).kind
    rw [needN] at h2 ⊢
    omega
/-- The end of the subformula that begins at k. -/
def endP (f : List Nd) (k j : Nat) : Bool := decide (k < j) && decide (needN f j < needN f k)
def endN (f : List Nd) (k : Nat) : Nat := ((List.range (f.length + 1)).find? (endP f k)).getD f.length
theorem endN_is {f : List Nd} {k e : Nat} (h1 : k < e) (h2 : e ≤ f.length) (h3 : needN f e < needN f k) (h4 : ∀ j, k ≤ j → j < e → needN f k ≤ needN f j) : endN f k = e := by
  unfold endN
  have hp : endP f k e = true := by unfold endP; rw [decide_eq_true h1, decide_eq_true h3]; rfl
  rcases find_range (endP f k) (f.length + 1) with ⟨i, hi, hil, hpi, hno⟩ | ⟨hi, hno⟩
  · rw [hi]
    simp only [Option.getD_some]
    rcases Nat.lt_trichotomy i e with h | h | h
    · exfalso
      unfold endP at hpi
      simp only [Bool.and_eq_true, decide_eq_true_eq] at hpi
      have := h4 i (by omega) h
      omega
    · exact h
    · have := hno e h
      rw [hp] at this; cases this
  · have := hno e (by omega)
    rw [hp] at this; cases this
theorem operands_step {f : List Nd} {k : Nat} : needN f (k + 1) = needN f k + (arity (ndnth f k).kind - 1) := rfl
set_option maxRecDepth 100000 in
set_option maxHeartbeats 1000000 in
theorem formulaEnd_any (v : Value) (f : List Nd) (k : Nat) (w : World) (hn : f.length ≤ 1048576) (hs : shapeN f = true) (hk : k < f.length) (hv : RdNd w v f) :
    Calls Tryz.prog 148 #[v, .int .i64 k] w fun e w' => e = .returned (.int .i64 (endN f k : Nat)) ∧ Below w.heap.size w w' := by
  have HV := Lib.hid hv
  have HS := Lib.hid (shape_parts hs)
  obtain ⟨a, cap, rfl, hcap, hm, hv⟩ := hv
  unfold maxLen at hm
  obtain ⟨n, hxn⟩ : ∃ n, n = f.length := ⟨_, rfl⟩
  rw [← hxn] at hcap HV hn hk ⊢
  have Hxn := Lib.hid hxn
  clear hxn hv hs
  go_enter Tryz.func148, Tryz.ntmps148
  go_wp2_with fail
  go_loopw [1, 5] (fun sk sn wr => ∃ j : Nat, k ≤ j ∧ j ≤ n ∧ sk = .int .i64 j ∧ sn = .int .i64 (needN f j - needN f k + 1) ∧ Hid (∀ i, k ≤ i → i < j → needN f k ≤ needN f i) ∧ Below w.heap.size w wr) (fun sk _ _ => n + 1 - (intOf sk).toNat)
  case atStart => exact ⟨k, Nat.le_refl _, by omega, rfl, by congr 1; omega, Lib.hid (fun i h1 h2 => absurd h2 (by omega)), Below.refl _ _⟩
  case round =>
    obtain ⟨j, hkj, hjn, rfl, rfl, HL, hbl⟩ := hrel
    have hj1 := needN_bd f j
    have hk1 := needN_bd f k
    have hkp := HS.out.1 k (by rw [← Hxn.out]; exact hk)
    by_cases hgo : needN f k ≤ needN f j
    · have hjn2 : j < n := by
        rcases Nat.lt_or_ge j n with h | h
        · exact h
        · exfalso
          have e : j = f.length := by rw [← Hxn.out]; omega
          have := HS.out.2
          rw [← e] at this
          omega
      have hkf : j < f.length := by rw [← Hxn.out]; exact hjn2
      obtain ⟨b, o, rfl, hb, g0, g1, g2, g3⟩ := RdNd.cells HV.out hkf
      have q0 := (hbl.cell (by exact hb)).trans g0
      have q1 := (hbl.cell (by exact hb)).trans g1
      have q2 := (hbl.cell (by exact hb)).trans g2
      have q3 := (hbl.cell (by exact hb)).trans g3
      have Hn1 : Hid (needN f (j + 1) = needN f j + (arity (ndnth f j).kind - 1)) := Lib.hid rfl
      have HL2 : Hid (∀ i, k ≤ i → i < j + 1 → needN f k ≤ needN f i) := Lib.hid (fun i h1 h2 => by
        by_cases e : i = j
        · rw [e]; exact hgo
        · exact HL.out i h1 (by omega))
      obtain ⟨Y, hY⟩ : ∃ Y, Y = ndnth f j := ⟨_, rfl⟩
      rw [← hY] at q0 q1 q2 q3 Hn1
      have hrb := arity_bd Y.kind
      obtain ⟨D, hD⟩ : ∃ D, D = needN f j - needN f k + 1 := ⟨_, rfl⟩
      have hD1 : 0 < D ∧ D ≤ 3000000 := by omega
      have HD : Hid (needN f (j + 1) - needN f k + 1 = D + (arity Y.kind - 1)) := Lib.hid (by rw [Hn1.out, hD]; omega)
      rw [← hD]
      have hDp := hD1.1
      have hDl := hD1.2
      clear hY g0 g1 g2 g3 hD hD1 hj1 hk1 hkp hgo
      go_wp2_with fail
      refine (operandsN_any Y.kind _ _ _ _).mono ?_
      rintro e w3 ⟨rfl, hb3⟩
      have hbl3 := below_trans' hbl hb3
      go_wp2_with fail
      go_roundw
      case rel => exact ⟨j + 1, by omega, by omega, by go_num, by rw [HD.out], HL2, hbl3⟩
      case measure => simp [intOf]; omega
    · have hkj2 : k < j := by
        rcases Nat.lt_or_ge k j with h | h
        · exact h
        · exact absurd (by rw [show j = k by omega]; exact Int.le_refl _) hgo
      have HE := Lib.hid (endN_is hkj2 (by rw [← Hxn.out]; exact hjn) (by omega) HL.out)
      obtain ⟨D, hD⟩ : ∃ D, D = needN f j - needN f k + 1 := ⟨_, rfl⟩
      have hD1 : ¬ 0 < D := by omega
      have hD2 : D ≤ 0 := by omega
      rw [← hD]
      clear hD hj1 hk1 hkp hgo
      go_wp2_with fail
      go_ret
      exact ⟨by rw [HE.out]; rfl, hbl⟩
set_option maxRecDepth 100000 in
set_option maxHeartbeats 1000000 in
theorem l19End_any (v : Value) (f : List Nd) (k : Nat) (w : World) (hn : f.length ≤ 1048576) (hs : shapeN f = true) (hkd : ∀ i, i < f.length → inR (ndnth f i).kind 0 8 = true) (hk : k < f.length) (hv : RdNd w v f) :
    Calls Tryz.prog 114 #[v, .int .i64 k] w fun e w' => e = .returned (.int .i64 (endN f k : Nat)) ∧ w = w' := by
  have HV := Lib.hid hv
  have HS := Lib.hid (shape_parts hs)
  have HK := Lib.hid hkd
  obtain ⟨a, cap, rfl, hcap, hm, hv⟩ := hv
  unfold maxLen at hm
  obtain ⟨n, hxn⟩ : ∃ n, n = f.length := ⟨_, rfl⟩
  rw [← hxn] at hcap HV hn hk ⊢
  have Hxn := Lib.hid hxn
  clear hxn hv hs hkd
  go_enter Tryz.func114, Tryz.ntmps114
  go_wp2_with fail
  go_loop [1, 5] (fun sk sn => ∃ j : Nat, k ≤ j ∧ j ≤ n ∧ sk = .int .i64 j ∧ sn = .int .i64 (needN f j - needN f k + 1) ∧ Hid (∀ i, k ≤ i → i < j → needN f k ≤ needN f i)) (fun sk _ => n + 1 - (intOf sk).toNat)
  case atStart => exact ⟨k, Nat.le_refl _, by omega, rfl, by congr 1; omega, Lib.hid (fun i h1 h2 => absurd h2 (by omega))⟩
  case round =>
    obtain ⟨j, hkj, hjn, rfl, rfl, HL⟩ := hrel
    have hj1 := needN_bd f j
    have hk1 := needN_bd f k
    have hkp := HS.out.1 k (by rw [← Hxn.out]; exact hk)
    by_cases hgo : needN f k ≤ needN f j
    · have hjn2 : j < n := by
        rcases Nat.lt_or_ge j n with h | h
        · exact h
        · exfalso
          have e : j = f.length := by rw [← Hxn.out]; omega
          have := HS.out.2
          rw [← e] at this
          omega
      have hkf : j < f.length := by rw [← Hxn.out]; exact hjn2
      obtain ⟨b, o, rfl, hb, q0, q1, q2, q3⟩ := RdNd.cells HV.out hkf
      have Hn1 : Hid (needN f (j + 1) = needN f j + (arity (ndnth f j).kind - 1)) := Lib.hid rfl
      have HL2 : Hid (∀ i, k ≤ i → i < j + 1 → needN f k ≤ needN f i) := Lib.hid (fun i h1 h2 => by
        by_cases e : i = j
        · rw [e]; exact hgo
        · exact HL.out i h1 (by omega))
      have hk8 := HK.out j hkf
      obtain ⟨Y, hY⟩ : ∃ Y, Y = ndnth f j := ⟨_, rfl⟩
      rw [← hY] at q0 q1 q2 q3 Hn1 hk8
      have hrb := arity_bd Y.kind
      obtain ⟨D, hD⟩ : ∃ D, D = needN f j - needN f k + 1 := ⟨_, rfl⟩
      have hD1 : 0 < D ∧ D ≤ 3000000 := by omega
      have HD : Hid (needN f (j + 1) - needN f k + 1 = D + (arity Y.kind - 1)) := Lib.hid (by rw [Hn1.out, hD]; omega)
      rw [← hD]
      have hDp := hD1.1
      have hDl := hD1.2
      clear hY hD hD1 hj1 hk1 hkp hgo
      go_wp2_with (go_at_call 113; refine (l14Arity_any _ _ hk8).mono ?_; rintro e w' ⟨rfl, rfl⟩)
      go_round
      case rel => exact ⟨j + 1, by omega, by omega, by go_num, by rw [HD.out], HL2⟩
      case measure => simp [intOf]; omega
    · have hkj2 : k < j := by
        rcases Nat.lt_or_ge k j with h | h
        · exact h
        · exact absurd (by rw [show j = k by omega]; exact Int.le_refl _) hgo
      have HE := Lib.hid (endN_is hkj2 (by rw [← Hxn.out]; exact hjn) (by omega) HL.out)
      obtain ⟨D, hD⟩ : ∃ D, D = needN f j - needN f k + 1 := ⟨_, rfl⟩
      have hD1 : ¬ 0 < D := by omega
      have hD2 : D ≤ 0 := by omega
      rw [← hD]
      clear hD hj1 hk1 hkp hgo
      go_wp2_with fail
      go_ret
      exact ⟨by rw [HE.out]; rfl, rfl⟩
def isFix (k : Int) : Bool := decide (k = 7) || decide (k = 8)
theorem isFixed_any (k v : Int) (l : ByteArray) (b : Bool) (w : World) :
    Calls Tryz.prog 147 #[.agg #[.int .i64 k, .int .i64 v, .string l, .bool b]] w fun e w' => e = .returned (.bool (isFix k)) ∧ Below w.heap.size w w' := by
  go_enter Tryz.func147, Tryz.ntmps147
  go_wp2_with fail
  all_goals
    go_ret
    refine ⟨?_, (Below.refl _ w).alloc (Nat.le_refl _) _⟩
    try congr 2
    try simp_all [isFix]
theorem l19Fixed_any (b o : Nat) (k : Int) (w : World) (h : w.cell? ⟨b, o, none⟩ = some (.int .i64 k)) :
    Calls Tryz.prog 69 #[.pointer (some ⟨b, o, none⟩)] w fun e w' => e = .returned (.bool (isFix k)) ∧ w = w' := by
  go_enter Tryz.func69, Tryz.ntmps69
  go_wp2_with fail
  all_goals
    go_ret
    refine ⟨?_, rfl⟩
    try congr 2
    try simp_all [isFix]
/-- Whether the i-th node binds the variable at k; the binder below j. -/
def bindP (f : List Nd) (k i : Nat) : Bool := isFix (ndnth f i).kind && decide ((ndnth f i).var = (ndnth f k).var) && decide (k < endN f i)
def bindTo (f : List Nd) (k : Nat) : Nat → Int
  | 0 => -1
  | i + 1 => if bindP f k i = true then (i : Int) else bindTo f k i
def bindN (f : List Nd) (k : Nat) : Int := bindTo f k k
theorem l19Fixed_b (b o : Nat) (k : Int) (r : Bool) (w : World) (n : Nat) (hr : isFix k = r) (h : w.cell? ⟨b, o, none⟩ = some (.int .i64 k)) :
    Calls Tryz.prog 69 #[.pointer (some ⟨b, o, none⟩)] (w.drewN n) fun e w' => e = .returned (.bool r) ∧ w' = w.drewN n :=
  (l19Fixed_any b o k (w.drewN n) h).mono fun e w' q => ⟨by rw [← hr]; exact q.1, q.2.symm⟩
theorem l19End_q (v : Value) (f : List Nd) (k : Nat) (w : World) (n : Nat) (hn : f.length ≤ 1048576) (hs : shapeN f = true) (hkd : ∀ i, i < f.length → inR (ndnth f i).kind 0 8 = true) (hk : k < f.length) (hv : RdNd w v f) :
    Calls Tryz.prog 114 #[v, .int .i64 k] (w.drewN n) fun e w' => e = .returned (.int .i64 (endN f k : Nat)) ∧ w' = w.drewN n :=
  (l19End_any v f k (w.drewN n) hn hs hkd hk (hv.below (below_drewN w n))).mono fun e w' q => ⟨q.1, q.2.symm⟩
theorem l19End_e (v : Value) (f : List Nd) (k E : Nat) (w : World) (n : Nat) (hE : E = endN f k) (hn : f.length ≤ 1048576) (hs : shapeN f = true) (hkd : ∀ i, i < f.length → inR (ndnth f i).kind 0 8 = true) (hk : k < f.length) (hv : RdNd w v f) :
    Calls Tryz.prog 114 #[v, .int .i64 k] (w.drewN n) fun e w' => e = .returned (.int .i64 (E : Nat)) ∧ w' = w.drewN n := by
  rw [hE]
  exact l19End_q v f k w n hn hs hkd hk hv
theorem endN_le (f : List Nd) (k : Nat) : endN f k ≤ f.length := by
  unfold endN
  rcases find_range (endP f k) (f.length + 1) with ⟨i, hi, hil, _, _⟩ | ⟨hi, _⟩
  · rw [hi]; simp only [Option.getD_some]; omega
  · rw [hi]; exact Nat.le_refl _
set_option maxRecDepth 100000 in
set_option maxHeartbeats 1000000 in
theorem l19Binder_any (v : Value) (f : List Nd) (k : Nat) (w : World) (hn : f.length ≤ 1048576) (hs : shapeN f = true) (hkd : ∀ i, i < f.length → inR (ndnth f i).kind 0 8 = true) (hk : k < f.length) (hv : RdNd w v f) :
    Calls Tryz.prog 70 #[v, .int .i64 k] w fun e w' => e = .returned (.int .i64 (bindN f k)) ∧ Below w.heap.size w w' := by
  have HV := Lib.hid hv
  have HS := Lib.hid hs
  have HK := Lib.hid hkd
  have HKl := Lib.hid hk
  obtain ⟨a, cap, rfl, hcap, hm, hv⟩ := hv
  unfold maxLen at hm
  obtain ⟨n, hxn⟩ : ∃ n, n = f.length := ⟨_, rfl⟩
  rw [← hxn] at hcap HV hn hk ⊢
  have Hxn := Lib.hid hxn
  clear hxn hv hs hkd
  go_enter Tryz.func70, Tryz.ntmps70
  go_wp2_with fail
  go_loopw [5] (fun si wr => ∃ j : Nat, j ≤ k ∧ si = .int .i64 ((j : Int) - 1) ∧ Hid (bindN f k = bindTo f k j) ∧ Below w.heap.size w wr) (fun si _ => (intOf si + 1).toNat)
  case atStart => exact ⟨k, Nat.le_refl _, rfl, Lib.hid rfl, Below.refl _ _⟩
  case round =>
    obtain ⟨j, hj, rfl, HL, hbl⟩ := hrel
    by_cases hj0 : 0 < j
    · obtain ⟨i, rfl⟩ : ∃ i, j = i + 1 := ⟨j - 1, by omega⟩
      have hi1 : (((i + 1 : Nat) : Int) - 1) = (i : Int) := by omega
      rw [hi1]
      have hkf : i < f.length := by rw [← Hxn.out]; omega
      have HVr := Lib.hid (HV.out.below hbl)
      obtain ⟨b, o, rfl, hb, q0, q1, q2, q3⟩ := RdNd.cells HVr.out hkf
      obtain ⟨b', o', he, hb', _, r1, _, _⟩ := RdNd.cells HVr.out HKl.out
      cases he
      have hin : i < n := by omega
      have Hst : Hid (bindTo f k (i + 1) = if bindP f k i = true then (i : Int) else bindTo f k i) := Lib.hid rfl
      have HP : Hid (bindP f k i = (isFix (ndnth f i).kind && decide ((ndnth f i).var = (ndnth f k).var) && decide (k < endN f i))) := Lib.hid rfl
      have hel := endN_le f i
      rw [← Hxn.out] at hel
      obtain ⟨Y, hY⟩ : ∃ Y, Y = ndnth f i := ⟨_, rfl⟩
      obtain ⟨Z, hZ⟩ : ∃ Z, Z = ndnth f k := ⟨_, rfl⟩
      obtain ⟨E, hE⟩ : ∃ E, E = endN f i := ⟨_, rfl⟩
      rw [← hY] at q0 q1 q2 q3
      rw [← hZ] at r1
      rw [← hY, ← hZ, ← hE] at HP
      rw [← hE] at hel
      have HE := Lib.hid hE
      have HN : Hid (bindP f k i = false → bindN f k = bindTo f k i) := Lib.hid (fun h => by rw [HL.out, Hst.out, h]; rfl)
      have HF : Hid (bindP f k i = true → bindN f k = (i : Int)) := Lib.hid (fun h => by rw [HL.out, Hst.out, if_pos h])
      clear hY hZ hE hi1
      cases hfx : isFix Y.kind with
      | false =>
        have HX := Lib.hid (HN.out (by rw [HP.out, hfx]; rfl))
        go_wp2_with fail
        go_quiet (first | (go_at_call 69; exact Calls.quiet_of_same (l19Fixed_b _ _ Y.kind false wr _ hfx q0)) | (go_at_call 114; exact Calls.quiet_of_same (l19End_e _ f i E wr _ HE.out (by rw [← Hxn.out]; exact hn) HS.out HK.out hkf HVr.out)))
        have hblq := below_trans' hbl (below_drewN wr nq)
        go_wp2_with fail
        go_roundw
        case rel => exact ⟨i, by omega, rfl, HX, hblq⟩
        case measure => simp [intOf] <;> omega
      | true =>
        by_cases hvv : Y.var = Z.var
        · have hvb : (Y.var == Z.var) = true := by simpa using hvv
          by_cases hkE : k < E
          · have HX := Lib.hid (HF.out (by rw [HP.out, hfx, decide_eq_true hvv, decide_eq_true hkE]; rfl))
            have hkEi : (k : Int) < (E : Int) := by omega
            have Hvv := Lib.hid hvv
            clear hvv
            go_wp2_with fail
            go_quiet (first | (go_at_call 69; exact Calls.quiet_of_same (l19Fixed_b _ _ Y.kind true wr _ hfx q0)) | (go_at_call 114; exact Calls.quiet_of_same (l19End_e _ f i E wr _ HE.out (by rw [← Hxn.out]; exact hn) HS.out HK.out hkf HVr.out)))
            have hblq := below_trans' hbl (below_drewN wr nq)
            go_wp2_with fail
            go_ret
            exact ⟨by rw [HX.out]; rfl, hblq⟩
          · have HX := Lib.hid (HN.out (by rw [HP.out, decide_eq_false hkE, Bool.and_false]))
            have hkEi : ¬ (k : Int) < (E : Int) := by omega
            have hkEb : decide ((k : Int) < (E : Int)) = false := decide_eq_false hkEi
            have Hvv := Lib.hid hvv
            clear hvv
            go_wp2_with fail
            go_quiet (first | (go_at_call 69; exact Calls.quiet_of_same (l19Fixed_b _ _ Y.kind true wr _ hfx q0)) | (go_at_call 114; exact Calls.quiet_of_same (l19End_e _ f i E wr _ HE.out (by rw [← Hxn.out]; exact hn) HS.out HK.out hkf HVr.out)))
            have hblq := below_trans' hbl (below_drewN wr nq)
            go_wp2_with fail
            go_roundw
            case rel => exact ⟨i, by omega, rfl, HX, hblq⟩
            case measure => simp [intOf] <;> omega
        · have hvb : (Y.var == Z.var) = false := by simpa using hvv
          have HX := Lib.hid (HN.out (by rw [HP.out, decide_eq_false hvv, Bool.and_false]; rfl))
          go_wp2_with fail
          go_quiet (first | (go_at_call 69; exact Calls.quiet_of_same (l19Fixed_b _ _ Y.kind true wr _ hfx q0)) | (go_at_call 114; exact Calls.quiet_of_same (l19End_e _ f i E wr _ HE.out (by rw [← Hxn.out]; exact hn) HS.out HK.out hkf HVr.out)))
          have hblq := below_trans' hbl (below_drewN wr nq)
          go_wp2_with fail
          go_roundw
          case rel => exact ⟨i, by omega, rfl, HX, hblq⟩
          case measure => simp [intOf] <;> omega
    · obtain rfl : j = 0 := by omega
      have HX : Hid (bindN f k = -1) := Lib.hid (by rw [HL.out]; rfl)
      have hz : (((0 : Nat) : Int) - 1) = -1 := by omega
      rw [hz]
      go_wp2_with fail
      go_ret
      exact ⟨by rw [HX.out]; rfl, hbl⟩
end Go.Proofs.YtcakmchefbohoaaGreatDoor
