/- Contracts: CanonicalFormula, of the program and of the reference. -/
import Derived.Test.YtpnihgcckbaigaaGreatDoorProg
import Derived.Test.YtpnihgcckbaigaaGreatDoorMem
import Derived.Test.YtpnihgcckbaigaaGreatDoorMath
import Derived.Test.YtpnihgcckbaigaaGreatDoorBasics
import Derived.Test.YtpnihgcckbaigaaGreatDoorOpenI
import Derived.Test.YtpnihgcckbaigaaGreatDoorHelpI
import Derived.Test.YtpnihgcckbaigaaGreatDoorGrid
import Derived.Test.YtpnihgcckbaigaaGreatDoorLab
import Derived.Test.YtpnihgcckbaigaaGreatDoorDec
import Derived.Test.YtpnihgcckbaigaaGreatDoorEnv
import Derived.Test.YtpnihgcckbaigaaGreatDoorNode
import Derived.Test.YtpnihgcckbaigaaGreatDoorNodeW
import Derived.Test.YtpnihgcckbaigaaGreatDoorVMod
import Derived.Test.YtpnihgcckbaigaaGreatDoorEnd
import Derived.Test.YtpnihgcckbaigaaGreatDoorBind
import Derived.Test.YtpnihgcckbaigaaGreatDoorVFor
import Derived.Test.YtpnihgcckbaigaaGreatDoorConc
import Derived.Test.YtpnihgcckbaigaaGreatDoorNds
import Derived.Test.YtpnihgcckbaigaaGreatDoorFreq
import Derived.Test.YtpnihgcckbaigaaGreatDoorInst
import Derived.Test.YtpnihgcckbaigaaGreatDoorMark
import Derived.Test.YtpnihgcckbaigaaGreatDoorDual
import Derived.Test.YtpnihgcckbaigaaGreatDoorUnf
import Derived.WalkKit
import Derived.BigQuiet
import Derived.Maps.AppendAt
import Derived.Laws.OwnMore
import Derived.Lib.Hide
import Derived.Outline
set_option linter.unusedVariables false
set_option linter.unusedSimpArgs false
namespace Go.Proofs.YtpnihgcckbaigaaGreatDoor
open Go.RowKit

theorem OwNd_zero (w : World) (base : Nat) : OwNd w base (.slice none 0 0) [] := ⟨none, 0, rfl, Nat.le_refl _, Nat.zero_le _, fun h => absurd h (by simp)⟩
def lvAt (f : List Nd) (k i : Nat) : Bool := isFix (ndnth f i).kind && decide (k < endN f i)
def lvTo (f : List Nd) (k : Nat) : Nat → Nat
  | 0 => 0
  | i + 1 => lvTo f k i + (if lvAt f k i = true then 1 else 0)
def lv (f : List Nd) (k : Nat) : Nat := lvTo f k k
theorem lvTo_le (f : List Nd) (k : Nat) : ∀ i, lvTo f k i ≤ i
  | 0 => Nat.le_refl _
  | i + 1 => by
    rw [lvTo]
    have := lvTo_le f k i
    split <;> omega
def cvAt (f : List Nd) (k : Nat) : Int := if isFix (ndnth f k).kind = true then (lv f k : Int) else if (ndnth f k).kind = 6 then (lv f (bindN f k).toNat : Int) else (ndnth f k).var
def canN (f : List Nd) (k : Nat) : Nd := ⟨(ndnth f k).kind, cvAt f k, (ndnth f k).lab, (ndnth f k).neg⟩
def canL (f : List Nd) : List Nd := (List.range f.length).map (canN f)
theorem canL_len (f : List Nd) : (canL f).length = f.length := by simp [canL]
theorem ndnth_can (f : List Nd) (i : Nat) (h : i < f.length) : ndnth (canL f) i = canN f i := by simp [ndnth, canL, h]
def cmix (f : List Nd) (k : Nat) (i : Nat) : Value := if i < k * 4 then ndc (canL f) i else ndc f i
def okAt (f : List Nd) (k : Nat) : Bool := !isFix (ndnth f k).kind || decide (lv f k < 3)
def canC (f : List Nd) : Int := if validF f = true then (if (decide (∀ k, k < f.length → okAt f k = true)) = true then 0 else 5) else 1
def canO (f : List Nd) : List Nd := if canC f = 0 then canL f else []
theorem canO_len (f : List Nd) : (canO f).length ≤ 30 := by
  unfold canO
  split
  · next h =>
    unfold canC at h
    split at h
    · next h2 => rw [canL_len]; exact validF_len h2
    · cases h
  · simp
theorem bindTo_fix {f : List Nd} {k i : Nat} : ∀ j, bindTo f k j = (i : Int) → i < j ∧ isFix (ndnth f i).kind = true
  | 0, h => by simp [bindTo] at h
  | j + 1, h => by
    rw [bindTo] at h
    split at h
    · next hp =>
      have : j = i := by omega
      subst this
      unfold bindP at hp
      simp only [Bool.and_eq_true] at hp
      exact ⟨by omega, hp.1.1⟩
    · have := bindTo_fix j h
      exact ⟨by omega, this.2⟩
theorem validF_node {f : List Nd} (h : validF f = true) {k : Nat} (hk : k < f.length) : boundB (ndnth f k) = true ∧ bindB f k = true := by
  unfold validF at h
  simp only [Bool.and_eq_true, decide_eq_true_eq] at h
  have h2 := h.2 k hk
  unfold nodeF at h2
  simp only [Bool.and_eq_true] at h2
  exact ⟨h2.1.2, h2.2⟩
theorem validF_bind {f : List Nd} (h : validF f = true) {k : Nat} (hk : k < f.length) (h6 : (ndnth f k).kind = 6) : ∃ j : Nat, bindN f k = (j : Int) ∧ j < k ∧ isFix (ndnth f j).kind = true := by
  have h2 := (validF_node h hk).2
  unfold bindB at h2
  rw [decide_eq_true h6] at h2
  have h3 : ¬ bindN f k < 0 := by simpa using h2
  obtain ⟨j, hj⟩ := Int.eq_ofNat_of_zero_le (show 0 ≤ bindN f k by omega)
  have := bindTo_fix (f := f) (k := k) (i := j) k hj
  exact ⟨j, hj, this.1, this.2⟩
theorem validF_var {f : List Nd} (h : validF f = true) {k : Nat} (hk : k < f.length) (h1 : isFix (ndnth f k).kind = false) (h6 : (ndnth f k).kind ≠ 6) : (ndnth f k).var = 0 := by
  have h2 := (validF_node h hk).1
  unfold boundB at h2
  rw [h1, decide_eq_false h6] at h2
  simpa using h2
theorem cmix_put {f : List Nd} {k : Nat} (hk : k < f.length) (i : Nat) : cmix f (k + 1) i = if i = k * 4 + 1 then .int .i64 (cvAt f k) else cmix f k i := by
  unfold cmix
  by_cases h1 : i = k * 4 + 1
  · rw [if_pos (by omega), if_pos h1, h1, ndc_at _ k 1 (by decide), ndnth_can f k hk]; rfl
  · rw [if_neg h1]
    by_cases h4 : i < k * 4
    · rw [if_pos (by omega), if_pos h4]
    · rw [if_neg h4]
      by_cases h5 : i < (k + 1) * 4
      · rw [if_pos h5]
        obtain ⟨j, hj, hj0, rfl⟩ : ∃ j, j < 4 ∧ j ≠ 1 ∧ i = k * 4 + j := ⟨i - k * 4, by omega, by omega, by omega⟩
        rw [ndc_at _ k j hj, ndc_at _ k j hj, ndnth_can f k hk]
        unfold ndv canN
        rcases (show j = 0 ∨ j = 2 ∨ j = 3 by omega) with rfl | rfl | rfl <;> rfl
      · rw [if_neg h5]
theorem cmix_same {f : List Nd} {k : Nat} (hk : k < f.length) (h : cvAt f k = (ndnth f k).var) (i : Nat) : cmix f (k + 1) i = cmix f k i := by
  rw [cmix_put hk]
  by_cases h1 : i = k * 4 + 1
  · rw [if_pos h1, h1, h]
    unfold cmix
    rw [if_neg (by omega), ndc_at _ k 1 (by decide)]; rfl
  · rw [if_neg h1]
theorem cmix_var {f : List Nd} {k : Nat} (hk : k < f.length) : cmix f k (k * 4 + 1) = .int .i64 (ndnth f k).var := by
  unfold cmix
  rw [if_neg (by omega), ndc_at _ k 1 (by decide)]; rfl
theorem cmix_done {f : List Nd} {k j : Nat} (hj : j < k) (hk : k ≤ f.length) : cmix f k (j * 4 + 1) = .int .i64 (cvAt f j) := by
  unfold cmix
  rw [if_pos (by omega), ndc_at _ j 1 (by decide), ndnth_can f j (by omega)]; rfl
set_option maxRecDepth 100000 in
set_option maxHeartbeats 2000000 in
theorem l19Level_any (v : Value) (f : List Nd) (k : Nat) (w : World) (hn : f.length ≤ 1048576) (hs : shapeN f = true) (hkd : ∀ i, i < f.length → inR (ndnth f i).kind 0 8 = true) (hkf : k < f.length) (hv : RdNd w v f) :
    Calls Tryz.prog 14 #[v, .int .i64 k] w fun e w' => e = .returned (.int .i64 (lv f k : Nat)) ∧ w = w' := by
  have HV := Lib.hid hv
  have HS := Lib.hid hs
  have HK := Lib.hid hkd
  obtain ⟨a, cap, rfl, hcap, hcm, _⟩ := hv
  unfold maxLen at hcm
  obtain ⟨n, hxn⟩ : ∃ n, n = f.length := ⟨_, rfl⟩
  rw [← hxn] at hcap HV ⊢
  have Hxn := Lib.hid hxn
  have hkn : k < n := by omega
  have hnm : n ≤ 1048576 := by omega
  have HLe := Lib.hid (lvTo_le f k)
  clear hxn hs hkd
  go_enter Tryz.func14, Tryz.ntmps14
  go_wp2_with fail
  go_loop [5, 6] (fun so si => ∃ i : Nat, i ≤ k ∧ si = .int .i64 i ∧ so = .int .i64 ((lvTo f k i : Nat) : Int)) (fun _ si => k - (intOf si).toNat)
  case atStart => exact ⟨0, Nat.zero_le _, rfl, rfl⟩
  case round =>
    obtain ⟨i, hi, rfl, rfl⟩ := hrel
    have hMl := HLe.out i
    have HA : Hid (lvTo f k (i + 1) = lvTo f k i + (if lvAt f k i = true then 1 else 0)) := Lib.hid rfl
    have HP : Hid (lvAt f k i = (isFix (ndnth f i).kind && decide (k < endN f i))) := Lib.hid rfl
    obtain ⟨M, hM⟩ : ∃ M, M = lvTo f k i := ⟨_, rfl⟩
    rw [← hM] at HA hMl ⊢
    have HM := Lib.hid hM
    clear hM
    by_cases hik : i < k
    · have hif : i < f.length := by omega
      have hin : i < n := by omega
      obtain ⟨b, o, rfl, hb, g0, _, _, _⟩ := RdNd.cells HV.out hif
      obtain ⟨Y, hY⟩ : ∃ Y, Y = ndnth f i := ⟨_, rfl⟩
      obtain ⟨E, hE⟩ : ∃ E, E = endN f i := ⟨_, rfl⟩
      have hel := endN_le f i
      rw [← hE] at hel HP
      rw [← hY] at g0 HP
      have HE := Lib.hid hE
      clear hY hE
      cases hfx : isFix Y.kind with
      | false =>
        have HA2 : Hid (lvTo f k (i + 1) = M) := Lib.hid (by rw [HA.out, HP.out, hfx]; rfl)
        go_wp2_with fail
        refine (l19Fixed_any _ _ Y.kind _ g0).mono ?_
        rw [hfx]
        rintro e w' ⟨rfl, rfl⟩
        go_wp2_with fail
        go_round
        case rel => exact ⟨i + 1, by omega, by go_num, by rw [HA2.out]⟩
        case measure => simp [intOf] <;> omega
      | true =>
        by_cases hke : k < E
        · have HA2 : Hid (lvTo f k (i + 1) = M + 1) := Lib.hid (by rw [HA.out, HP.out, hfx, decide_eq_true hke]; rfl)
          have hkd : decide ((k : Int) < (E : Int)) = true := decide_eq_true (by omega)
          go_wp2_with fail
          refine (l19Fixed_any _ _ Y.kind _ g0).mono ?_
          rw [hfx]
          rintro e w' ⟨rfl, rfl⟩
          go_wp2_with fail
          refine (l19End_any _ f i _ hn HS.out HK.out hif HV.out).mono ?_
          rw [← HE.out]
          rintro e w' ⟨rfl, rfl⟩
          go_wp2_with fail
          go_round
          case rel => exact ⟨i + 1, by omega, by go_num, by rw [HA2.out] <;> go_num⟩
          case measure => simp [intOf] <;> omega
        · have HA2 : Hid (lvTo f k (i + 1) = M) := Lib.hid (by rw [HA.out, HP.out, hfx, decide_eq_false hke]; rfl)
          have hkd : decide ((k : Int) < (E : Int)) = false := decide_eq_false (by omega)
          go_wp2_with fail
          refine (l19Fixed_any _ _ Y.kind _ g0).mono ?_
          rw [hfx]
          rintro e w' ⟨rfl, rfl⟩
          go_wp2_with fail
          refine (l19End_any _ f i _ hn HS.out HK.out hif HV.out).mono ?_
          rw [← HE.out]
          rintro e w' ⟨rfl, rfl⟩
          go_wp2_with fail
          go_round
          case rel => exact ⟨i + 1, by omega, by go_num, by rw [HA2.out]⟩
          case measure => simp [intOf] <;> omega
    · obtain rfl : i = k := by omega
      have HR : Hid (lv f i = M) := Lib.hid (by unfold lv; rw [← HM.out])
      go_wp2_with fail
      go_ret
      exact ⟨by rw [HR.out]; rfl, rfl⟩
set_option maxRecDepth 100000 in
set_option maxHeartbeats 4000000 in
theorem CanonicalFormula_any (v : Value) (f : List Nd) (w : World) (hn : f.length ≤ 1048576) (hls : ∀ i, i < f.length → (ndnth f i).lab.size ≤ 1048576) (hT : Env w) (hv : RdNd w v f) :
    Calls Tryz.prog 7 #[v] w fun e w' => ∃ u, e = .returned (.tuple #[u, .int .i64 (canC f)]) ∧ OwNd w' w.heap.size u (canO f) ∧ Below w.heap.size w w' := by
  have HV := Lib.hid hv
  have HT := Lib.hid hT
  clear hT
  obtain ⟨a, cap, rfl, hcap, hcm, _⟩ := hv
  unfold maxLen at hcm
  obtain ⟨n, hxn⟩ : ∃ n, n = f.length := ⟨_, rfl⟩
  rw [← hxn] at hcap HV ⊢
  have Hxn := Lib.hid hxn
  cases hvm : validF f with
  | false =>
    have hC : Hid (canC f = 1) := Lib.hid (by unfold canC; rw [hvm]; rfl)
    have hM : Hid (canO f = []) := Lib.hid (by unfold canO; rw [hC.out]; rfl)
    rw [hM.out, hC.out]
    clear hxn
    go_enter Tryz.func7, Tryz.ntmps7
    go_wp2_with fail
    refine (ValidFormula_any _ f _ hn hls HT.out HV.out).mono ?_
    rw [hvm]
    rintro e w1 ⟨rfl, hb1⟩
    go_wp2_with fail
    go_ret2
    exact ⟨_, rfl, OwNd_zero _ _, hb1⟩
  | true =>
  obtain ⟨hp1, hp2, hp3, hp4⟩ := validF_parts hvm
  have HS := Lib.hid hp3
  have HK := Lib.hid hp4
  have HVm := Lib.hid hvm
  have HNo : Hid (∀ k, k < f.length → okAt f k = false → canC f = 5 ∧ canO f = []) := Lib.hid (fun k hk h => by
    have e : canC f = 5 := by
      unfold canC
      rw [hvm, decide_eq_false (fun h2 => by have := h2 k hk; rw [h] at this; cases this)]; rfl
    exact ⟨e, by unfold canO; rw [e]; rfl⟩)
  have HYes : Hid ((∀ k, k < f.length → okAt f k = true) → canC f = 0 ∧ canO f = canL f) := Lib.hid (fun h => by
    have e : canC f = 0 := by unfold canC; rw [hvm, decide_eq_true h]; rfl
    exact ⟨e, by unfold canO; rw [e]; rfl⟩)
  have hn1 : 1 ≤ n := by omega
  have hn30 : n ≤ 30 := by omega
  clear hxn hp1 hp2 hp3 hp4
  go_enter Tryz.func7, Tryz.ntmps7
  go_wp2_with fail
  refine (ValidFormula_any _ f _ hn hls HT.out HV.out).mono ?_
  rw [hvm]
  rintro e w1 ⟨rfl, hb1⟩
  go_wp2_with fail
  refine (cloneNd_any _ f _ hn (HV.out.below hb1)).mono ?_
  rintro e w2 ⟨u, rfl, hu, hb2⟩
  have hbl0 := below_trans' hb1 hb2
  have HI := Lib.hid (hu.mono hb1.size).inn
  clear hu
  obtain ⟨a1, c1, rfl⟩ := RdNd.slice HI.out.rd
  rw [← Hxn.out] at HI ⊢
  obtain ⟨H1, hH⟩ : ∃ H1, H1 = w2.heap.size := ⟨_, rfl⟩
  rw [← hH] at HI
  clear hH
  go_wp2_with fail
  go_loopw [16] (fun si wr => ∃ k : Nat, k ≤ n ∧ si = .int .i64 k ∧ Hid (In wr w.heap.size H1 4 (.slice a1 n c1) n (cmix f k)) ∧ Hid (∀ j, j < k → okAt f j = true) ∧ Below w.heap.size w wr) (fun si _ => n - (intOf si).toNat)
  case atStart => exact ⟨0, Nat.zero_le _, rfl, Lib.hid (In_same HI.out fun i _ => by unfold cmix; rw [if_neg (by omega)]), Lib.hid (fun j h => absurd h (by omega)), hbl0⟩
  case round =>
    clear hbl0 HI
    obtain ⟨k, hk, rfl, HI, HL, hbl⟩ := hrel
    by_cases hlt : k < n
    · have hkf : k < f.length := by rw [← Hxn.out]; exact hlt
      obtain ⟨b1, o1, rfl⟩ := HI.out.base (by omega)
      obtain ⟨b, o, rfl, hb, g0, g1, g2, g3⟩ := RdNd.cells HV.out hkf
      have q0 := (hbl.cell (by exact hb)).trans g0
      have q1 := (hbl.cell (by exact hb)).trans g1
      have q2 := (hbl.cell (by exact hb)).trans g2
      have q3 := (hbl.cell (by exact hb)).trans g3
      have HNx : Hid (okAt f k = true → ∀ j, j < k + 1 → okAt f j = true) := Lib.hid fun h => next_all HL.out h
      have HNk := Lib.hid (HNo.out k hkf)
      have HOk : Hid (okAt f k = (!isFix (ndnth f k).kind || decide (lv f k < 3))) := Lib.hid rfl
      have HCv : Hid (cvAt f k = if isFix (ndnth f k).kind = true then (lv f k : Int) else if (ndnth f k).kind = 6 then (lv f (bindN f k).toNat : Int) else (ndnth f k).var) := Lib.hid rfl
      have HBi : Hid ((ndnth f k).kind = 6 → ∃ j : Nat, bindN f k = (j : Int) ∧ j < k ∧ isFix (ndnth f j).kind = true) := Lib.hid fun h => validF_bind HVm.out hkf h
      have HVa : Hid (isFix (ndnth f k).kind = false → (ndnth f k).kind ≠ 6 → (ndnth f k).var = 0) := Lib.hid fun h1 h2 => validF_var HVm.out hkf h1 h2
      have HSm : Hid (cvAt f k = (ndnth f k).var → ∀ i, cmix f (k + 1) i = cmix f k i) := Lib.hid fun h => cmix_same hkf h
      have HPt : Hid (∀ i, cmix f (k + 1) i = if i = k * 4 + 1 then .int .i64 (cvAt f k) else cmix f k i) := Lib.hid (cmix_put hkf)
      have HCk : Hid (cmix f k (k * 4 + 1) = .int .i64 (ndnth f k).var) := Lib.hid (cmix_var hkf)
      have hlvl := lvTo_le f k k
      obtain ⟨Y, hY⟩ : ∃ Y, Y = ndnth f k := ⟨_, rfl⟩
      obtain ⟨L, hL⟩ : ∃ L, L = lv f k := ⟨_, rfl⟩
      have hLl : L ≤ k := by rw [hL]; exact hlvl
      rw [← hY] at q0 q1 q2 q3 HOk HCv HBi HVa HSm HCk
      rw [← hL] at HOk HCv
      have HLv := Lib.hid hL
      clear hY hL g0 g1 g2 g3 hlvl
      obtain ⟨cs, hcs⟩ : ∃ cs : Array Value, cs = #[.int .i64 Y.kind, .int .i64 Y.var, .string Y.lab, .bool Y.neg] := ⟨_, rfl⟩
      have hbA : Below wr.heap.size wr (wr.alloc (.cells cs 37)) := (Below.refl _ _).alloc (Nat.le_refl _) _
      have hltA : wr.heap.size < (wr.alloc (.cells cs 37)).heap.size := by simp
      have c0 : (wr.alloc (.cells cs 37)).cell? ⟨wr.heap.size, 0, none⟩ = some (.int .i64 Y.kind) := by rw [cell_of_row _ _ _ _ _ _ (heap_alloc_new wr _), hcs]; rfl
      rw [hcs] at hbA hltA c0
      clear hcs
      have hblA := below_trans' hbl hbA
      have HIA := Lib.hid (HI.out.stayed hbA)
      clear hbA
      cases hfx : isFix Y.kind with
      | true =>
        have HC2 : Hid (cvAt f k = (L : Int)) := Lib.hid (by rw [HCv.out, hfx]; rfl)
        go_wp2_with fail
        refine (isFixed_any Y.kind _ _ _ _).mono ?_
        rw [hfx]
        rintro e w3 ⟨rfl, hb3⟩
        have hbl3 := below_trans' hblA hb3
        have HI3 := Lib.hid (HIA.out.stayed hb3)
        have HLe := Lib.hid (lvTo_le f k)
        clear c0 hb3 hblA hbl q0 q1 q2 q3 HIA HI
        go_wp2_with fail
        go_loopw [7, 25] (fun so si wx => ∃ i : Nat, i ≤ k ∧ si = .int .i64 i ∧ so = .int .i64 ((lvTo f k i : Nat) : Int) ∧ Hid (In wx w.heap.size H1 4 (.slice (some ⟨b1, o1, none⟩) n c1) n (cmix f k)) ∧ Below w.heap.size w wx) (fun _ si _ => k - (intOf si).toNat)
        case atStart => exact ⟨0, Nat.zero_le _, rfl, rfl, HI3, hbl3⟩
        case round =>
          clear hbl3 HI3
          obtain ⟨i, hi, rfl, rfl, HI, hbl⟩ := hrel
          have hMl := HLe.out i
          have HA : Hid (lvTo f k (i + 1) = lvTo f k i + (if lvAt f k i = true then 1 else 0)) := Lib.hid rfl
          have HP : Hid (lvAt f k i = (isFix (ndnth f i).kind && decide (k < endN f i))) := Lib.hid rfl
          obtain ⟨M, hM⟩ : ∃ M, M = lvTo f k i := ⟨_, rfl⟩
          rw [← hM] at HA hMl ⊢
          have HM := Lib.hid hM
          clear hM
          by_cases hik : i < k
          · have hif : i < f.length := by omega
            have hin : i < n := by omega
            obtain ⟨b', o', he, hb', g0, g1, g2, g3⟩ := RdNd.cells HV.out hif
            cases he
            have q0 := (hbl.cell (by exact hb')).trans g0
            have q1 := (hbl.cell (by exact hb')).trans g1
            have q2 := (hbl.cell (by exact hb')).trans g2
            have q3 := (hbl.cell (by exact hb')).trans g3
            obtain ⟨Z, hZ⟩ : ∃ Z, Z = ndnth f i := ⟨_, rfl⟩
            obtain ⟨E, hE⟩ : ∃ E, E = endN f i := ⟨_, rfl⟩
            have hel := endN_le f i
            rw [← hE] at hel HP
            rw [← hZ] at q0 q1 q2 q3 HP
            have HE := Lib.hid hE
            clear hZ hE g0 g1 g2 g3
            cases hfz : isFix Z.kind with
            | false =>
              have HA2 : Hid (lvTo f k (i + 1) = M) := Lib.hid (by rw [HA.out, HP.out, hfz]; rfl)
              go_wp2_with fail
              refine (isFixed_any Z.kind _ _ _ _).mono ?_
              rw [hfz]
              rintro e w4 ⟨rfl, hb4⟩
              have hbl4 := below_trans' hbl hb4
              have HI4 := Lib.hid (HI.out.stayed hb4)
              go_wp2_with fail
              go_roundw
              case rel => exact ⟨i + 1, by omega, by go_num, by rw [HA2.out] <;> go_num, HI4, hbl4⟩
              case measure => simp [intOf] <;> omega
            | true =>
              by_cases hke : k < E
              · have HA2 : Hid (lvTo f k (i + 1) = M + 1) := Lib.hid (by rw [HA.out, HP.out, hfz, decide_eq_true hke]; rfl)
                have hkd : decide ((k : Int) < (E : Int)) = true := decide_eq_true (by omega)
                go_wp2_with fail
                refine (isFixed_any Z.kind _ _ _ _).mono ?_
                rw [hfz]
                rintro e w4 ⟨rfl, hb4⟩
                have hbl4 := below_trans' hbl hb4
                have HI4 := Lib.hid (HI.out.stayed hb4)
                go_wp2_with fail
                refine (formulaEnd_e _ f i E _ HE.out hn HS.out hif (HV.out.below hbl4)).mono ?_
                rintro e w5 ⟨rfl, hb5⟩
                have hbl5 := below_trans' hbl4 hb5
                have HI5 := Lib.hid (HI4.out.stayed hb5)
                go_wp2_with fail
                go_roundw
                case rel => exact ⟨i + 1, by omega, by go_num, by rw [HA2.out] <;> go_num, HI5, hbl5⟩
                case measure => simp [intOf] <;> omega
              · have HA2 : Hid (lvTo f k (i + 1) = M) := Lib.hid (by rw [HA.out, HP.out, hfz, decide_eq_false hke]; rfl)
                have hkd : decide ((k : Int) < (E : Int)) = false := decide_eq_false (by omega)
                go_wp2_with fail
                refine (isFixed_any Z.kind _ _ _ _).mono ?_
                rw [hfz]
                rintro e w4 ⟨rfl, hb4⟩
                have hbl4 := below_trans' hbl hb4
                have HI4 := Lib.hid (HI.out.stayed hb4)
                go_wp2_with fail
                refine (formulaEnd_e _ f i E _ HE.out hn HS.out hif (HV.out.below hbl4)).mono ?_
                rintro e w5 ⟨rfl, hb5⟩
                have hbl5 := below_trans' hbl4 hb5
                have HI5 := Lib.hid (HI4.out.stayed hb5)
                go_wp2_with fail
                go_roundw
                case rel => exact ⟨i + 1, by omega, by go_num, by rw [HA2.out] <;> go_num, HI5, hbl5⟩
                case measure => simp [intOf] <;> omega
          · have hiK : i = k := by omega
            have hML : M = L := by rw [HM.out, HLv.out, hiK]; rfl
            rw [hML]
            have hi2 : ¬ i < k := hik
            clear hML HM HA HP hMl
            by_cases h3 : L < 3
            · have HL2 := Lib.hid (HNx.out (by rw [HOk.out, decide_eq_true h3, Bool.or_true]))
              have hd : ¬ (3 : Int) ≤ (L : Int) := by omega
              obtain ⟨p0, z0, hl0, hh0, hs0⟩ := HI.out.at (k := k * 4 + 1) (p := ⟨b1, o1 + k * 4 + 1, none⟩) (by omega) (by rw [← Nat.add_assoc])
              rw [HCk.out] at p0
              have I1 := In_put HI.out (k := k * 4 + 1) (p := ⟨b1, o1 + k * 4 + 1, none⟩) (by omega) (by rw [← Nat.add_assoc]) (.int .i64 (L : Int))
              have HJ : Hid (In _ w.heap.size H1 4 (.slice (some ⟨b1, o1, none⟩) n c1) n (cmix f (k + 1))) := Lib.hid (In_same I1 fun i _ => by rw [HPt.out i, HC2.out])
              have hblS : Below w.heap.size w (wr.setCell ⟨b1, o1 + k * 4 + 1, none⟩ (.int .i64 (L : Int))) := hbl.setCell hl0 _
              clear I1
              go_wp2_with fail
              go_roundw
              case rel => exact ⟨k + 1, by omega, by go_num, HJ, HL2, hblS⟩
              case measure => simp [intOf] <;> omega
            · have HX := Lib.hid (HNk.out (by rw [HOk.out, hfx, decide_eq_false h3]; rfl))
              have hd : (3 : Int) ≤ (L : Int) := by omega
              go_wp2_with fail
              go_ret2
              rw [HX.out.1, HX.out.2]
              exact ⟨_, rfl, OwNd_zero _ _, hbl⟩
      | false =>
        have HL2 := Lib.hid (HNx.out (by rw [HOk.out, hfx]; rfl))
        by_cases h6 : Y.kind = 6
        · have hkb : (Y.kind == 6) = true := by simpa using h6
          obtain ⟨j, hj1, hj2, hj3⟩ := HBi.out h6
          have HC2 : Hid (cvAt f k = (lv f j : Int)) := Lib.hid (by rw [HCv.out, hfx, if_neg (by decide), if_pos h6, hj1]; rfl)
          have HDj : Hid (cmix f k (j * 4 + 1) = .int .i64 (lv f j : Int)) := Lib.hid (by
            rw [cmix_done hj2 (by omega)]
            unfold cvAt
            rw [if_pos hj3])
          obtain ⟨X, hX⟩ : ∃ X, X = lv f j := ⟨_, rfl⟩
          rw [← hX] at HC2 HDj
          have Hj1 := Lib.hid hj1
          have hjn : j < n := by omega
          clear h6 hj1 hj3 hX
          go_wp2_with fail
          refine (isFixed_any Y.kind _ _ _ _).mono ?_
          rw [hfx]
          rintro e w3 ⟨rfl, hb3⟩
          have hbl3 := below_trans' hblA hb3
          have HI3 := Lib.hid (HIA.out.stayed hb3)
          have d0 := (hb3.cell (by exact hltA)).trans c0
          clear c0 hb3 hblA hbl q0 q1 q2 q3 HIA HI
          go_wp2_with fail
          refine (binder_any _ f k _ hn HS.out hkf (HV.out.below hbl3)).mono ?_
          rw [Hj1.out]
          rintro e w4 ⟨rfl, hb4⟩
          have hbl4 := below_trans' hbl3 hb4
          have HI4 := Lib.hid (HI3.out.stayed hb4)
          obtain ⟨r0, y0, _⟩ := HI4.out.at (k := j * 4 + 1) (p := ⟨b1, o1 + j * 4 + 1, none⟩) (by omega) (by rw [← Nat.add_assoc])
          rw [HDj.out] at r0
          obtain ⟨p0, z0, hl0, hh0, hs0⟩ := HI4.out.at (k := k * 4 + 1) (p := ⟨b1, o1 + k * 4 + 1, none⟩) (by omega) (by rw [← Nat.add_assoc])
          rw [HCk.out] at p0
          have I1 := In_put HI4.out (k := k * 4 + 1) (p := ⟨b1, o1 + k * 4 + 1, none⟩) (by omega) (by rw [← Nat.add_assoc]) (.int .i64 (X : Int))
          have HJ : Hid (In _ w.heap.size H1 4 (.slice (some ⟨b1, o1, none⟩) n c1) n (cmix f (k + 1))) := Lib.hid (In_same I1 fun i _ => by rw [HPt.out i, HC2.out])
          have hblS : Below w.heap.size w (w4.setCell ⟨b1, o1 + k * 4 + 1, none⟩ (.int .i64 (X : Int))) := hbl4.setCell hl0 _
          clear I1
          go_wp2_with fail
          go_roundw
          case rel => exact ⟨k + 1, by omega, by go_num, HJ, HL2, hblS⟩
          case measure => simp [intOf] <;> omega
        · have hkb : (Y.kind == 6) = false := by simpa using h6
          have HC2 : Hid (cvAt f k = Y.var) := Lib.hid (by rw [HCv.out, hfx, if_neg (by decide), if_neg h6])
          clear h6
          go_wp2_with fail
          refine (isFixed_any Y.kind _ _ _ _).mono ?_
          rw [hfx]
          rintro e w3 ⟨rfl, hb3⟩
          have hbl3 := below_trans' hblA hb3
          have HI3 := Lib.hid (HIA.out.stayed hb3)
          have d0 := (hb3.cell (by exact hltA)).trans c0
          have HJ : Hid (In w3 w.heap.size H1 4 (.slice (some ⟨b1, o1, none⟩) n c1) n (cmix f (k + 1))) := Lib.hid (In_same HI3.out fun i _ => HSm.out HC2.out i)
          clear c0 hb3 hblA hbl q0 q1 q2 q3 HIA HI
          go_wp2_with fail
          go_roundw
          case rel => exact ⟨k + 1, by omega, by go_num, HJ, HL2, hbl3⟩
          case measure => simp [intOf] <;> omega
    · obtain rfl : k = n := by omega
      have HX := Lib.hid (HYes.out fun i hi => HL.out i (by rw [Hxn.out]; exact hi))
      have HR : Hid (OwNd wr w.heap.size (.slice a1 k c1) (canL f)) := Lib.hid (by
        unfold OwNd
        rw [canL_len, ← Hxn.out]
        exact (In_same HI.out fun i hi => by unfold cmix; rw [if_pos hi]).ow)
      go_wp2_with fail
      go_ret2
      rw [HX.out.1, HX.out.2]
      exact ⟨_, rfl, HR.out, hbl⟩
set_option maxRecDepth 100000 in
set_option maxHeartbeats 4000000 in
theorem spec_CanonicalFormula_any (v : Value) (f : List Nd) (w : World) (hn : f.length ≤ 1048576) (hls : ∀ i, i < f.length → (ndnth f i).lab.size ≤ 1048576) (hv : RdNd w v f) :
    Calls Tryz.prog 5 #[v] w fun e w' => ∃ u, e = .returned (.tuple #[u, .int .i64 (canC f)]) ∧ OwNd w' w.heap.size u (canO f) ∧ Below w.heap.size w w' := by
  have HV := Lib.hid hv
  obtain ⟨a, cap, rfl, hcap, hcm, _⟩ := hv
  unfold maxLen at hcm
  obtain ⟨n, hxn⟩ : ∃ n, n = f.length := ⟨_, rfl⟩
  rw [← hxn] at hcap HV ⊢
  have Hxn := Lib.hid hxn
  cases hvm : validF f with
  | false =>
    have hC : Hid (canC f = 1) := Lib.hid (by unfold canC; rw [hvm]; rfl)
    have hM : Hid (canO f = []) := Lib.hid (by unfold canO; rw [hC.out]; rfl)
    rw [hM.out, hC.out]
    clear hxn
    go_enter Tryz.func5, Tryz.ntmps5
    go_wp2_with fail
    refine (l19Is_any _ f _ hn hls HV.out).mono ?_
    rw [hvm]
    rintro e w1 ⟨rfl, hb1⟩
    go_wp2_with fail
    go_ret2
    exact ⟨_, rfl, OwNd_zero _ _, hb1⟩
  | true =>
  obtain ⟨hp1, hp2, hp3, hp4⟩ := validF_parts hvm
  have HS := Lib.hid hp3
  have HK := Lib.hid hp4
  have HVm := Lib.hid hvm
  have HNo : Hid (∀ k, k < f.length → okAt f k = false → canC f = 5 ∧ canO f = []) := Lib.hid (fun k hk h => by
    have e : canC f = 5 := by
      unfold canC
      rw [hvm, decide_eq_false (fun h2 => by have := h2 k hk; rw [h] at this; cases this)]; rfl
    exact ⟨e, by unfold canO; rw [e]; rfl⟩)
  have HYes : Hid ((∀ k, k < f.length → okAt f k = true) → canC f = 0 ∧ canO f = canL f) := Lib.hid (fun h => by
    have e : canC f = 0 := by unfold canC; rw [hvm, decide_eq_true h]; rfl
    exact ⟨e, by unfold canO; rw [e]; rfl⟩)
  have hn1 : 1 ≤ n := by omega
  have hn30 : n ≤ 30 := by omega
  clear hxn hp1 hp2 hp3 hp4
  go_enter Tryz.func5, Tryz.ntmps5
  go_wp2_with fail
  refine (l19Is_any _ f _ hn hls HV.out).mono ?_
  rw [hvm]
  rintro e w1 ⟨rfl, hb1⟩
  have z1 := hb1.size
  have hbA : Below w.heap.size w (w1.alloc (.cells #[] 37)) := hb1.alloc z1 _
  have HB1 := Lib.hid ((HV.out.below hb1).below ((Below.refl _ _).alloc (Nat.le_refl _) (.cells #[] 37)))
  have H0 := Lib.hid (own_nd_nil (w := w1) w.heap.size z1)
  go_wp2_with (at_builtin; refine wpList_append_nd rfl _ _ rfl w.heap.size _ _ 0 [] f rfl rfl (by first | rfl | exact congrArg (fun x => Value.slice a x cap) Hxn.out) H0.out (by first | exact HB1.out | (rw [← Hxn.out]; exact HB1.out)) (by have := Hxn.out; simp; omega) (by simp; omega) w.heap.size w hbA (Nat.le_refl _) ?_; intro u w2 hown2 hbl0; rw [List.nil_append, Nat.zero_add] at hown2; have HI := Lib.hid (own_nd hown2.out).inn; obtain ⟨a1, c1, rfl⟩ := HI.out.rd.slice)
  unfold InNd at HI
  rw [← Hxn.out] at HI ⊢
  obtain ⟨H1, hH⟩ : ∃ H1, H1 = w2.heap.size := ⟨_, rfl⟩
  rw [← hH] at HI
  clear hH
  go_wp2_with fail
  go_loopw [5] (fun si wr => ∃ k : Nat, k ≤ n ∧ si = .int .i64 k ∧ Hid (In wr w.heap.size H1 4 (.slice a1 n c1) n (cmix f k)) ∧ Hid (∀ j, j < k → okAt f j = true) ∧ Below w.heap.size w wr) (fun si _ => n - (intOf si).toNat)
  case atStart => exact ⟨0, Nat.zero_le _, rfl, Lib.hid (In_same HI.out fun i _ => by unfold cmix; rw [if_neg (by omega)]), Lib.hid (fun j h => absurd h (by omega)), hbl0⟩
  case round =>
    clear hbl0 HI
    obtain ⟨k, hk, rfl, HI, HL, hbl⟩ := hrel
    by_cases hlt : k < n
    · have hkf : k < f.length := by rw [← Hxn.out]; exact hlt
      obtain ⟨b1, o1, rfl⟩ := HI.out.base (by omega)
      obtain ⟨b, o, rfl, hb, g0, g1, g2, g3⟩ := RdNd.cells HV.out hkf
      have q0 := (hbl.cell (by exact hb)).trans g0
      have q1 := (hbl.cell (by exact hb)).trans g1
      have q2 := (hbl.cell (by exact hb)).trans g2
      have q3 := (hbl.cell (by exact hb)).trans g3
      have HNx : Hid (okAt f k = true → ∀ j, j < k + 1 → okAt f j = true) := Lib.hid fun h => next_all HL.out h
      have HNk := Lib.hid (HNo.out k hkf)
      have HOk : Hid (okAt f k = (!isFix (ndnth f k).kind || decide (lv f k < 3))) := Lib.hid rfl
      have HCv : Hid (cvAt f k = if isFix (ndnth f k).kind = true then (lv f k : Int) else if (ndnth f k).kind = 6 then (lv f (bindN f k).toNat : Int) else (ndnth f k).var) := Lib.hid rfl
      have HBi : Hid ((ndnth f k).kind = 6 → ∃ j : Nat, bindN f k = (j : Int) ∧ j < k ∧ isFix (ndnth f j).kind = true) := Lib.hid fun h => validF_bind HVm.out hkf h
      have HVa : Hid (isFix (ndnth f k).kind = false → (ndnth f k).kind ≠ 6 → (ndnth f k).var = 0) := Lib.hid fun h1 h2 => validF_var HVm.out hkf h1 h2
      have HSm : Hid (cvAt f k = (ndnth f k).var → ∀ i, cmix f (k + 1) i = cmix f k i) := Lib.hid fun h => cmix_same hkf h
      have HPt : Hid (∀ i, cmix f (k + 1) i = if i = k * 4 + 1 then .int .i64 (cvAt f k) else cmix f k i) := Lib.hid (cmix_put hkf)
      have HCk : Hid (cmix f k (k * 4 + 1) = .int .i64 (ndnth f k).var) := Lib.hid (cmix_var hkf)
      have hlvl := lvTo_le f k k
      obtain ⟨Y, hY⟩ : ∃ Y, Y = ndnth f k := ⟨_, rfl⟩
      obtain ⟨L, hL⟩ : ∃ L, L = lv f k := ⟨_, rfl⟩
      have hLl : L ≤ k := by rw [hL]; exact hlvl
      rw [← hY] at q0 q1 q2 q3 HOk HCv HBi HVa HSm HCk
      rw [← hL] at HOk HCv
      have HLv := Lib.hid hL
      rw [← hY] at g0
      have G0 := Lib.hid g0
      clear hY hL g0 g1 g2 g3 hlvl
      cases hfx : isFix Y.kind with
      | true =>
        have HC2 : Hid (cvAt f k = (L : Int)) := Lib.hid (by rw [HCv.out, hfx]; rfl)
        have hkb : (Y.kind == 6) = false := by
          unfold isFix at hfx
          simp only [Bool.or_eq_true, decide_eq_true_eq] at hfx
          simp; omega
        by_cases h3 : L < 3
        · have HL2 := Lib.hid (HNx.out (by rw [HOk.out, decide_eq_true h3, Bool.or_true]))
          have hd : ¬ (3 : Int) ≤ (L : Int) := by omega
          obtain ⟨p0, z0, hl0, hh0, hs0⟩ := HI.out.at (k := k * 4 + 1) (p := ⟨b1, o1 + k * 4 + 1, none⟩) (by omega) (by rw [← Nat.add_assoc])
          rw [HCk.out] at p0
          have I1 := In_put HI.out (k := k * 4 + 1) (p := ⟨b1, o1 + k * 4 + 1, none⟩) (by omega) (by rw [← Nat.add_assoc]) (.int .i64 (L : Int))
          have HJ : Hid (In _ w.heap.size H1 4 (.slice (some ⟨b1, o1, none⟩) n c1) n (cmix f (k + 1))) := Lib.hid (In_same I1 fun i _ => by rw [HPt.out i, HC2.out])
          have hblS : Below w.heap.size w (wr.setCell ⟨b1, o1 + k * 4 + 1, none⟩ (.int .i64 (L : Int))) := hbl.setCell hl0 _
          clear I1
          have e0 : (wr.setCell ⟨b1, o1 + k * 4 + 1, none⟩ (.int .i64 (L : Int))).cell? ⟨b1, o1 + k * 4 + 1, none⟩ = some (.int .i64 (L : Int)) := World.cell?_setCell_same _ _ _ p0
          have f0 : (wr.setCell ⟨b1, o1 + k * 4 + 1, none⟩ (.int .i64 (L : Int))).cell? ⟨b, o + k * 4, none⟩ = some (.int .i64 Y.kind) := (hblS.cell (by exact hb)).trans G0.out
          go_wp2_with fail
          refine (l19Fixed_any _ _ Y.kind _ q0).mono ?_
          rw [hfx]
          rintro e w' ⟨rfl, rfl⟩
          go_wp2_with fail
          refine (l19Level_any _ f k _ hn HS.out HK.out hkf (HV.out.below hbl)).mono ?_
          rw [← HLv.out]
          rintro e w' ⟨rfl, rfl⟩
          go_wp2_with fail
          go_roundw
          case rel => exact ⟨k + 1, by omega, by go_num, HJ, HL2, hblS⟩
          case measure => simp [intOf] <;> omega
        · have HX := Lib.hid (HNk.out (by rw [HOk.out, hfx, decide_eq_false h3]; rfl))
          have hd : (3 : Int) ≤ (L : Int) := by omega
          obtain ⟨p0, z0, hl0, hh0, hs0⟩ := HI.out.at (k := k * 4 + 1) (p := ⟨b1, o1 + k * 4 + 1, none⟩) (by omega) (by rw [← Nat.add_assoc])
          rw [HCk.out] at p0
          have I1 := In_put HI.out (k := k * 4 + 1) (p := ⟨b1, o1 + k * 4 + 1, none⟩) (by omega) (by rw [← Nat.add_assoc]) (.int .i64 (L : Int))
          have HJ : Hid (In _ w.heap.size H1 4 (.slice (some ⟨b1, o1, none⟩) n c1) n (cmix f (k + 1))) := Lib.hid (In_same I1 fun i _ => by rw [HPt.out i, HC2.out])
          have hblS : Below w.heap.size w (wr.setCell ⟨b1, o1 + k * 4 + 1, none⟩ (.int .i64 (L : Int))) := hbl.setCell hl0 _
          clear I1
          have e0 : (wr.setCell ⟨b1, o1 + k * 4 + 1, none⟩ (.int .i64 (L : Int))).cell? ⟨b1, o1 + k * 4 + 1, none⟩ = some (.int .i64 (L : Int)) := World.cell?_setCell_same _ _ _ p0
          have f0 : (wr.setCell ⟨b1, o1 + k * 4 + 1, none⟩ (.int .i64 (L : Int))).cell? ⟨b, o + k * 4, none⟩ = some (.int .i64 Y.kind) := (hblS.cell (by exact hb)).trans G0.out
          go_wp2_with fail
          refine (l19Fixed_any _ _ Y.kind _ q0).mono ?_
          rw [hfx]
          rintro e w' ⟨rfl, rfl⟩
          go_wp2_with fail
          refine (l19Level_any _ f k _ hn HS.out HK.out hkf (HV.out.below hbl)).mono ?_
          rw [← HLv.out]
          rintro e w' ⟨rfl, rfl⟩
          go_wp2_with fail
          go_ret2
          rw [HX.out.1, HX.out.2]
          exact ⟨_, rfl, OwNd_zero _ _, hblS⟩
      | false =>
        have HL2 := Lib.hid (HNx.out (by rw [HOk.out, hfx]; rfl))
        by_cases h6 : Y.kind = 6
        · have hkb : (Y.kind == 6) = true := by simpa using h6
          obtain ⟨j, hj1, hj2, hj3⟩ := HBi.out h6
          have hjf : j < f.length := by omega
          have hok : lv f j < 3 := by
            have h1 := HL.out j hj2
            unfold okAt at h1
            rw [hj3] at h1
            simpa using h1
          have HC2 : Hid (cvAt f k = (lv f j : Int)) := Lib.hid (by rw [HCv.out, hfx, if_neg (by decide), if_pos h6, hj1]; rfl)
          obtain ⟨X, hX⟩ : ∃ X, X = lv f j := ⟨_, rfl⟩
          rw [← hX] at HC2 hok
          have HXe := Lib.hid hX
          have Hj1 := Lib.hid hj1
          have hd : ¬ (3 : Int) ≤ (X : Int) := by omega
          clear h6 hj1 hj3 hX
          go_wp2_with fail
          refine (l19Fixed_any _ _ Y.kind _ q0).mono ?_
          rw [hfx]
          rintro e w' ⟨rfl, rfl⟩
          go_wp2_with fail
          refine (l19Binder_any _ f k _ hn HS.out HK.out hkf (HV.out.below hbl)).mono ?_
          rw [Hj1.out]
          rintro e w4 ⟨rfl, hb4⟩
          have hbl4 := below_trans' hbl hb4
          have HI4 := Lib.hid (HI.out.stayed hb4)
          obtain ⟨p0, z0, hl0, hh0, hs0⟩ := HI4.out.at (k := k * 4 + 1) (p := ⟨b1, o1 + k * 4 + 1, none⟩) (by omega) (by rw [← Nat.add_assoc])
          rw [HCk.out] at p0
          have I1 := In_put HI4.out (k := k * 4 + 1) (p := ⟨b1, o1 + k * 4 + 1, none⟩) (by omega) (by rw [← Nat.add_assoc]) (.int .i64 (X : Int))
          have HJ : Hid (In _ w.heap.size H1 4 (.slice (some ⟨b1, o1, none⟩) n c1) n (cmix f (k + 1))) := Lib.hid (In_same I1 fun i _ => by rw [HPt.out i, HC2.out])
          have hblS : Below w.heap.size w (w4.setCell ⟨b1, o1 + k * 4 + 1, none⟩ (.int .i64 (X : Int))) := hbl4.setCell hl0 _
          clear I1
          have e0 : (w4.setCell ⟨b1, o1 + k * 4 + 1, none⟩ (.int .i64 (X : Int))).cell? ⟨b1, o1 + k * 4 + 1, none⟩ = some (.int .i64 (X : Int)) := World.cell?_setCell_same _ _ _ p0
          have f0 : (w4.setCell ⟨b1, o1 + k * 4 + 1, none⟩ (.int .i64 (X : Int))).cell? ⟨b, o + k * 4, none⟩ = some (.int .i64 Y.kind) := (hblS.cell (by exact hb)).trans G0.out
          go_wp2_with fail
          refine (l19Level_any _ f j _ hn HS.out HK.out hjf (HV.out.below hbl4)).mono ?_
          rw [← HXe.out]
          rintro e w' ⟨rfl, rfl⟩
          go_wp2_with fail
          go_roundw
          case rel => exact ⟨k + 1, by omega, by go_num, HJ, HL2, hblS⟩
          case measure => simp [intOf] <;> omega
        · have hkb : (Y.kind == 6) = false := by simpa using h6
          have HC2 : Hid (cvAt f k = Y.var) := Lib.hid (by rw [HCv.out, hfx, if_neg (by decide), if_neg h6])
          have hv0 := HVa.out hfx h6
          have HJ : Hid (In wr w.heap.size H1 4 (.slice (some ⟨b1, o1, none⟩) n c1) n (cmix f (k + 1))) := Lib.hid (In_same HI.out fun i _ => HSm.out HC2.out i)
          obtain ⟨p0, z0, hl0, hh0, hs0⟩ := HI.out.at (k := k * 4 + 1) (p := ⟨b1, o1 + k * 4 + 1, none⟩) (by omega) (by rw [← Nat.add_assoc])
          rw [HCk.out, hv0] at p0
          clear h6 hv0
          go_wp2_with fail
          refine (l19Fixed_any _ _ Y.kind _ q0).mono ?_
          rw [hfx]
          rintro e w' ⟨rfl, rfl⟩
          go_wp2_with fail
          go_roundw
          case rel => exact ⟨k + 1, by omega, by go_num, HJ, HL2, hbl⟩
          case measure => simp [intOf] <;> omega
    · obtain rfl : k = n := by omega
      have HX := Lib.hid (HYes.out fun i hi => HL.out i (by rw [Hxn.out]; exact hi))
      have HR : Hid (OwNd wr w.heap.size (.slice a1 k c1) (canL f)) := Lib.hid (by
        unfold OwNd
        rw [canL_len, ← Hxn.out]
        exact (In_same HI.out fun i hi => by unfold cmix; rw [if_pos hi]).ow)
      go_wp2_with fail
      go_ret2
      rw [HX.out.1, HX.out.2]
      exact ⟨_, rfl, HR.out, hbl⟩
end Go.Proofs.YtpnihgcckbaigaaGreatDoor
