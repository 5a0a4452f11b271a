/- Contracts: ValidFormula, of the program and of the reference. -/
import Derived.Test.YtcakmchefbohoaaGreatDoorProg
import Derived.Test.YtcakmchefbohoaaGreatDoorMem
import Derived.Test.YtcakmchefbohoaaGreatDoorMath
import Derived.Test.YtcakmchefbohoaaGreatDoorBasics
import Derived.Test.YtcakmchefbohoaaGreatDoorOpenI
import Derived.Test.YtcakmchefbohoaaGreatDoorHelpI
import Derived.Test.YtcakmchefbohoaaGreatDoorGrid
import Derived.Test.YtcakmchefbohoaaGreatDoorPart
import Derived.Test.YtcakmchefbohoaaGreatDoorText
import Derived.Test.YtcakmchefbohoaaGreatDoorLab
import Derived.Test.YtcakmchefbohoaaGreatDoorEnv
import Derived.Test.YtcakmchefbohoaaGreatDoorRLab
import Derived.Test.YtcakmchefbohoaaGreatDoorNode
import Derived.Test.YtcakmchefbohoaaGreatDoorNodeW
import Derived.Test.YtcakmchefbohoaaGreatDoorVMod
import Derived.Test.YtcakmchefbohoaaGreatDoorEnd
import Derived.Test.YtcakmchefbohoaaGreatDoorBind
import Derived.WalkKit
import Derived.BigQuiet
import Derived.Deep.QuietTactic
import Derived.Lib.Hide
import Derived.Outline
set_option linter.unusedVariables false
set_option linter.unusedSimpArgs false
namespace Go.Proofs.YtcakmchefbohoaaGreatDoor
open Go.RowKit

def boundB (n : Nd) : Bool := if (isFix n.kind || decide (n.kind = 6)) = true then inR n.var 0 2 else decide (n.var = 0)
def bindB (f : List Nd) (k : Nat) : Bool := !(decide ((ndnth f k).kind = 6) && decide (bindN f k < 0))
def nodeF (f : List Nd) (k : Nat) : Bool := inR (ndnth f k).kind 0 8 && fieldsB (ndnth f k) && boundB (ndnth f k) && bindB f k
def validF (f : List Nd) : Bool := inR f.length 1 30 && shapeN f && decide (∀ i, i < f.length → nodeF f i = true)
theorem validF_eq (f : List Nd) : validF f = (shapeS f 30 8 && decide (∀ i, i < f.length → boundB (ndnth f i) = true ∧ bindB f i = true)) := by
  rw [Bool.eq_iff_iff]
  unfold validF shapeS shapeN nodeF nodeS
  simp only [Bool.and_eq_true, decide_eq_true_eq]
  constructor
  · rintro ⟨⟨h1, h2, h3⟩, h4⟩
    exact ⟨⟨⟨h1, fun i hi => ⟨h2 i hi, (h4 i hi).1.1⟩⟩, h3⟩, fun i hi => ⟨(h4 i hi).1.2, (h4 i hi).2⟩⟩
  · rintro ⟨⟨⟨h1, h2⟩, h3⟩, h4⟩
    exact ⟨⟨h1, fun i hi => (h2 i hi).1, h3⟩, fun i hi => ⟨⟨(h2 i hi).2, (h4 i hi).1⟩, (h4 i hi).2⟩⟩
set_option maxRecDepth 100000 in
set_option maxHeartbeats 800000 in
theorem boundOk_any (n : Nd) (w : World) :
    Calls Tryz.prog 117 #[.agg #[.int .i64 n.kind, .int .i64 n.var, .string n.lab, .bool n.neg]] w fun e w' => e = .returned (.bool (boundB n)) ∧ Below w.heap.size w w' := by
  obtain ⟨cs, hcs⟩ : ∃ cs : Array Value, cs = #[.int .i64 n.kind, .int .i64 n.var, .string n.lab, .bool n.neg] := ⟨_, rfl⟩
  have hbA : Below w.heap.size w (w.alloc (.cells cs 65)) := (Below.refl _ _).alloc (Nat.le_refl _) _
  have hltA : w.heap.size < (w.alloc (.cells cs 65)).heap.size := by simp
  have c0 : (w.alloc (.cells cs 65)).cell? ⟨w.heap.size, 0, none⟩ = some (.int .i64 n.kind) := by rw [hcs]; simp
  have c1 : (w.alloc (.cells cs 65)).cell? ⟨w.heap.size, 1, none⟩ = some (.int .i64 n.var) := by rw [hcs]; simp
  rw [hcs] at hbA hltA c0 c1
  cases hm : isFix n.kind with
  | true =>
    have hX : Hid (boundB n = inR n.var 0 2) := Lib.hid (by unfold boundB; rw [hm]; rfl)
    go_enter Tryz.func117, Tryz.ntmps117
    go_wp2_with fail
    refine (isFixed_any n.kind _ _ _ _).mono ?_
    rw [hm]
    rintro e w2 ⟨rfl, hb2⟩
    have d1 := (hb2.cell (by exact hltA)).trans c1
    have hbl := below_trans' hbA hb2
    clear c0 c1
    go_wp2_with (go_at_call 78; refine (within_any _ _ _ _).mono ?_; rintro e w' ⟨rfl, rfl⟩)
    go_ret
    exact ⟨by rw [hX.out]; rfl, hbl⟩
  | false =>
    by_cases h6 : n.kind = 6
    · have hX : Hid (boundB n = inR n.var 0 2) := Lib.hid (by unfold boundB; rw [decide_eq_true h6]; simp)
      have hkb : (n.kind == 6) = true := by simpa using h6
      clear h6
      go_enter Tryz.func117, Tryz.ntmps117
      go_wp2_with fail
      refine (isFixed_any n.kind _ _ _ _).mono ?_
      rw [hm]
      rintro e w2 ⟨rfl, hb2⟩
      have d0 := (hb2.cell (by exact hltA)).trans c0
      have d1 := (hb2.cell (by exact hltA)).trans c1
      have hbl := below_trans' hbA hb2
      clear c0 c1
      go_wp2_with (go_at_call 78; refine (within_any _ _ _ _).mono ?_; rintro e w' ⟨rfl, rfl⟩)
      go_ret
      exact ⟨by rw [hX.out]; rfl, hbl⟩
    · have hX : Hid (boundB n = decide (n.var = 0)) := Lib.hid (by unfold boundB; rw [hm, decide_eq_false h6]; rfl)
      have hkb : (n.kind == 6) = false := by simpa using h6
      go_enter Tryz.func117, Tryz.ntmps117
      go_wp2_with fail
      refine (isFixed_any n.kind _ _ _ _).mono ?_
      rw [hm]
      rintro e w2 ⟨rfl, hb2⟩
      have d0 := (hb2.cell (by exact hltA)).trans c0
      have d1 := (hb2.cell (by exact hltA)).trans c1
      have hbl := below_trans' hbA hb2
      clear c0 c1 h6
      go_wp2_with fail
      go_ret
      exact ⟨by rw [hX.out]; rfl, hbl⟩
set_option maxRecDepth 100000 in
set_option maxHeartbeats 2000000 in
theorem ValidFormula_any (v : Value) (f : List Nd) (w : World) (hn : f.length ≤ 1048576) (hls : ∀ i, i < f.length → (ndnth f i).lab.size ≤ 1048576) (hT : Env w) (hv : RdNd w v f) :
    Calls Tryz.prog 74 #[v] w fun e w' => e = .returned (.bool (validF f)) ∧ Below w.heap.size w w' := by
  have HV := Lib.hid hv
  have HT := Lib.hid hT
  have Hls := Lib.hid hls
  obtain ⟨a, cap, rfl, hcap, hcm, _⟩ := hv
  unfold maxLen at hcm
  obtain ⟨D, hD⟩ : ∃ D, D = decide (∀ i, i < f.length → nodeF f i = true) := ⟨_, rfl⟩
  have HM : Hid (validF f = (inR f.length 1 30 && shapeN f && D)) := Lib.hid (by unfold validF; rw [hD])
  have HNo : Hid (∀ i, i < f.length → nodeF f i = false → D = false) := Lib.hid (fun i hi h => by
    rw [hD]; exact decide_eq_false fun h2 => by have := h2 i hi; rw [h] at this; cases this)
  have HYes : Hid ((∀ i, i < f.length → nodeF f i = true) → D = true) := Lib.hid (fun h => by rw [hD]; exact decide_eq_true h)
  obtain ⟨n, hxn⟩ : ∃ n, n = f.length := ⟨_, rfl⟩
  rw [← hxn] at hcap HV HM ⊢
  have Hxn := Lib.hid hxn
  clear hD hxn hT hls
  cases h1 : inR (n : Int) 1 30 with
  | false =>
    have hX : Hid (validF f = false) := Lib.hid (by rw [HM.out, h1]; rfl)
    go_enter Tryz.func74, Tryz.ntmps74
    go_wp2_with (go_at_call 78; refine (within_any _ _ _ _).mono ?_; rintro e w' ⟨rfl, rfl⟩)
    go_ret
    exact ⟨by rw [hX.out]; rfl, Below.refl _ _⟩
  | true =>
  cases h2 : shapeN f with
  | false =>
    have hX : Hid (validF f = false) := Lib.hid (by rw [HM.out, h2]; simp)
    go_enter Tryz.func74, Tryz.ntmps74
    go_wp2_with (go_at_call 78; refine (within_any _ _ _ _).mono ?_; rintro e w' ⟨rfl, rfl⟩)
    refine (shapeOk_any _ f _ hn HV.out).mono ?_
    rw [h2]
    rintro e w1 ⟨rfl, hb1⟩
    go_wp2_with fail
    go_ret
    exact ⟨by rw [hX.out]; rfl, hb1⟩
  | true =>
  have hX : Hid (validF f = D) := Lib.hid (by rw [HM.out, h1, h2]; rfl)
  have H2 := Lib.hid h2
  go_enter Tryz.func74, Tryz.ntmps74
  go_wp2_with (go_at_call 78; refine (within_any _ _ _ _).mono ?_; rintro e w' ⟨rfl, rfl⟩)
  refine (shapeOk_any _ f _ hn HV.out).mono ?_
  rw [h2]
  rintro e w1 ⟨rfl, hb1⟩
  clear h2
  go_wp2_with fail
  go_loopw [16] (fun si wr => ∃ k : Nat, k ≤ n ∧ si = .int .i64 k ∧ Hid (∀ i, i < k → nodeF f i = true) ∧ Below w.heap.size w wr) (fun si _ => n - (intOf si).toNat)
  case atStart => exact ⟨0, Nat.zero_le _, rfl, Lib.hid (fun i h => absurd h (by omega)), hb1⟩
  case round =>
    clear hb1
    obtain ⟨k, hk, rfl, HL, hbl⟩ := hrel
    by_cases hlt : k < n
    · have hkf : k < f.length := by rw [← Hxn.out]; exact hlt
      obtain ⟨b, o, rfl, hb, g0, g1, g2, g3⟩ := RdNd.cells HV.out hkf
      have q0 := (hbl.cell (by exact hb)).trans g0
      have q1 := (hbl.cell (by exact hb)).trans g1
      have q2 := (hbl.cell (by exact hb)).trans g2
      have q3 := (hbl.cell (by exact hb)).trans g3
      have hys := Hls.out k hkf
      have HF : Hid (nodeF f k = (inR (ndnth f k).kind 0 8 && fieldsB (ndnth f k) && boundB (ndnth f k) && bindB f k)) := Lib.hid rfl
      have HB : Hid (bindB f k = !(decide ((ndnth f k).kind = 6) && decide (bindN f k < 0))) := Lib.hid rfl
      have HNk := Lib.hid (HNo.out k hkf)
      obtain ⟨Y, hY⟩ : ∃ Y, Y = ndnth f k := ⟨_, rfl⟩
      rw [← hY] at q0 q1 q2 q3 hys HF HB
      clear hY g0 g1 g2 g3
      obtain ⟨cs, hcs⟩ : ∃ cs : Array Value, cs = #[.int .i64 Y.kind, .int .i64 Y.var, .string Y.lab, .bool Y.neg] := ⟨_, rfl⟩
      have hbA : Below wr.heap.size wr (wr.alloc (.cells cs 65)) := (Below.refl _ _).alloc (Nat.le_refl _) _
      have hltA : wr.heap.size < (wr.alloc (.cells cs 65)).heap.size := by simp
      have c0 : (wr.alloc (.cells cs 65)).cell? ⟨wr.heap.size, 0, none⟩ = some (.int .i64 Y.kind) := by rw [cell_of_row _ _ _ _ _ _ (heap_alloc_new wr _), hcs]; rfl
      have c1 : (wr.alloc (.cells cs 65)).cell? ⟨wr.heap.size, 1, none⟩ = some (.int .i64 Y.var) := by rw [cell_of_row _ _ _ _ _ _ (heap_alloc_new wr _), hcs]; rfl
      have c2 : (wr.alloc (.cells cs 65)).cell? ⟨wr.heap.size, 2, none⟩ = some (.string Y.lab) := by rw [cell_of_row _ _ _ _ _ _ (heap_alloc_new wr _), hcs]; rfl
      have c3 : (wr.alloc (.cells cs 65)).cell? ⟨wr.heap.size, 3, none⟩ = some (.bool Y.neg) := by rw [cell_of_row _ _ _ _ _ _ (heap_alloc_new wr _), hcs]; rfl
      rw [hcs] at hbA hltA c0 c1 c2 c3
      clear hcs
      have hblA := below_trans' hbl hbA
      cases hk8 : inR Y.kind 0 8 with
      | false =>
        have HD := Lib.hid (HNk.out (by rw [HF.out, hk8]; rfl))
        clear c0 c1 c2 c3
        go_wp2_with fail
        refine (within_any _ _ _ _).mono ?_
        rw [hk8]
        rintro e w' ⟨rfl, rfl⟩
        go_wp2_with fail
        go_ret
        exact ⟨by rw [hX.out, HD.out]; rfl, hblA⟩
      | true =>
      cases hfl : fieldsB Y with
      | false =>
        have HD := Lib.hid (HNk.out (by rw [HF.out, hk8, hfl]; rfl))
        clear c0 c1 c2 c3
        go_wp2_with fail
        refine (within_any _ _ _ _).mono ?_
        rw [hk8]
        rintro e w' ⟨rfl, rfl⟩
        go_wp2_with fail
        refine (fieldsOk_any Y _ hys (HT.out.below hblA)).mono ?_
        rw [hfl]
        rintro e w2 ⟨rfl, hb2⟩
        have hbl2 := below_trans' hblA hb2
        go_wp2_with fail
        go_ret
        exact ⟨by rw [hX.out, HD.out]; rfl, hbl2⟩
      | true =>
      go_wp2_with fail
      refine (within_any _ _ _ _).mono ?_
      rw [hk8]
      rintro e w' ⟨rfl, rfl⟩
      go_wp2_with fail
      refine (fieldsOk_any Y _ hys (HT.out.below hblA)).mono ?_
      rw [hfl]
      rintro e w2 ⟨rfl, hb2⟩
      have hbl2 := below_trans' hblA hb2
      have d0 := (hb2.cell (by exact hltA)).trans c0
      have d1 := (hb2.cell (by exact hltA)).trans c1
      have d2 := (hb2.cell (by exact hltA)).trans c2
      have d3 := (hb2.cell (by exact hltA)).trans c3
      have hlt2 := Nat.lt_of_lt_of_le hltA hb2.size
      clear c0 c1 c2 c3 hb2 hbA hltA hblA q0 q1 q2 q3
      cases hbd : boundB Y with
      | false =>
        have HD := Lib.hid (HNk.out (by rw [HF.out, hk8, hfl, hbd]; rfl))
        go_wp2_with fail
        refine (boundOk_any Y _).mono ?_
        rw [hbd]
        rintro e w3 ⟨rfl, hb3⟩
        have hbl3 := below_trans' hbl2 hb3
        go_wp2_with fail
        go_ret
        exact ⟨by rw [hX.out, HD.out]; rfl, hbl3⟩
      | true =>
      go_wp2_with fail
      refine (boundOk_any Y _).mono ?_
      rw [hbd]
      rintro e w3 ⟨rfl, hb3⟩
      have hbl3 := below_trans' hbl2 hb3
      have e0 := (hb3.cell (by exact hlt2)).trans d0
      clear d0 d1 d2 d3 hb3 hbl2 hbl
      by_cases h6 : Y.kind = 6
      · have hkb : (Y.kind == 6) = true := by simpa using h6
        have HB2 : Hid (bindB f k = !decide (bindN f k < 0)) := Lib.hid (by rw [HB.out, decide_eq_true h6]; rfl)
        obtain ⟨r, hr⟩ : ∃ r, r = bindN f k := ⟨_, rfl⟩
        rw [← hr] at HB2
        have Hr := Lib.hid hr
        clear h6 hr
        by_cases hr0 : r < 0
        · have HD := Lib.hid (HNk.out (by rw [HF.out, hk8, hfl, hbd, HB2.out, decide_eq_true hr0]; rfl))
          go_wp2_with fail
          refine (binder_any _ f k _ hn H2.out hkf (HV.out.below hbl3)).mono ?_
          rw [← Hr.out]
          rintro e w4 ⟨rfl, hb4⟩
          have hbl4 := below_trans' hbl3 hb4
          go_wp2_with fail
          go_ret
          exact ⟨by rw [hX.out, HD.out]; rfl, hbl4⟩
        · have HL2 : Hid (∀ i, i < k + 1 → nodeF f i = true) := Lib.hid (next_all HL.out (by rw [HF.out, hk8, hfl, hbd, HB2.out, decide_eq_false hr0]; rfl))
          have hrd : decide (r < 0) = false := decide_eq_false hr0
          go_wp2_with fail
          refine (binder_any _ f k _ hn H2.out hkf (HV.out.below hbl3)).mono ?_
          rw [← Hr.out]
          rintro e w4 ⟨rfl, hb4⟩
          have hbl4 := below_trans' hbl3 hb4
          go_wp2_with fail
          go_roundw
          case rel => exact ⟨k + 1, by omega, by go_num, HL2, hbl4⟩
          case measure => simp [intOf] <;> omega
      · have hkb : (Y.kind == 6) = false := by simpa using h6
        have HL2 : Hid (∀ i, i < k + 1 → nodeF f i = true) := Lib.hid (next_all HL.out (by rw [HF.out, hk8, hfl, hbd, HB.out, decide_eq_false h6]; rfl))
        clear h6
        go_wp2_with fail
        go_roundw
        case rel => exact ⟨k + 1, by omega, by go_num, HL2, hbl3⟩
        case measure => simp [intOf] <;> omega
    · obtain rfl : k = n := by omega
      have HX2 : Hid (D = true) := Lib.hid (HYes.out fun i hi => HL.out i (by rw [Hxn.out]; exact hi))
      go_wp2_with fail
      go_ret
      exact ⟨by rw [hX.out, HX2.out]; rfl, hbl⟩
set_option maxRecDepth 100000 in
set_option maxHeartbeats 2000000 in
theorem l19Is_any (v : Value) (f : List Nd) (w : World) (hn : f.length ≤ 1048576) (hls : ∀ i, i < f.length → (ndnth f i).lab.size ≤ 1048576) (hv : RdNd w v f) :
    Calls Tryz.prog 37 #[v] w fun e w' => e = .returned (.bool (validF f)) ∧ Below w.heap.size w w' := by
  have HV := Lib.hid hv
  have HM := Lib.hid (validF_eq f)
  obtain ⟨a, cap, rfl, hcap, hm, hv⟩ := hv
  unfold maxLen at hm
  obtain ⟨n, hxn⟩ : ∃ n, n = f.length := ⟨_, rfl⟩
  rw [← hxn] at hcap HV ⊢
  have Hxn := Lib.hid hxn
  clear hxn hv
  cases hs : shapeS f 30 8 with
  | false =>
    have HX : Hid (validF f = false) := Lib.hid (by rw [HM.out, hs]; rfl)
    go_enter Tryz.func37, Tryz.ntmps37
    go_wp2_with fail
    refine (l14Shape_any _ f 30 8 _ (by decide) (by decide) hn hls HV.out).mono ?_
    rw [hs]
    rintro e w1 ⟨rfl, hb1⟩
    go_wp2_with fail
    go_ret
    exact ⟨by rw [HX.out]; rfl, hb1⟩
  | true =>
    have HP : Hid (shapeN f = true ∧ ∀ i, i < f.length → inR (ndnth f i).kind 0 8 = true) := Lib.hid (by
      unfold shapeS nodeS at hs
      simp only [Bool.and_eq_true, decide_eq_true_eq] at hs
      refine ⟨?_, fun i hi => (hs.1.2 i hi).2.1⟩
      unfold shapeN
      rw [decide_eq_true (fun i hi => (hs.1.2 i hi).1), decide_eq_true hs.2]; rfl)
    go_enter Tryz.func37, Tryz.ntmps37
    go_wp2_with fail
    refine (l14Shape_any _ f 30 8 _ (by decide) (by decide) hn hls HV.out).mono ?_
    rw [hs]
    rintro e w1 ⟨rfl, hb1⟩
    go_wp2_with fail
    go_loopw [3] (fun si wr => ∃ k : Nat, k ≤ n ∧ si = .int .i64 k ∧ Hid (∀ i, i < k → boundB (ndnth f i) = true ∧ bindB f i = true) ∧ Below w.heap.size w wr) (fun si _ => n - (intOf si).toNat)
    case atStart => exact ⟨0, Nat.zero_le _, rfl, Lib.hid (fun i h => absurd h (by omega)), hb1⟩
    case round =>
      clear hb1
      obtain ⟨k, hk, rfl, HL, hbl⟩ := hrel
      by_cases hlt : k < n
      · have hkf : k < f.length := by rw [← Hxn.out]; exact hlt
        obtain ⟨b, o, rfl, hb, g0, g1, g2, g3⟩ := RdNd.cells HV.out hkf
        have q0 := (hbl.cell (by exact hb)).trans g0
        have q1 := (hbl.cell (by exact hb)).trans g1
        have HNo : Hid (¬ (boundB (ndnth f k) = true ∧ bindB f k = true) → validF f = false) := Lib.hid (fun h => by rw [HM.out, decide_eq_false (fun h2 => h (h2 k hkf)), Bool.and_false])
        have HBo : Hid (boundB (ndnth f k) = if (isFix (ndnth f k).kind || decide ((ndnth f k).kind = 6)) = true then inR (ndnth f k).var 0 2 else decide ((ndnth f k).var = 0)) := Lib.hid rfl
        have HB : Hid (bindB f k = !(decide ((ndnth f k).kind = 6) && decide (bindN f k < 0))) := Lib.hid rfl
        have HNx : Hid (boundB (ndnth f k) = true → bindB f k = true → ∀ i, i < k + 1 → boundB (ndnth f i) = true ∧ bindB f i = true) := Lib.hid fun h1 h2 => next_all HL.out ⟨h1, h2⟩
        obtain ⟨Y, hY⟩ : ∃ Y, Y = ndnth f k := ⟨_, rfl⟩
        rw [← hY] at q0 q1 HNo HB HBo HNx
        clear hY g0 g1 g2 g3
        cases hfx : isFix Y.kind with
        | true =>
          have hkb : (Y.kind == 6) = false := by
            unfold isFix at hfx
            simp only [Bool.or_eq_true, decide_eq_true_eq] at hfx
            simp; omega
          have hk6 : Hid (decide (Y.kind = 6) = false) := Lib.hid (by simpa using hkb)
          have HBo2 : Hid (boundB Y = inR Y.var 0 2) := Lib.hid (by rw [HBo.out, hfx]; rfl)
          cases hin : inR Y.var 0 2 with
          | false =>
            have HX := Lib.hid (HNo.out (fun h => by have := h.1; rw [HBo2.out, hin] at this; cases this))
            go_wp2_with fail
            refine (l19Fixed_any _ _ Y.kind _ q0).mono ?_
            rw [hfx]
            rintro e w' ⟨rfl, rfl⟩
            go_wp2_with fail
            refine (l00In_any _ _ _ _).mono ?_
            rw [hin]
            rintro e w' ⟨rfl, rfl⟩
            go_wp2_with fail
            go_ret
            exact ⟨by rw [HX.out]; rfl, hbl⟩
          | true =>
            have HL2 := Lib.hid (HNx.out (by rw [HBo2.out, hin]) (by rw [HB.out, hk6.out]; rfl))
            go_wp2_with fail
            refine (l19Fixed_any _ _ Y.kind _ q0).mono ?_
            rw [hfx]
            rintro e w' ⟨rfl, rfl⟩
            go_wp2_with fail
            refine (l00In_any _ _ _ _).mono ?_
            rw [hin]
            rintro e w' ⟨rfl, rfl⟩
            go_wp2_with fail
            go_roundw
            case rel => exact ⟨k + 1, by omega, by go_num, HL2, hbl⟩
            case measure => simp [intOf] <;> omega
        | false =>
          by_cases h6 : Y.kind = 6
          · have hkb : (Y.kind == 6) = true := by simpa using h6
            have hk6 : Hid (decide (Y.kind = 6) = true) := Lib.hid (decide_eq_true h6)
            have HBo2 : Hid (boundB Y = inR Y.var 0 2) := Lib.hid (by rw [HBo.out, hfx, hk6.out]; rfl)
            have HB2 : Hid (bindB f k = !decide (bindN f k < 0)) := Lib.hid (by rw [HB.out, hk6.out]; rfl)
            obtain ⟨r, hr⟩ : ∃ r, r = bindN f k := ⟨_, rfl⟩
            rw [← hr] at HB2
            have Hr := Lib.hid hr
            clear h6 hr
            cases hin : inR Y.var 0 2 with
            | false =>
              have HX := Lib.hid (HNo.out (fun h => by have := h.1; rw [HBo2.out, hin] at this; cases this))
              go_wp2_with fail
              refine (l19Fixed_any _ _ Y.kind _ q0).mono ?_
              rw [hfx]
              rintro e w' ⟨rfl, rfl⟩
              go_wp2_with fail
              refine (l00In_any _ _ _ _).mono ?_
              rw [hin]
              rintro e w' ⟨rfl, rfl⟩
              go_wp2_with fail
              go_ret
              exact ⟨by rw [HX.out]; rfl, hbl⟩
            | true =>
              by_cases hr0 : r < 0
              · have HX := Lib.hid (HNo.out (fun h => by have := h.2; rw [HB2.out, decide_eq_true hr0] at this; cases this))
                go_wp2_with fail
                refine (l19Fixed_any _ _ Y.kind _ q0).mono ?_
                rw [hfx]
                rintro e w' ⟨rfl, rfl⟩
                go_wp2_with fail
                refine (l00In_any _ _ _ _).mono ?_
                rw [hin]
                rintro e w' ⟨rfl, rfl⟩
                go_wp2_with fail
                refine (l19Binder_any _ f k _ hn HP.out.1 HP.out.2 hkf (HV.out.below hbl)).mono ?_
                rw [← Hr.out]
                rintro e w4 ⟨rfl, hb4⟩
                have hbl4 := below_trans' hbl hb4
                go_wp2_with fail
                go_ret
                exact ⟨by rw [HX.out]; rfl, hbl4⟩
              · have HL2 := Lib.hid (HNx.out (by rw [HBo2.out, hin]) (by rw [HB2.out, decide_eq_false hr0]; rfl))
                have hrd : decide (r < 0) = false := decide_eq_false hr0
                go_wp2_with fail
                refine (l19Fixed_any _ _ Y.kind _ q0).mono ?_
                rw [hfx]
                rintro e w' ⟨rfl, rfl⟩
                go_wp2_with fail
                refine (l00In_any _ _ _ _).mono ?_
                rw [hin]
                rintro e w' ⟨rfl, rfl⟩
                go_wp2_with fail
                refine (l19Binder_any _ f k _ hn HP.out.1 HP.out.2 hkf (HV.out.below hbl)).mono ?_
                rw [← Hr.out]
                rintro e w4 ⟨rfl, hb4⟩
                have hbl4 := below_trans' hbl hb4
                go_wp2_with fail
                go_roundw
                case rel => exact ⟨k + 1, by omega, by go_num, HL2, hbl4⟩
                case measure => simp [intOf] <;> omega
          · have hkb : (Y.kind == 6) = false := by simpa using h6
            have hk6 : Hid (decide (Y.kind = 6) = false) := Lib.hid (decide_eq_false h6)
            have HBo2 : Hid (boundB Y = decide (Y.var = 0)) := Lib.hid (by rw [HBo.out, hfx, hk6.out]; rfl)
            clear h6
            by_cases hv0 : Y.var = 0
            · have hvb : (Y.var != 0) = false := by simpa using hv0
              have HL2 := Lib.hid (HNx.out (by rw [HBo2.out, decide_eq_true hv0]) (by rw [HB.out, hk6.out]; rfl))
              clear hv0
              go_wp2_with fail
              refine (l19Fixed_any _ _ Y.kind _ q0).mono ?_
              rw [hfx]
              rintro e w' ⟨rfl, rfl⟩
              go_wp2_with fail
              go_roundw
              case rel => exact ⟨k + 1, by omega, by go_num, HL2, hbl⟩
              case measure => simp [intOf] <;> omega
            · have hvb : (Y.var != 0) = true := by simpa using hv0
              have HX := Lib.hid (HNo.out (fun h => by have := h.1; rw [HBo2.out, decide_eq_false hv0] at this; cases this))
              clear hv0
              go_wp2_with fail
              refine (l19Fixed_any _ _ Y.kind _ q0).mono ?_
              rw [hfx]
              rintro e w' ⟨rfl, rfl⟩
              go_wp2_with fail
              go_ret
              exact ⟨by rw [HX.out]; rfl, hbl⟩
      · obtain rfl : k = n := by omega
        have HX : Hid (validF f = true) := Lib.hid (by
          have e := Hxn.out
          rw [HM.out, hs, decide_eq_true (fun i hi => HL.out i (by rw [e]; exact hi))]; rfl)
        go_wp2_with fail
        go_ret
        exact ⟨by rw [HX.out]; rfl, hbl⟩
end Go.Proofs.YtcakmchefbohoaaGreatDoor
