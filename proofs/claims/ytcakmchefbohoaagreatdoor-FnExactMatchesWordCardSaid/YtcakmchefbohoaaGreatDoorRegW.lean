/- The laws' own helpers over slices of Reg: sz, to, eq. -/
import Derived.Test.YtcakmchefbohoaaGreatDoorProg
import Derived.Test.YtcakmchefbohoaaGreatDoorMem
import Derived.Test.YtcakmchefbohoaaGreatDoorMath
import Derived.Test.YtcakmchefbohoaaGreatDoorOpenI
import Derived.Test.YtcakmchefbohoaaGreatDoorHelpI
import Derived.Test.YtcakmchefbohoaaGreatDoorGrid
import Derived.Test.YtcakmchefbohoaaGreatDoorLab
import Derived.Test.YtcakmchefbohoaaGreatDoorReg
import Derived.WalkKit
import Derived.BigQuiet
import Derived.BigRegion
import Derived.StillTailTactics
import Derived.Deep.QuietTactic
import Derived.Laws.ResultCell
import Derived.Laws.OwnMore
import Derived.Lib.Hide
import Derived.Outline
set_option linter.unusedVariables false
set_option linter.unusedSimpArgs false
namespace Go.Proofs.YtcakmchefbohoaaGreatDoor
open Go.RowKit

def rgA (n : Rg) : Value := .agg #[.int .i64 n.kind, .string n.lab, .bool n.neg]
theorem szReg_any (n : Rg) (l : Int) (w : World) (h0 : 0 ≤ l) (h1 : l ≤ 1048576) (hn : n.lab.size ≤ maxLen) :
    Calls Tryz.prog 34 #[.agg #[.int .i64 n.kind, .string n.lab, .bool n.neg], .int .i64 l] w fun e w' => e = .returned (.int .i64 (if (n.lab.size : Int) ≤ l then l - (n.lab.size : Int) else -1)) ∧ Below w.heap.size w w' := by
  unfold maxLen at hn
  by_cases hs : (n.lab.size : Int) ≤ l
  · have hs0 : ¬ (l - (n.lab.size : Int) < 0) := by omega
    rw [if_pos hs]
    go_enter Tryz.func34, Tryz.ntmps34
    go_wp2_with fail
    go_ret
    exact ⟨rfl, (Below.refl _ _).alloc (Nat.le_refl _) _⟩
  · have hs0 : l - (n.lab.size : Int) < 0 := by omega
    rw [if_neg hs]
    go_enter Tryz.func34, Tryz.ntmps34
    go_wp2_with fail
    go_ret
    exact ⟨rfl, (Below.refl _ _).alloc (Nat.le_refl _) _⟩
set_option maxHeartbeats 800000 in
theorem toReg_any (n : Rg) (w : World) :
    Calls Tryz.prog 39 #[.agg #[.int .i64 n.kind, .string n.lab, .bool n.neg]] w fun e w' => e = .returned (.agg #[.int .i64 n.kind, .string n.lab, .bool n.neg]) ∧ Below w.heap.size w w' := by
  go_enter Tryz.func39, Tryz.ntmps39
  go_wp2_with fail
  refine bodyPost_ret (results_cell_row rfl _ _ (w.heap.size + 1) 63 #[.int .i64 n.kind, .string n.lab, .bool n.neg] (0, 0) _ rfl ?q1 Tryz.underlying63 rfl ?q2) rfl ?q3
  case q1 =>
    show (((w.heap.push _).push _).push _)[w.heap.size + 1]? = some _
    rw [Array.getElem?_push, if_neg (by simp), Array.getElem?_push, if_pos (by simp)]
  case q2 => kernel_rfl
  case q3 =>
    refine ⟨rfl, ?_⟩
    refine (((Below.refl _ w).alloc (Nat.le_refl _) _).alloc ?_ _).alloc ?_ _
    · simp
    · simp; omega
set_option maxHeartbeats 800000 in
theorem eqReg_any (a b : Rg) (w : World) :
    Calls Tryz.prog 43 #[.agg #[.int .i64 a.kind, .string a.lab, .bool a.neg], .agg #[.int .i64 b.kind, .string b.lab, .bool b.neg]] w fun e w' => e = .returned (.bool (decide (a = b))) ∧ Below w.heap.size w w' := by
  go_enter Tryz.func43, Tryz.ntmps43
  go_wp2_with fail
  all_goals
    go_ret
    refine ⟨?_, ((Below.refl _ w).alloc (Nat.le_refl _) _).alloc (by simp) _⟩
    congr 2
    have hlt : ∀ x y : ByteArray, (x.toList == y.toList) = decide (x = y) := beq_text
    cases a
    cases b
    simp_all
theorem infoRg : (Tryz.prog.info? 63).map (fun i => (i.zero, i.size, i.bytes)) = some (some (.agg #[.int .i64 0, .string ByteArray.empty, .bool false]), 3, 32) := by kernel_rfl
set_option maxRecDepth 100000 in
set_option maxHeartbeats 1600000 in
theorem toRegS_any (v : Value) (f : List Rg) (w : World) (hn : f.length ≤ 1048576) (hv : RdRg w v f) :
    Calls Tryz.prog 11 #[v] w fun e w' => ∃ u, e = .returned u ∧ OwRg w' w.heap.size u f ∧ Below w.heap.size w w' := by
  have HV := Lib.hid hv
  obtain ⟨a, cap, rfl, hcap, _, hv⟩ := hv
  obtain ⟨i0, hi, hz0, hz1, hz2⟩ := info_parts infoRg
  obtain ⟨n, hxn⟩ : ∃ n, n = f.length := ⟨_, rfl⟩
  rw [← hxn] at hcap hv hn HV
  have Hxn := Lib.hid hxn; clear hxn
  rw [← Hxn.out]
  go_enter Tryz.func11, Tryz.ntmps11
  go_wp2_with (at_make; refine wpList_make_full _ rfl _ _ 29 rfl w.heap.size 63 i0 (.agg #[.int .i64 0, .string ByteArray.empty, .bool false]) 3 Tryz.underlying29 hi hz0 hz1 _ _ _ _ n rfl rfl rfl rfl ?b2 ?b3 (Nat.le_refl _) ?_)
  case b2 => rw [hz2]; omega
  case b3 => unfold maxLen; omega
  intro w0 hown0 hgrow0
  obtain ⟨Z, hZ⟩ : ∃ Z : List Value, Z = (madeCells #[.int .i64 0, .string ByteArray.empty, .bool false] (n * 3)).toList := ⟨_, rfl⟩
  rw [← hZ] at hown0
  clear hZ
  go_wp2_with fail
  go_loopw [4] (fun si wr => ∃ (k : Nat) (X : List Value), k ≤ n ∧ si = .int .i64 k ∧ Hid (wr.ownsRow w.heap.size 63 3 (.slice (some ⟨w.heap.size, 0, none⟩) n n) n X) ∧ Hid (∀ i, i < k * 3 → X[i]? = some (rgc f i)) ∧ Below w.heap.size w wr)
    (fun si _ => n - (intOf si).toNat)
  case atStart => exact ⟨0, Z, Nat.zero_le _, rfl, Lib.hid hown0, Lib.hid (fun i h => absurd h (by omega)), (Below.refl _ _).grown hgrow0 (Nat.le_refl _) (fun k h => by cases h)⟩
  case round =>
    clear hown0 hgrow0
    obtain ⟨k, X, hk, rfl, HO, HX, hbl⟩ := hrel
    by_cases hlt : k < n
    · have hkf : k < f.length := by rw [← Hxn.out]; exact hlt
      obtain ⟨b, o, rfl, hb, g0, g1, g2⟩ := RdRg.cells HV.out hkf
      have q0 := (hbl.cell (by exact hb)).trans g0
      have q1 := (hbl.cell (by exact hb)).trans g1
      have q2 := (hbl.cell (by exact hb)).trans g2
      obtain ⟨Y, hY⟩ : ∃ Y, Y = rgnth f k := ⟨_, rfl⟩
      rw [← hY] at q0 q1 q2
      have HY := Lib.hid hY
      clear hY g0 g1 g2
      go_wp2_with fail
      refine (toReg_any Y _).mono ?_
      rintro e w1 ⟨rfl, hb1⟩
      have hO1 := ownsRow_below HO.out hb1
      have hbl1 := below_trans' hbl hb1
      have HO1 := Lib.hid hO1
      have hXl : X.length = n * 3 := hO1.1
      have p0 : w1.cell? ⟨w.heap.size, k * 3, none⟩ = some (X.getD (k * 3) undef) := by
        rw [hO1.cellAt (k * 3) (by omega)]
        rw [List.getD_eq_getElem?_getD, List.getElem?_eq_getElem (by omega)]; rfl
      have z0 := hO1.frozenAt (k * 3)
      have p1 : w1.cell? ⟨w.heap.size, k * 3 + 1, none⟩ = some (X.getD (k * 3 + 1) undef) := by
        rw [hO1.cellAt (k * 3 + 1) (by omega)]
        rw [List.getD_eq_getElem?_getD, List.getElem?_eq_getElem (by omega)]; rfl
      have z1 := hO1.frozenAt (k * 3 + 1)
      have p2 : w1.cell? ⟨w.heap.size, k * 3 + 2, none⟩ = some (X.getD (k * 3 + 2) undef) := by
        rw [hO1.cellAt (k * 3 + 2) (by omega)]
        rw [List.getD_eq_getElem?_getD, List.getElem?_eq_getElem (by omega)]; rfl
      have z2 := hO1.frozenAt (k * 3 + 2)
      clear HO hO1 hbl
      have s0 := (HO1.out.stored (k * 3) (.int .i64 Y.kind)).1
      have s1 := (s0.stored (k * 3 + 1) (.string Y.lab)).1
      have s2 := (s1.stored (k * 3 + 2) (.bool Y.neg)).1
      have hX4 : ∀ i, i < (k + 1) * 3 → ((((X).set (k * 3) (.int .i64 Y.kind)).set (k * 3 + 1) (.string Y.lab)).set (k * 3 + 2) (.bool Y.neg))[i]? = some (rgc f i) := by
        intro i hi
        by_cases h : i < k * 3
        · rw [List.getElem?_set_ne (by omega), List.getElem?_set_ne (by omega), List.getElem?_set_ne (by omega)]
          exact HX.out i h
        · obtain ⟨j, hj, rfl⟩ : ∃ j, j < 3 ∧ i = k * 3 + j := ⟨i - k * 3, by omega, by omega⟩
          rw [rgc_at f k j hj, ← HY.out]
          have hc : j = 0 ∨ j = 1 ∨ j = 2 := by omega
          rcases hc with rfl | rfl | rfl
          · rw [List.getElem?_set_ne (by omega), List.getElem?_set_ne (by omega), List.getElem?_set, if_pos (by omega), if_pos (by first | omega | (simp only [List.length_set]; omega))]; rfl
          · rw [List.getElem?_set_ne (by omega), List.getElem?_set, if_pos (by omega), if_pos (by first | omega | (simp only [List.length_set]; omega))]; rfl
          · rw [List.getElem?_set, if_pos (by omega), if_pos (by first | omega | (simp only [List.length_set]; omega))]; rfl
      have HX4 := Lib.hid hX4
      have HS4 := Lib.hid s2
      have hblS : Below w.heap.size w ((((w1).setCell ⟨w.heap.size, k * 3, none⟩ (.int .i64 Y.kind)).setCell ⟨w.heap.size, k * 3 + 1, none⟩ (.string Y.lab)).setCell ⟨w.heap.size, k * 3 + 2, none⟩ (.bool Y.neg)) := (((hbl1).setCell (Nat.le_refl _) _).setCell (Nat.le_refl _) _).setCell (Nat.le_refl _) _
      clear hX4 s0 s1 s2
      go_wp2_with fail
      go_roundw
      case rel => exact ⟨k + 1, _, by omega, by go_num, HS4, HX4, hblS⟩
      case measure => simp [intOf]; omega
    · obtain rfl : k = n := by omega
      have HR : Hid (OwRg wr w.heap.size (.slice (some ⟨w.heap.size, 0, none⟩) k k) f) := Lib.hid (by
        have e := Hxn.out
        unfold OwRg
        rw [← e]
        exact ownsRow_ow HO.out _ fun i hi => HX.out i hi)
      go_wp2_with fail
      go_ret
      exact ⟨_, rfl, HR.out, hbl⟩
set_option maxRecDepth 100000 in
set_option maxHeartbeats 1600000 in
theorem eqRegS_any (va vb : Value) (f g : List Rg) (w : World) (hn : f.length ≤ 9223372036854775000) (ha : RdRg w va f) (hb : RdRg w vb g) :
    Calls Tryz.prog 15 #[va, vb] w fun e w' => e = .returned (.bool (decide (f = g))) ∧ Below w.heap.size w w' := by
  have HVa := Lib.hid ha
  have HVb := Lib.hid hb
  obtain ⟨a, capa, rfl, hcapa, hma, ha⟩ := ha
  obtain ⟨b, capb, rfl, hcapb, hmb, hb⟩ := hb
  unfold maxLen at hma hmb
  clear ha hb
  by_cases hl : f.length = g.length
  · obtain ⟨n, hxn⟩ : ∃ n, n = f.length := ⟨_, rfl⟩
    rw [← hxn] at hl
    rw [← hl] at hcapb HVb ⊢
    rw [← hxn] at hcapa HVa hn ⊢
    have Hxn := Lib.hid hxn; clear hxn
    have Hyn := Lib.hid hl; clear hl
    go_enter Tryz.func15, Tryz.ntmps15
    go_wp2_with fail
    go_loopw [5] (fun si wr => ∃ k : Nat, k ≤ n ∧ si = .int .i64 k ∧ Hid (f.take k = g.take k) ∧ Below w.heap.size w wr) (fun si _ => n - (intOf si).toNat)
    case atStart => exact ⟨0, Nat.zero_le _, rfl, Lib.hid rfl, Below.refl _ _⟩
    case round =>
      obtain ⟨k, hk, rfl, heq, hbl⟩ := hrel
      by_cases hlt : k < n
      · have hkf : k < f.length := by rw [← Hxn.out]; exact hlt
        have hkg : k < g.length := by rw [← Hyn.out]; exact hlt
        obtain ⟨ba1, oa1, rfl, hba, g0, g1, g2⟩ := RdRg.cells HVa.out hkf
        obtain ⟨bb1, ob1, rfl, hbb, h0, h1, h2⟩ := RdRg.cells HVb.out hkg
        have a0 := (hbl.drew.cell (by exact hba)).trans g0
        have a1 := (hbl.drew.cell (by exact hba)).trans g1
        have a2 := (hbl.drew.cell (by exact hba)).trans g2
        have c0 := (hbl.drew.cell (by exact hbb)).trans h0
        have c1 := (hbl.drew.cell (by exact hbb)).trans h1
        have c2 := (hbl.drew.cell (by exact hbb)).trans h2
        obtain ⟨Y, hY⟩ : ∃ Y, Y = rgnth f k := ⟨_, rfl⟩
        obtain ⟨Z, hZ⟩ : ∃ Z, Z = rgnth g k := ⟨_, rfl⟩
        rw [← hY] at a0 a1 a2
        rw [← hZ] at c0 c1 c2
        have HY := Lib.hid hY
        have HZ := Lib.hid hZ
        have hbd := hbl.drew
        clear hY hZ g0 h0 g1 h1 g2 h2
        have hkm : k < maxLen := by unfold maxLen; omega
        have HN : Hid (Y = Z → f.take (k + 1) = g.take (k + 1)) := Lib.hid (fun e => by rw [take_rgnth f k hkf, take_rgnth g k hkg, heq.out, ← HY.out, ← HZ.out, e])
        have HF : Hid (Y ≠ Z → decide (f = g) = false) := Lib.hid (fun e => decide_eq_false fun h => e (by rw [HY.out, HZ.out, h]))
        go_wp2_with fail
        refine wp_region_still_tail 8 (by kernel_rfl) (by kernel_rfl) ?_
        simp only [List.take_succ_cons, List.take_zero, List.drop_succ_cons, List.drop_zero]
        change wpStill _ _ wr.drew (fun a' => wpList _ _ _ _ a' wr.drew) _ _
        generalize wr.drew = w2 at *
        repeat still_step
        refine wpStill_nil ?_
        go_wp2_with fail
        refine (eqReg_any Y Z _).mono ?_
        by_cases e : Y = Z
        · have HN2 := Lib.hid (HN.out e)
          rw [decide_eq_true e]
          rintro e w3 ⟨rfl, hb3⟩
          clear HN HF e hbl
          go_wp2_with fail
          go_roundw
          case rel => exact ⟨k + 1, by omega, by go_num, HN2, below_trans' hbd hb3⟩
          case measure => simp [intOf]; omega
        · have HF2 := Lib.hid (HF.out e)
          rw [decide_eq_false e]
          rintro e w3 ⟨rfl, hb3⟩
          clear HN HF e hbl
          go_wp2_with fail
          go_ret
          exact ⟨by rw [HF2.out]; rfl, below_trans' hbd hb3⟩
      · obtain rfl : k = n := by omega
        have HE : Hid (decide (f = g) = true) := Lib.hid (by
          have h := heq.out
          rw [List.take_of_length_le (by rw [Hxn.out]; exact Nat.le_refl _), List.take_of_length_le (by rw [Hyn.out]; exact Nat.le_refl _)] at h
          exact decide_eq_true h)
        go_wp2_with fail
        go_ret
        exact ⟨by rw [HE.out]; rfl, hbl⟩
  · have hne : decide (f = g) = false := decide_eq_false fun e => hl (by rw [e])
    rw [hne]
    have h1 : ((f.length : Int) != (g.length : Int)) = true := by simp; omega
    go_enter Tryz.func15, Tryz.ntmps15
    go_wp2_with fail
    go_ret
    exact ⟨rfl, Below.refl _ _⟩
def labsRg (f : List Rg) : Nat → Nat
  | 0 => 0
  | i + 1 => labsRg f i + (rgnth f i).lab.size
theorem labsRg_mono (f : List Rg) {i j : Nat} (h : i ≤ j) : labsRg f i ≤ labsRg f j := by
  induction j with
  | zero => rw [show i = 0 by omega]; exact Nat.le_refl _
  | succ j ih =>
    by_cases e : i = j + 1
    · rw [e]; exact Nat.le_refl _
    · have := ih (by omega)
      rw [labsRg]; omega
def totRg (f : List Rg) : Nat := f.length + labsRg f f.length
theorem lab_leRg (f : List Rg) (i : Nat) (h : i < f.length) : (rgnth f i).lab.size ≤ totRg f := by
  have := labsRg_mono f (show i + 1 ≤ f.length by omega)
  rw [labsRg] at this
  unfold totRg; omega
def szRg (f : List Rg) (l : Int) : Int := if (totRg f : Int) ≤ l then l - (totRg f : Int) else -1
set_option maxRecDepth 100000 in
set_option maxHeartbeats 800000 in
theorem szRegS_any (v : Value) (f : List Rg) (l : Int) (w : World) (h0 : 0 ≤ l) (h1 : l ≤ 1048576) (hok : RgsOk f) (hv : RdRg w v f) :
    Calls Tryz.prog 8 #[v, .int .i64 l] w fun e w' => e = .returned (.int .i64 (szRg f l)) ∧ Below w.heap.size w w' := by
  have HV := Lib.hid hv
  have Hok := Lib.hid hok
  obtain ⟨a, cap, rfl, hcap, hm, hv⟩ := hv
  unfold maxLen at hm
  obtain ⟨n, hxn⟩ : ∃ n, n = f.length := ⟨_, rfl⟩
  rw [← hxn] at hcap HV ⊢
  have Hxn := Lib.hid hxn
  clear hxn hv hok
  have Hneg : Hid (¬ ((n : Int) + (labsRg f n : Int) ≤ l) → szRg f l = -1) := Lib.hid (fun h => by
    unfold szRg totRg
    rw [if_neg (by rw [← Hxn.out]; omega)])
  by_cases hs : (n : Int) ≤ l
  · have hs0 : ¬ (l - (n : Int) < 0) := by omega
    go_enter Tryz.func8, Tryz.ntmps8
    go_wp2_with fail
    go_loopw [1, 5] (fun sl si wr => ∃ k : Nat, k ≤ n ∧ si = .int .i64 k ∧ sl = .int .i64 (l - n - (labsRg f k : Int)) ∧ 0 ≤ l - n - (labsRg f k : Int) ∧ Below w.heap.size w wr) (fun _ si _ => n - (intOf si).toNat)
    case atStart => exact ⟨0, Nat.zero_le _, rfl, by simp [labsRg], by simp [labsRg]; omega, Below.refl _ _⟩
    case round =>
      obtain ⟨k, hk, rfl, rfl, hnn, hbl⟩ := hrel
      by_cases hlt : k < n
      · have hkf : k < f.length := by rw [← Hxn.out]; exact hlt
        obtain ⟨b, o, rfl, hb, g0, g1, g2⟩ := RdRg.cells HV.out hkf
        have q0 := (hbl.cell (by exact hb)).trans g0
        have q1 := (hbl.cell (by exact hb)).trans g1
        have q2 := (hbl.cell (by exact hb)).trans g2
        have hYs := Hok.out k hkf
        have Ho : Hid (labsRg f (k + 1) = labsRg f k + (rgnth f k).lab.size) := Lib.hid rfl
        have hmo := labsRg_mono f (show k + 1 ≤ n by omega)
        rw [Ho.out] at hmo
        obtain ⟨Y, hY⟩ : ∃ Y, Y = rgnth f k := ⟨_, rfl⟩
        rw [← hY] at q0 q1 q2 hYs Ho hmo
        obtain ⟨L, hL⟩ : ∃ L, L = labsRg f k := ⟨_, rfl⟩
        rw [← hL] at hnn Ho hmo ⊢
        have hys : Y.lab.size ≤ maxLen := hYs.2
        clear hY hL hYs g0 g1 g2
        by_cases hb0 : (Y.lab.size : Int) ≤ l - n - (L : Int)
        · have hb1 : ¬ (l - n - (L : Int) - (Y.lab.size : Int) < 0) := by omega
          go_wp2_with fail
          refine (szReg_any Y _ _ hnn (by omega) hys).mono ?_
          rw [if_pos hb0]
          rintro e w1 ⟨rfl, hbx⟩
          go_wp2_with fail
          go_roundw
          case rel => exact ⟨k + 1, by omega, by go_num, by rw [Ho.out]; go_num, by rw [Ho.out]; omega, below_trans' hbl hbx⟩
          case measure => simp [intOf]; omega
        · have Hs := Lib.hid (Hneg.out (by omega))
          go_wp2_with fail
          refine (szReg_any Y _ _ hnn (by omega) hys).mono ?_
          rw [if_neg (by omega)]
          rintro e w1 ⟨rfl, hbx⟩
          go_wp2_with fail
          go_ret
          exact ⟨by rw [Hs.out]; rfl, below_trans' hbl hbx⟩
      · obtain rfl : k = n := by omega
        have Hs : Hid (szRg f l = l - k - (labsRg f k : Int)) := Lib.hid (by
          unfold szRg totRg
          rw [← Hxn.out, if_pos (by omega)]
          omega)
        go_wp2_with fail
        go_ret
        exact ⟨by rw [Hs.out]; rfl, hbl⟩
  · have hs0 : l - (n : Int) < 0 := by omega
    have Hs := Lib.hid (Hneg.out (by omega))
    go_enter Tryz.func8, Tryz.ntmps8
    go_wp2_with fail
    go_ret
    exact ⟨by rw [Hs.out]; rfl, Below.refl _ _⟩
end Go.Proofs.YtcakmchefbohoaaGreatDoor
