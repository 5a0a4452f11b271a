/- The laws' own helpers over slices of Node: sz, to, eq. -/
import Derived.Test.YtcakmchefbohoaaGreatDoorProg
import Derived.Test.YtcakmchefbohoaaGreatDoorMem
import Derived.Test.YtcakmchefbohoaaGreatDoorMath
import Derived.Test.YtcakmchefbohoaaGreatDoorOpenI
import Derived.Test.YtcakmchefbohoaaGreatDoorHelpI
import Derived.Test.YtcakmchefbohoaaGreatDoorGrid
import Derived.Test.YtcakmchefbohoaaGreatDoorLab
import Derived.Test.YtcakmchefbohoaaGreatDoorNode
import Derived.WalkKit
import Derived.BigQuiet
import Derived.BigRegion
import Derived.StillTailTactics
import Derived.Deep.QuietTactic
import Derived.Laws.ResultCell
import Derived.Laws.OwnMore
import Derived.Lib.Hide
import Derived.Outline
set_option linter.unusedVariables false
set_option linter.unusedSimpArgs false
namespace Go.Proofs.YtcakmchefbohoaaGreatDoor
open Go.RowKit

def ndA (n : Nd) : Value := .agg #[.int .i64 n.kind, .int .i64 n.var, .string n.lab, .bool n.neg]
theorem szNode_any (n : Nd) (l : Int) (w : World) (h0 : 0 ≤ l) (h1 : l ≤ 1048576) (hn : n.lab.size ≤ maxLen) :
    Calls Tryz.prog 35 #[.agg #[.int .i64 n.kind, .int .i64 n.var, .string n.lab, .bool n.neg], .int .i64 l] w fun e w' => e = .returned (.int .i64 (if (n.lab.size : Int) ≤ l then l - (n.lab.size : Int) else -1)) ∧ Below w.heap.size w w' := by
  unfold maxLen at hn
  by_cases hs : (n.lab.size : Int) ≤ l
  · have hs0 : ¬ (l - (n.lab.size : Int) < 0) := by omega
    rw [if_pos hs]
    go_enter Tryz.func35, Tryz.ntmps35
    go_wp2_with fail
    go_ret
    exact ⟨rfl, (Below.refl _ _).alloc (Nat.le_refl _) _⟩
  · have hs0 : l - (n.lab.size : Int) < 0 := by omega
    rw [if_neg hs]
    go_enter Tryz.func35, Tryz.ntmps35
    go_wp2_with fail
    go_ret
    exact ⟨rfl, (Below.refl _ _).alloc (Nat.le_refl _) _⟩
set_option maxHeartbeats 800000 in
theorem toNode_any (n : Nd) (w : World) :
    Calls Tryz.prog 40 #[.agg #[.int .i64 n.kind, .int .i64 n.var, .string n.lab, .bool n.neg]] w fun e w' => e = .returned (.agg #[.int .i64 n.kind, .int .i64 n.var, .string n.lab, .bool n.neg]) ∧ Below w.heap.size w w' := by
  go_enter Tryz.func40, Tryz.ntmps40
  go_wp2_with fail
  refine bodyPost_ret (results_cell_row rfl _ _ (w.heap.size + 1) 65 #[.int .i64 n.kind, .int .i64 n.var, .string n.lab, .bool n.neg] (0, 0) _ rfl ?q1 Tryz.underlying65 rfl ?q2) rfl ?q3
  case q1 =>
    show (((w.heap.push _).push _).push _)[w.heap.size + 1]? = some _
    rw [Array.getElem?_push, if_neg (by simp), Array.getElem?_push, if_pos (by simp)]
  case q2 => kernel_rfl
  case q3 =>
    refine ⟨rfl, ?_⟩
    refine (((Below.refl _ w).alloc (Nat.le_refl _) _).alloc ?_ _).alloc ?_ _
    · simp
    · simp; omega
set_option maxHeartbeats 800000 in
theorem eqNode_any (a b : Nd) (w : World) :
    Calls Tryz.prog 42 #[.agg #[.int .i64 a.kind, .int .i64 a.var, .string a.lab, .bool a.neg], .agg #[.int .i64 b.kind, .int .i64 b.var, .string b.lab, .bool b.neg]] w fun e w' => e = .returned (.bool (decide (a = b))) ∧ Below w.heap.size w w' := by
  go_enter Tryz.func42, Tryz.ntmps42
  go_wp2_with fail
  all_goals
    go_ret
    refine ⟨?_, ((Below.refl _ w).alloc (Nat.le_refl _) _).alloc (by simp) _⟩
    congr 2
    have hlt : ∀ x y : ByteArray, (x.toList == y.toList) = decide (x = y) := beq_text
    cases a
    cases b
    simp_all
theorem infoNd : (Tryz.prog.info? 65).map (fun i => (i.zero, i.size, i.bytes)) = some (some (.agg #[.int .i64 0, .int .i64 0, .string ByteArray.empty, .bool false]), 4, 40) := by kernel_rfl
set_option maxRecDepth 100000 in
set_option maxHeartbeats 1600000 in
theorem toNodeS_any (v : Value) (f : List Nd) (w : World) (hn : f.length ≤ 1048576) (hv : RdNd w v f) :
    Calls Tryz.prog 12 #[v] w fun e w' => ∃ u, e = .returned u ∧ OwNd w' w.heap.size u f ∧ Below w.heap.size w w' := by
  have HV := Lib.hid hv
  obtain ⟨a, cap, rfl, hcap, _, hv⟩ := hv
  obtain ⟨i0, hi, hz0, hz1, hz2⟩ := info_parts infoNd
  obtain ⟨n, hxn⟩ : ∃ n, n = f.length := ⟨_, rfl⟩
  rw [← hxn] at hcap hv hn HV
  have Hxn := Lib.hid hxn; clear hxn
  rw [← Hxn.out]
  go_enter Tryz.func12, Tryz.ntmps12
  go_wp2_with (at_make; refine wpList_make_full _ rfl _ _ 26 rfl w.heap.size 65 i0 (.agg #[.int .i64 0, .int .i64 0, .string ByteArray.empty, .bool false]) 4 Tryz.underlying26 hi hz0 hz1 _ _ _ _ n rfl rfl rfl rfl ?b2 ?b3 (Nat.le_refl _) ?_)
  case b2 => rw [hz2]; omega
  case b3 => unfold maxLen; omega
  intro w0 hown0 hgrow0
  obtain ⟨Z, hZ⟩ : ∃ Z : List Value, Z = (madeCells #[.int .i64 0, .int .i64 0, .string ByteArray.empty, .bool false] (n * 4)).toList := ⟨_, rfl⟩
  rw [← hZ] at hown0
  clear hZ
  go_wp2_with fail
  go_loopw [4] (fun si wr => ∃ (k : Nat) (X : List Value), k ≤ n ∧ si = .int .i64 k ∧ Hid (wr.ownsRow w.heap.size 65 4 (.slice (some ⟨w.heap.size, 0, none⟩) n n) n X) ∧ Hid (∀ i, i < k * 4 → X[i]? = some (ndc f i)) ∧ Below w.heap.size w wr)
    (fun si _ => n - (intOf si).toNat)
  case atStart => exact ⟨0, Z, Nat.zero_le _, rfl, Lib.hid hown0, Lib.hid (fun i h => absurd h (by omega)), (Below.refl _ _).grown hgrow0 (Nat.le_refl _) (fun k h => by cases h)⟩
  case round =>
    clear hown0 hgrow0
    obtain ⟨k, X, hk, rfl, HO, HX, hbl⟩ := hrel
    by_cases hlt : k < n
    · have hkf : k < f.length := by rw [← Hxn.out]; exact hlt
      obtain ⟨b, o, rfl, hb, g0, g1, g2, g3⟩ := RdNd.cells HV.out hkf
      have q0 := (hbl.cell (by exact hb)).trans g0
      have q1 := (hbl.cell (by exact hb)).trans g1
      have q2 := (hbl.cell (by exact hb)).trans g2
      have q3 := (hbl.cell (by exact hb)).trans g3
      obtain ⟨Y, hY⟩ : ∃ Y, Y = ndnth f k := ⟨_, rfl⟩
      rw [← hY] at q0 q1 q2 q3
      have HY := Lib.hid hY
      clear hY g0 g1 g2 g3
      go_wp2_with fail
      refine (toNode_any Y _).mono ?_
      rintro e w1 ⟨rfl, hb1⟩
      have hO1 := ownsRow_below HO.out hb1
      have hbl1 := below_trans' hbl hb1
      have HO1 := Lib.hid hO1
      have hXl : X.length = n * 4 := hO1.1
      have p0 : w1.cell? ⟨w.heap.size, k * 4, none⟩ = some (X.getD (k * 4) undef) := by
        rw [hO1.cellAt (k * 4) (by omega)]
        rw [List.getD_eq_getElem?_getD, List.getElem?_eq_getElem (by omega)]; rfl
      have z0 := hO1.frozenAt (k * 4)
      have p1 : w1.cell? ⟨w.heap.size, k * 4 + 1, none⟩ = some (X.getD (k * 4 + 1) undef) := by
        rw [hO1.cellAt (k * 4 + 1) (by omega)]
        rw [List.getD_eq_getElem?_getD, List.getElem?_eq_getElem (by omega)]; rfl
      have z1 := hO1.frozenAt (k * 4 + 1)
      have p2 : w1.cell? ⟨w.heap.size, k * 4 + 2, none⟩ = some (X.getD (k * 4 + 2) undef) := by
        rw [hO1.cellAt (k * 4 + 2) (by omega)]
        rw [List.getD_eq_getElem?_getD, List.getElem?_eq_getElem (by omega)]; rfl
      have z2 := hO1.frozenAt (k * 4 + 2)
      have p3 : w1.cell? ⟨w.heap.size, k * 4 + 3, none⟩ = some (X.getD (k * 4 + 3) undef) := by
        rw [hO1.cellAt (k * 4 + 3) (by omega)]
        rw [List.getD_eq_getElem?_getD, List.getElem?_eq_getElem (by omega)]; rfl
      have z3 := hO1.frozenAt (k * 4 + 3)
      clear HO hO1 hbl
      have s0 := (HO1.out.stored (k * 4) (.int .i64 Y.kind)).1
      have s1 := (s0.stored (k * 4 + 1) (.int .i64 Y.var)).1
      have s2 := (s1.stored (k * 4 + 2) (.string Y.lab)).1
      have s3 := (s2.stored (k * 4 + 3) (.bool Y.neg)).1
      have hX4 : ∀ i, i < (k + 1) * 4 → (((((X).set (k * 4) (.int .i64 Y.kind)).set (k * 4 + 1) (.int .i64 Y.var)).set (k * 4 + 2) (.string Y.lab)).set (k * 4 + 3) (.bool Y.neg))[i]? = some (ndc f i) := by
        intro i hi
        by_cases h : i < k * 4
        · rw [List.getElem?_set_ne (by omega), List.getElem?_set_ne (by omega), List.getElem?_set_ne (by omega), List.getElem?_set_ne (by omega)]
          exact HX.out i h
        · obtain ⟨j, hj, rfl⟩ : ∃ j, j < 4 ∧ i = k * 4 + j := ⟨i - k * 4, by omega, by omega⟩
          rw [ndc_at f k j hj, ← HY.out]
          have hc : j = 0 ∨ j = 1 ∨ j = 2 ∨ j = 3 := by omega
          rcases hc with rfl | rfl | rfl | rfl
          · rw [List.getElem?_set_ne (by omega), List.getElem?_set_ne (by omega), List.getElem?_set_ne (by omega), List.getElem?_set, if_pos (by omega), if_pos (by first | omega | (simp only [List.length_set]; omega))]; rfl
          · rw [List.getElem?_set_ne (by omega), List.getElem?_set_ne (by omega), List.getElem?_set, if_pos (by omega), if_pos (by first | omega | (simp only [List.length_set]; omega))]; rfl
          · rw [List.getElem?_set_ne (by omega), List.getElem?_set, if_pos (by omega), if_pos (by first | omega | (simp only [List.length_set]; omega))]; rfl
          · rw [List.getElem?_set, if_pos (by omega), if_pos (by first | omega | (simp only [List.length_set]; omega))]; rfl
      have HX4 := Lib.hid hX4
      have HS4 := Lib.hid s3
      have hblS : Below w.heap.size w (((((w1).setCell ⟨w.heap.size, k * 4, none⟩ (.int .i64 Y.kind)).setCell ⟨w.heap.size, k * 4 + 1, none⟩ (.int .i64 Y.var)).setCell ⟨w.heap.size, k * 4 + 2, none⟩ (.string Y.lab)).setCell ⟨w.heap.size, k * 4 + 3, none⟩ (.bool Y.neg)) := ((((hbl1).setCell (Nat.le_refl _) _).setCell (Nat.le_refl _) _).setCell (Nat.le_refl _) _).setCell (Nat.le_refl _) _
      clear hX4 s0 s1 s2 s3
      go_wp2_with fail
      go_roundw
      case rel => exact ⟨k + 1, _, by omega, by go_num, HS4, HX4, hblS⟩
      case measure => simp [intOf]; omega
    · obtain rfl : k = n := by omega
      have HR : Hid (OwNd wr w.heap.size (.slice (some ⟨w.heap.size, 0, none⟩) k k) f) := Lib.hid (by
        have e := Hxn.out
        unfold OwNd
        rw [← e]
        exact ownsRow_ow HO.out _ fun i hi => HX.out i hi)
      go_wp2_with fail
      go_ret
      exact ⟨_, rfl, HR.out, hbl⟩
set_option maxRecDepth 100000 in
set_option maxHeartbeats 1600000 in
theorem eqNodeS_any (va vb : Value) (f g : List Nd) (w : World) (hn : f.length ≤ 9223372036854775000) (ha : RdNd w va f) (hb : RdNd w vb g) :
    Calls Tryz.prog 14 #[va, vb] w fun e w' => e = .returned (.bool (decide (f = g))) ∧ Below w.heap.size w w' := by
  have HVa := Lib.hid ha
  have HVb := Lib.hid hb
  obtain ⟨a, capa, rfl, hcapa, hma, ha⟩ := ha
  obtain ⟨b, capb, rfl, hcapb, hmb, hb⟩ := hb
  unfold maxLen at hma hmb
  clear ha hb
  by_cases hl : f.length = g.length
  · obtain ⟨n, hxn⟩ : ∃ n, n = f.length := ⟨_, rfl⟩
    rw [← hxn] at hl
    rw [← hl] at hcapb HVb ⊢
    rw [← hxn] at hcapa HVa hn ⊢
    have Hxn := Lib.hid hxn; clear hxn
    have Hyn := Lib.hid hl; clear hl
    go_enter Tryz.func14, Tryz.ntmps14
    go_wp2_with fail
    go_loopw [5] (fun si wr => ∃ k : Nat, k ≤ n ∧ si = .int .i64 k ∧ Hid (f.take k = g.take k) ∧ Below w.heap.size w wr) (fun si _ => n - (intOf si).toNat)
    case atStart => exact ⟨0, Nat.zero_le _, rfl, Lib.hid rfl, Below.refl _ _⟩
    case round =>
      obtain ⟨k, hk, rfl, heq, hbl⟩ := hrel
      by_cases hlt : k < n
      · have hkf : k < f.length := by rw [← Hxn.out]; exact hlt
        have hkg : k < g.length := by rw [← Hyn.out]; exact hlt
        obtain ⟨ba1, oa1, rfl, hba, g0, g1, g2, g3⟩ := RdNd.cells HVa.out hkf
        obtain ⟨bb1, ob1, rfl, hbb, h0, h1, h2, h3⟩ := RdNd.cells HVb.out hkg
        have a0 := (hbl.drew.cell (by exact hba)).trans g0
        have a1 := (hbl.drew.cell (by exact hba)).trans g1
        have a2 := (hbl.drew.cell (by exact hba)).trans g2
        have a3 := (hbl.drew.cell (by exact hba)).trans g3
        have c0 := (hbl.drew.cell (by exact hbb)).trans h0
        have c1 := (hbl.drew.cell (by exact hbb)).trans h1
        have c2 := (hbl.drew.cell (by exact hbb)).trans h2
        have c3 := (hbl.drew.cell (by exact hbb)).trans h3
        obtain ⟨Y, hY⟩ : ∃ Y, Y = ndnth f k := ⟨_, rfl⟩
        obtain ⟨Z, hZ⟩ : ∃ Z, Z = ndnth g k := ⟨_, rfl⟩
        rw [← hY] at a0 a1 a2 a3
        rw [← hZ] at c0 c1 c2 c3
        have HY := Lib.hid hY
        have HZ := Lib.hid hZ
        have hbd := hbl.drew
        clear hY hZ g0 h0 g1 h1 g2 h2 g3 h3
        have hkm : k < maxLen := by unfold maxLen; omega
        have HN : Hid (Y = Z → f.take (k + 1) = g.take (k + 1)) := Lib.hid (fun e => by rw [take_ndnth f k hkf, take_ndnth g k hkg, heq.out, ← HY.out, ← HZ.out, e])
        have HF : Hid (Y ≠ Z → decide (f = g) = false) := Lib.hid (fun e => decide_eq_false fun h => e (by rw [HY.out, HZ.out, h]))
        go_wp2_with fail
        refine wp_region_still_tail 8 (by kernel_rfl) (by kernel_rfl) ?_
        simp only [List.take_succ_cons, List.take_zero, List.drop_succ_cons, List.drop_zero]
        change wpStill _ _ wr.drew (fun a' => wpList _ _ _ _ a' wr.drew) _ _
        generalize wr.drew = w2 at *
        repeat still_step
        refine wpStill_nil ?_
        go_wp2_with fail
        refine (eqNode_any Y Z _).mono ?_
        by_cases e : Y = Z
        · have HN2 := Lib.hid (HN.out e)
          rw [decide_eq_true e]
          rintro e w3 ⟨rfl, hb3⟩
          clear HN HF e hbl
          go_wp2_with fail
          go_roundw
          case rel => exact ⟨k + 1, by omega, by go_num, HN2, below_trans' hbd hb3⟩
          case measure => simp [intOf]; omega
        · have HF2 := Lib.hid (HF.out e)
          rw [decide_eq_false e]
          rintro e w3 ⟨rfl, hb3⟩
          clear HN HF e hbl
          go_wp2_with fail
          go_ret
          exact ⟨by rw [HF2.out]; rfl, below_trans' hbd hb3⟩
      · obtain rfl : k = n := by omega
        have HE : Hid (decide (f = g) = true) := Lib.hid (by
          have h := heq.out
          rw [List.take_of_length_le (by rw [Hxn.out]; exact Nat.le_refl _), List.take_of_length_le (by rw [Hyn.out]; exact Nat.le_refl _)] at h
          exact decide_eq_true h)
        go_wp2_with fail
        go_ret
        exact ⟨by rw [HE.out]; rfl, hbl⟩
  · have hne : decide (f = g) = false := decide_eq_false fun e => hl (by rw [e])
    rw [hne]
    have h1 : ((f.length : Int) != (g.length : Int)) = true := by simp; omega
    go_enter Tryz.func14, Tryz.ntmps14
    go_wp2_with fail
    go_ret
    exact ⟨rfl, Below.refl _ _⟩
def labsNd (f : List Nd) : Nat → Nat
  | 0 => 0
  | i + 1 => labsNd f i + (ndnth f i).lab.size
theorem labsNd_mono (f : List Nd) {i j : Nat} (h : i ≤ j) : labsNd f i ≤ labsNd f j := by
  induction j with
  | zero => rw [show i = 0 by omega]; exact Nat.le_refl _
  | succ j ih =>
    by_cases e : i = j + 1
    · rw [e]; exact Nat.le_refl _
    · have := ih (by omega)
      rw [labsNd]; omega
def totNd (f : List Nd) : Nat := f.length + labsNd f f.length
theorem lab_leNd (f : List Nd) (i : Nat) (h : i < f.length) : (ndnth f i).lab.size ≤ totNd f := by
  have := labsNd_mono f (show i + 1 ≤ f.length by omega)
  rw [labsNd] at this
  unfold totNd; omega
def szNd (f : List Nd) (l : Int) : Int := if (totNd f : Int) ≤ l then l - (totNd f : Int) else -1
set_option maxRecDepth 100000 in
set_option maxHeartbeats 800000 in
theorem szNodeS_any (v : Value) (f : List Nd) (l : Int) (w : World) (h0 : 0 ≤ l) (h1 : l ≤ 1048576) (hok : NdsOk f) (hv : RdNd w v f) :
    Calls Tryz.prog 9 #[v, .int .i64 l] w fun e w' => e = .returned (.int .i64 (szNd f l)) ∧ Below w.heap.size w w' := by
  have HV := Lib.hid hv
  have Hok := Lib.hid hok
  obtain ⟨a, cap, rfl, hcap, hm, hv⟩ := hv
  unfold maxLen at hm
  obtain ⟨n, hxn⟩ : ∃ n, n = f.length := ⟨_, rfl⟩
  rw [← hxn] at hcap HV ⊢
  have Hxn := Lib.hid hxn
  clear hxn hv hok
  have Hneg : Hid (¬ ((n : Int) + (labsNd f n : Int) ≤ l) → szNd f l = -1) := Lib.hid (fun h => by
    unfold szNd totNd
    rw [if_neg (by rw [← Hxn.out]; omega)])
  by_cases hs : (n : Int) ≤ l
  · have hs0 : ¬ (l - (n : Int) < 0) := by omega
    go_enter Tryz.func9, Tryz.ntmps9
    go_wp2_with fail
    go_loopw [1, 5] (fun sl si wr => ∃ k : Nat, k ≤ n ∧ si = .int .i64 k ∧ sl = .int .i64 (l - n - (labsNd f k : Int)) ∧ 0 ≤ l - n - (labsNd f k : Int) ∧ Below w.heap.size w wr) (fun _ si _ => n - (intOf si).toNat)
    case atStart => exact ⟨0, Nat.zero_le _, rfl, by simp [labsNd], by simp [labsNd]; omega, Below.refl _ _⟩
    case round =>
      obtain ⟨k, hk, rfl, rfl, hnn, hbl⟩ := hrel
      by_cases hlt : k < n
      · have hkf : k < f.length := by rw [← Hxn.out]; exact hlt
        obtain ⟨b, o, rfl, hb, g0, g1, g2, g3⟩ := RdNd.cells HV.out hkf
        have q0 := (hbl.cell (by exact hb)).trans g0
        have q1 := (hbl.cell (by exact hb)).trans g1
        have q2 := (hbl.cell (by exact hb)).trans g2
        have q3 := (hbl.cell (by exact hb)).trans g3
        have hYs := Hok.out k hkf
        have Ho : Hid (labsNd f (k + 1) = labsNd f k + (ndnth f k).lab.size) := Lib.hid rfl
        have hmo := labsNd_mono f (show k + 1 ≤ n by omega)
        rw [Ho.out] at hmo
        obtain ⟨Y, hY⟩ : ∃ Y, Y = ndnth f k := ⟨_, rfl⟩
        rw [← hY] at q0 q1 q2 q3 hYs Ho hmo
        obtain ⟨L, hL⟩ : ∃ L, L = labsNd f k := ⟨_, rfl⟩
        rw [← hL] at hnn Ho hmo ⊢
        have hys : Y.lab.size ≤ maxLen := hYs.2.2
        clear hY hL hYs g0 g1 g2 g3
        by_cases hb0 : (Y.lab.size : Int) ≤ l - n - (L : Int)
        · have hb1 : ¬ (l - n - (L : Int) - (Y.lab.size : Int) < 0) := by omega
          go_wp2_with fail
          refine (szNode_any Y _ _ hnn (by omega) hys).mono ?_
          rw [if_pos hb0]
          rintro e w1 ⟨rfl, hbx⟩
          go_wp2_with fail
          go_roundw
          case rel => exact ⟨k + 1, by omega, by go_num, by rw [Ho.out]; go_num, by rw [Ho.out]; omega, below_trans' hbl hbx⟩
          case measure => simp [intOf]; omega
        · have Hs := Lib.hid (Hneg.out (by omega))
          go_wp2_with fail
          refine (szNode_any Y _ _ hnn (by omega) hys).mono ?_
          rw [if_neg (by omega)]
          rintro e w1 ⟨rfl, hbx⟩
          go_wp2_with fail
          go_ret
          exact ⟨by rw [Hs.out]; rfl, below_trans' hbl hbx⟩
      · obtain rfl : k = n := by omega
        have Hs : Hid (szNd f l = l - k - (labsNd f k : Int)) := Lib.hid (by
          unfold szNd totNd
          rw [← Hxn.out, if_pos (by omega)]
          omega)
        go_wp2_with fail
        go_ret
        exact ⟨by rw [Hs.out]; rfl, hbl⟩
  · have hs0 : l - (n : Int) < 0 := by omega
    have Hs := Lib.hid (Hneg.out (by omega))
    go_enter Tryz.func9, Tryz.ntmps9
    go_wp2_with fail
    go_ret
    exact ⟨by rw [Hs.out]; rfl, Below.refl _ _⟩
end Go.Proofs.YtcakmchefbohoaaGreatDoor
