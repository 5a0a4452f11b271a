/- The laws' own copies: to. -/
import Derived.Test.YtdlldgenkmngiaaProg
import Derived.Test.YtdlldgenkmngiaaMem
import Derived.Test.YtdlldgenkmngiaaMath
import Derived.Test.YtdlldgenkmngiaaBasics
import Derived.Test.YtdlldgenkmngiaaOpenI
import Derived.Test.YtdlldgenkmngiaaHelpI
import Derived.Test.YtdlldgenkmngiaaGrid
import Derived.Test.YtdlldgenkmngiaaRows2
import Derived.Test.YtdlldgenkmngiaaSt
import Derived.WalkKit
import Derived.BigQuiet
import Derived.BigRegion
import Derived.StillTailTactics
import Derived.Deep.QuietTactic
import Derived.Laws.ResultCell
import Derived.Laws.OwnMore
import Derived.Lib.Hide
import Derived.Outline
set_option linter.unusedVariables false
set_option linter.unusedSimpArgs false
namespace Go.Proofs.Ytdlldgenkmngiaa
open Go.RowKit
set_option maxRecDepth 100000 in
set_option maxHeartbeats 1600000 in
theorem toI_any {lo hi : Nat} (v : Value) (f : List Int) (w : World) (hn : totI f ≤ 1048576) (hv : GI w lo hi v f) :
    Calls Try.prog 56 #[v] w fun e w' => ∃ u, e = .returned u ∧ GI w' w.heap.size w'.heap.size u f ∧ Below w.heap.size w w' := by
  refine (toInt64S_any v f w hn hv.rd).mono ?_
  rintro e w1 ⟨u, rfl, hu, hb⟩
  exact ⟨u, rfl, hu.gi, hb⟩
theorem infoGS : (Try.prog.info? 9).map (fun i => (i.zero, i.size, i.bytes)) = some (some (.string ByteArray.empty), 1, 16) := by kernel_rfl
set_option maxRecDepth 100000 in
set_option maxHeartbeats 1600000 in
theorem toS_any {lo hi : Nat} (v : Value) (f : List ByteArray) (w : World) (hn : totS f ≤ 1048576) (hv : GS w lo hi v f) :
    Calls Try.prog 32 #[v] w fun e w' => ∃ u, e = .returned u ∧ GS w' w.heap.size w'.heap.size u f ∧ Below w.heap.size w w' := by
  have HV := Lib.hid hv
  obtain ⟨a, cap, rfl, hcap, _⟩ := Rws.slice hv
  obtain ⟨i0, hi, hz0, hz1, hz2⟩ := info_parts infoGS
  unfold totS at hn
  have hln : f.length ≤ 1048576 := by omega
  have Hwt : Hid (∀ i, i < f.length → (snth f i).size ≤ 1048576) := Lib.hid (fun i hi => by
    have h : (snth f i).size ≤ _ := sumTo_le (fun i => (snth f i).size) hi
    omega)
  obtain ⟨n, hxn⟩ : ∃ n, n = f.length := ⟨_, rfl⟩
  rw [← hxn] at hcap hln HV
  have Hxn := Lib.hid hxn
  rw [← hxn]
  clear hxn hv hn
  go_enter Try.func32, Try.ntmps32
  go_wp2_with (at_make; refine wpList_make_full _ rfl _ _ 29 rfl w.heap.size 9 i0 (.string ByteArray.empty) 1 Try.underlying29 hi hz0 hz1 _ _ _ _ n rfl rfl rfl rfl ?b2 ?b3 (Nat.le_refl _) ?_)
  case b2 => rw [hz2]; omega
  case b3 => unfold maxLen; omega
  intro w0 hown0 hgrow0
  obtain ⟨Z, hZ⟩ : ∃ Z : List Value, Z = (madeCells #[.string ByteArray.empty] n).toList := ⟨_, rfl⟩
  rw [← hZ] at hown0
  clear hZ
  go_wp2_with fail
  go_loopw [4] (fun si wr => ∃ (k : Nat) (X : List Value), k ≤ n ∧ si = .int .i64 k ∧ Hid (wr.ownsRow w.heap.size 9 1 (.slice (some ⟨w.heap.size, 0, none⟩) n n) n X) ∧ Hid (∀ i j, i < k → j < 1 → ∃ u, X[i * 1 + j]? = some u ∧ u = .string (snth f i)) ∧ Below w.heap.size w wr)
    (fun si _ => n - (intOf si).toNat)
  case atStart => exact ⟨0, Z, Nat.zero_le _, rfl, Lib.hid hown0, Lib.hid (fun i j h => absurd h (by omega)), (Below.refl _ _).grown hgrow0 (Nat.le_refl _) (fun k h => by cases h)⟩
  case round =>
    clear hown0 hgrow0
    obtain ⟨k, X, hk, rfl, HO, HX, hbl⟩ := hrel
    have hsz1 : w.heap.size < wr.heap.size := (HO.out.lt w.heap.size rfl).2
    by_cases hlt : k < n
    · have hkf : k < f.length := by rw [← Hxn.out]; exact hlt
      obtain ⟨b, o, rfl, hb, g0⟩ := GS.cells HV.out hkf
      have q0 := (hbl.cell (by exact hb)).trans g0
      clear g0
      obtain ⟨Y, hY⟩ : ∃ Y, Y = snth f k := ⟨_, rfl⟩
      have hwk := Hwt.out k hkf
      rw [← hY] at hwk q0
      have HY := Lib.hid hY
      clear hY
      obtain ⟨w1, hw1⟩ : ∃ w1, w1 = wr := ⟨_, rfl⟩
      have hb1 : Below wr.heap.size wr w1 := by rw [hw1]; exact Below.refl _ _
      have hO1 := ownsRow_below HO.out hb1
      have hbl1 := below_trans' hbl hb1
      have HO1 := Lib.hid hO1
      have hXl : X.length = n * 1 := hO1.1
      have p0 : w1.cell? ⟨w.heap.size, k, none⟩ = some (X.getD (k) undef) := by
        rw [hO1.cellAt (k) (by omega)]
        rw [List.getD_eq_getElem?_getD, List.getElem?_eq_getElem (by omega)]; rfl
      have z0 := hO1.frozenAt (k)
      clear HO hO1
      have s0 := (HO1.out.stored (k) (.string Y)).1
      have HX4 : Hid (∀ i j, i < k + 1 → j < 1 → ∃ u, ((X).set (k) (.string Y))[i * 1 + j]? = some u ∧ u = .string (snth f i)) := by
        have hws : ((w1).setCell ⟨w.heap.size, k, none⟩ (.string Y)).heap.size = w1.heap.size := by simp [size_setCell]
        have hkp : ∀ lo hi, w.heap.size < lo → Keep lo hi w1 ((w1).setCell ⟨w.heap.size, k, none⟩ (.string Y)) := fun lo hi h => ((Keep.refl _ _ _).setCell (Or.inl h) _)
        have hz1' := hb1.size
        refine Lib.hid fun i j hi hj => ?_
        by_cases h : i < k
        · obtain ⟨u, hu, hq⟩ := HX.out i j h hj
          refine ⟨u, ?_, ?_⟩
          · rw [List.getElem?_set_ne (by omega)]; exact hu
          · exact hq
        rw [show i = k by omega]
        match j, hj with
        | 0, _ => exact ⟨_, by rw [List.getElem?_set, if_pos (by omega), if_pos (by first | omega | (simp only [List.length_set]; omega))], (by rw [← HY.out])⟩
      have HS4 := Lib.hid s0
      have hblS : Below w.heap.size w ((w1).setCell ⟨w.heap.size, k, none⟩ (.string Y)) := (hbl1).setCell (Nat.le_refl _) _
      clear s0 hbl HX
      subst hw1
      go_wp2_with fail
      go_roundw
      case rel => exact ⟨k + 1, _, by omega, by go_num, HS4, HX4, hblS⟩
      case measure => simp [intOf]; omega
    · obtain rfl : k = n := by omega
      have HR : Hid (GS wr w.heap.size wr.heap.size (.slice (some ⟨w.heap.size, 0, none⟩) k k) f) := Lib.hid (by
        unfold GS
        rw [← Hxn.out]
        refine Rws_of_own HO.out (Nat.le_refl _) fun i j hi hj => ?_
        obtain ⟨u, hu, hq⟩ := HX.out i j hi hj
        exact ⟨u, hu, hq⟩)
      go_wp2_with fail
      go_ret
      exact ⟨_, rfl, HR.out, hbl⟩
set_option maxRecDepth 100000 in
set_option maxHeartbeats 800000 in
theorem toVxe_any {lo hi : Nat} (n : Vx) {sa2 : Option Addr} {sc2 : Nat} (w : World) (hn : wtVx n ≤ 1048576) (hs2 : GI w lo hi (.slice sa2 n.nxt.length sc2) n.nxt) :
    Calls Try.prog 23 #[.agg #[.int .i64 n.own, .int .i64 n.pri, .slice sa2 n.nxt.length sc2]] w fun e w' => ∃ ra2 rc2, e = .returned (.agg #[.int .i64 n.own, .int .i64 n.pri, .slice ra2 n.nxt.length rc2]) ∧ GI w' w.heap.size w'.heap.size (.slice ra2 n.nxt.length rc2) n.nxt ∧ Below w.heap.size w w' := by
  unfold wtVx at hn
  go_enter Try.func23, Try.ntmps23
  go_wp2_with fail
  refine (toI_any _ _ _ (by omega) (hs2.keep (Keep.of_below _ _ (below3 _ _ _ _)))).mono ?_
  rintro e w1 ⟨u, rfl, hu, hb1⟩
  obtain ⟨ra, rc, rfl, _⟩ := Rws.slice hu
  simp only [World.size_alloc] at hu
  have HU := Lib.hid hu
  clear hu
  have e2 := box_third hb1
  have e1 := box_second hb1
  have z1 := hb1.size
  have p0 : w1.cell? ⟨w.heap.size + 1 + 1, 0, none⟩ = some (.int .i64 n.own) := by simp [World.cell?, e2]
  have q0 : w1.cell? ⟨w.heap.size + 1, 0, none⟩ = some (.int .i64 0) := by first | (simp [World.cell?, e1]; done) | (simp [World.cell?, e1]; rfl)
  have p1 : w1.cell? ⟨w.heap.size + 1 + 1, 1, none⟩ = some (.int .i64 n.pri) := by simp [World.cell?, e2]
  have q1 : w1.cell? ⟨w.heap.size + 1, 1, none⟩ = some (.int .i64 0) := by first | (simp [World.cell?, e1]; done) | (simp [World.cell?, e1]; rfl)
  have p2 : w1.cell? ⟨w.heap.size + 1 + 1, 2, none⟩ = some (.slice none 0 0) := by simp [World.cell?, e2]
  have q2 : w1.cell? ⟨w.heap.size + 1, 2, none⟩ = some (.slice none 0 0) := by first | (simp [World.cell?, e1]; done) | (simp [World.cell?, e1]; rfl)
  have f2 : ∀ j, w1.frozen? ⟨w.heap.size + 1 + 1, j, none⟩ = false := by intro j; simp [World.frozen?, e2]
  have f1 : ∀ j, w1.frozen? ⟨w.heap.size + 1, j, none⟩ = false := by intro j; simp [World.frozen?, e1]
  go_wp2_with fail
  have hB : Below w.heap.size w w1 := (below3 w _ _ _).trans (hb1.mono (by simp; omega))
  refine bodyPost_ret (results_cell_row rfl _ _ (w.heap.size + 1) 58 #[.int .i64 n.own, .int .i64 n.pri, .slice ra n.nxt.length rc] (0, 0) _ rfl ?q1 Try.underlying58 rfl ?q2) rfl ?q3
  case q1 =>
    simp [World.setCell, Array.getElem?_modify, e1]
  case q2 => kernel_rfl
  case q3 =>
    refine ⟨_, _, rfl, ?_, ?_⟩
    · refine (HU.out.keep (((((Keep.refl _ _ _).setCell (Or.inl ?_) _).setCell (Or.inl ?_) _).setCell (Or.inl ?_) _).setCell (Or.inl ?_) _)).mono ?_ ?_
      all_goals first | omega | simp [size_setCell]
    · refine ((((hB.setCell ?_ _).setCell ?_ _).setCell ?_ _).setCell ?_ _)
      all_goals first | simp; done | omega | (simp; omega)
theorem infoGVx : (Try.prog.info? 58).map (fun i => (i.zero, i.size, i.bytes)) = some (some (.agg #[.int .i64 0, .int .i64 0, .slice none 0 0]), 3, 40) := by kernel_rfl
set_option maxRecDepth 100000 in
set_option maxHeartbeats 1600000 in
theorem toVx_any {lo hi : Nat} (v : Value) (f : List Vx) (w : World) (hn : totVx f ≤ 1048576) (hv : GVx w lo hi v f) :
    Calls Try.prog 8 #[v] w fun e w' => ∃ u, e = .returned u ∧ GVx w' w.heap.size w'.heap.size u f ∧ Below w.heap.size w w' := by
  have HV := Lib.hid hv
  obtain ⟨a, cap, rfl, hcap, _⟩ := Rws.slice hv
  obtain ⟨i0, hi, hz0, hz1, hz2⟩ := info_parts infoGVx
  unfold totVx at hn
  have hln : f.length ≤ 1048576 := by omega
  have Hwt : Hid (∀ i, i < f.length → wtVx (gnth vx0 f i) ≤ 1048576) := Lib.hid (fun i hi => by
    have h : wtVx (gnth vx0 f i) ≤ _ := sumTo_le (fun i => wtVx (gnth vx0 f i)) hi
    omega)
  obtain ⟨n, hxn⟩ : ∃ n, n = f.length := ⟨_, rfl⟩
  rw [← hxn] at hcap hln HV
  have Hxn := Lib.hid hxn
  rw [← hxn]
  clear hxn hv hn
  go_enter Try.func8, Try.ntmps8
  go_wp2_with (at_make; refine wpList_make_full _ rfl _ _ 25 rfl w.heap.size 58 i0 (.agg #[.int .i64 0, .int .i64 0, .slice none 0 0]) 3 Try.underlying25 hi hz0 hz1 _ _ _ _ n rfl rfl rfl rfl ?b2 ?b3 (Nat.le_refl _) ?_)
  case b2 => rw [hz2]; omega
  case b3 => unfold maxLen; omega
  intro w0 hown0 hgrow0
  obtain ⟨Z, hZ⟩ : ∃ Z : List Value, Z = (madeCells #[.int .i64 0, .int .i64 0, .slice none 0 0] (n * 3)).toList := ⟨_, rfl⟩
  rw [← hZ] at hown0
  clear hZ
  go_wp2_with fail
  go_loopw [4] (fun si wr => ∃ (k : Nat) (X : List Value), k ≤ n ∧ si = .int .i64 k ∧ Hid (wr.ownsRow w.heap.size 58 3 (.slice (some ⟨w.heap.size, 0, none⟩) n n) n X) ∧ Hid (∀ i j, i < k → j < 3 → ∃ u, X[i * 3 + j]? = some u ∧ vxCol wr (w.heap.size + 1) wr.heap.size (gnth vx0 f i) j u) ∧ Below w.heap.size w wr)
    (fun si _ => n - (intOf si).toNat)
  case atStart => exact ⟨0, Z, Nat.zero_le _, rfl, Lib.hid hown0, Lib.hid (fun i j h => absurd h (by omega)), (Below.refl _ _).grown hgrow0 (Nat.le_refl _) (fun k h => by cases h)⟩
  case round =>
    clear hown0 hgrow0
    obtain ⟨k, X, hk, rfl, HO, HX, hbl⟩ := hrel
    have hsz1 : w.heap.size < wr.heap.size := (HO.out.lt w.heap.size rfl).2
    by_cases hlt : k < n
    · have hkf : k < f.length := by rw [← Hxn.out]; exact hlt
      obtain ⟨b, o, rfl, hb, g0, g1, ga2, gc2, g2, gG2⟩ := GVx.cells HV.out hkf
      have q0 := (hbl.cell (by exact hb)).trans g0
      have q1 := (hbl.cell (by exact hb)).trans g1
      have q2 := (hbl.cell (by exact hb)).trans g2
      clear g0 g1 g2
      obtain ⟨Y, hY⟩ : ∃ Y, Y = gnth vx0 f k := ⟨_, rfl⟩
      have hwk := Hwt.out k hkf
      rw [← hY] at hwk q0 q1 q2 gG2
      have HY := Lib.hid hY
      clear hY
      have HgG2 := Lib.hid gG2
      clear gG2
      go_wp2_with fail
      refine (toVxe_any Y _ hwk (HgG2.out.keep (Keep.of_below _ _ hbl))).mono ?_
      rintro e w1 ⟨ra2, rc2, rfl, hu2, hb1⟩
      have HU2 := Lib.hid hu2
      clear hu2
      have hO1 := ownsRow_below HO.out hb1
      have hbl1 := below_trans' hbl hb1
      have HO1 := Lib.hid hO1
      have hXl : X.length = n * 3 := hO1.1
      have p0 : w1.cell? ⟨w.heap.size, k * 3, none⟩ = some (X.getD (k * 3) undef) := by
        rw [hO1.cellAt (k * 3) (by omega)]
        rw [List.getD_eq_getElem?_getD, List.getElem?_eq_getElem (by omega)]; rfl
      have z0 := hO1.frozenAt (k * 3)
      have p1 : w1.cell? ⟨w.heap.size, k * 3 + 1, none⟩ = some (X.getD (k * 3 + 1) undef) := by
        rw [hO1.cellAt (k * 3 + 1) (by omega)]
        rw [List.getD_eq_getElem?_getD, List.getElem?_eq_getElem (by omega)]; rfl
      have z1 := hO1.frozenAt (k * 3 + 1)
      have p2 : w1.cell? ⟨w.heap.size, k * 3 + 2, none⟩ = some (X.getD (k * 3 + 2) undef) := by
        rw [hO1.cellAt (k * 3 + 2) (by omega)]
        rw [List.getD_eq_getElem?_getD, List.getElem?_eq_getElem (by omega)]; rfl
      have z2 := hO1.frozenAt (k * 3 + 2)
      clear HO hO1
      have s0 := (HO1.out.stored (k * 3) (.int .i64 Y.own)).1
      have s1 := (s0.stored (k * 3 + 1) (.int .i64 Y.pri)).1
      have s2 := (s1.stored (k * 3 + 2) (.slice ra2 Y.nxt.length rc2)).1
      have HX4 : Hid (∀ i j, i < k + 1 → j < 3 → ∃ u, ((((X).set (k * 3) (.int .i64 Y.own)).set (k * 3 + 1) (.int .i64 Y.pri)).set (k * 3 + 2) (.slice ra2 Y.nxt.length rc2))[i * 3 + j]? = some u ∧ vxCol ((((w1).setCell ⟨w.heap.size, k * 3, none⟩ (.int .i64 Y.own)).setCell ⟨w.heap.size, k * 3 + 1, none⟩ (.int .i64 Y.pri)).setCell ⟨w.heap.size, k * 3 + 2, none⟩ (.slice ra2 Y.nxt.length rc2)) (w.heap.size + 1) ((((w1).setCell ⟨w.heap.size, k * 3, none⟩ (.int .i64 Y.own)).setCell ⟨w.heap.size, k * 3 + 1, none⟩ (.int .i64 Y.pri)).setCell ⟨w.heap.size, k * 3 + 2, none⟩ (.slice ra2 Y.nxt.length rc2)).heap.size (gnth vx0 f i) j u) := by
        have hws : ((((w1).setCell ⟨w.heap.size, k * 3, none⟩ (.int .i64 Y.own)).setCell ⟨w.heap.size, k * 3 + 1, none⟩ (.int .i64 Y.pri)).setCell ⟨w.heap.size, k * 3 + 2, none⟩ (.slice ra2 Y.nxt.length rc2)).heap.size = w1.heap.size := by simp [size_setCell]
        have hkp : ∀ lo hi, w.heap.size < lo → Keep lo hi w1 ((((w1).setCell ⟨w.heap.size, k * 3, none⟩ (.int .i64 Y.own)).setCell ⟨w.heap.size, k * 3 + 1, none⟩ (.int .i64 Y.pri)).setCell ⟨w.heap.size, k * 3 + 2, none⟩ (.slice ra2 Y.nxt.length rc2)) := fun lo hi h => ((((Keep.refl _ _ _).setCell (Or.inl h) _).setCell (Or.inl h) _).setCell (Or.inl h) _)
        have hz1' := hb1.size
        refine Lib.hid fun i j hi hj => ?_
        by_cases h : i < k
        · obtain ⟨u, hu, hq⟩ := HX.out i j h hj
          refine ⟨u, ?_, ?_⟩
          · rw [List.getElem?_set_ne (by omega), List.getElem?_set_ne (by omega), List.getElem?_set_ne (by omega)]; exact hu
          · exact vxCol.step hq ((Keep.of_below _ _ hb1).trans (hkp _ _ (by omega))) (Nat.le_refl _) (by rw [hws]; exact hz1')
        rw [show i = k by omega]
        match j, hj with
        | 0, _ => exact ⟨_, by rw [List.getElem?_set_ne (by omega), List.getElem?_set_ne (by omega), List.getElem?_set, if_pos (by omega), if_pos (by first | omega | (simp only [List.length_set]; omega))], (by rw [← HY.out]; exact rfl)⟩
        | 1, _ => exact ⟨_, by rw [List.getElem?_set_ne (by omega), List.getElem?_set, if_pos (by omega), if_pos (by first | omega | (simp only [List.length_set]; omega))], (by rw [← HY.out]; exact rfl)⟩
        | 2, _ => exact ⟨_, by rw [List.getElem?_set, if_pos (by omega), if_pos (by first | omega | (simp only [List.length_set]; omega))], (by rw [← HY.out]; exact (HU2.out.keep (hkp _ _ (by omega))).mono (by omega) (by rw [hws]; exact Nat.le_refl _))⟩
      have HS4 := Lib.hid s2
      have hblS : Below w.heap.size w ((((w1).setCell ⟨w.heap.size, k * 3, none⟩ (.int .i64 Y.own)).setCell ⟨w.heap.size, k * 3 + 1, none⟩ (.int .i64 Y.pri)).setCell ⟨w.heap.size, k * 3 + 2, none⟩ (.slice ra2 Y.nxt.length rc2)) := (((hbl1).setCell (Nat.le_refl _) _).setCell (Nat.le_refl _) _).setCell (Nat.le_refl _) _
      clear s0 s1 s2 hbl HX
      go_wp2_with fail
      go_roundw
      case rel => exact ⟨k + 1, _, by omega, by go_num, HS4, HX4, hblS⟩
      case measure => simp [intOf]; omega
    · obtain rfl : k = n := by omega
      have HR : Hid (GVx wr w.heap.size wr.heap.size (.slice (some ⟨w.heap.size, 0, none⟩) k k) f) := Lib.hid (by
        unfold GVx
        rw [← Hxn.out]
        refine Rws_of_own HO.out (Nat.le_refl _) fun i j hi hj => ?_
        obtain ⟨u, hu, hq⟩ := HX.out i j hi hj
        exact ⟨u, hu, vxCol.step hq (Keep.refl _ _ _) (by omega) (Nat.le_refl _)⟩)
      go_wp2_with fail
      go_ret
      exact ⟨_, rfl, HR.out, hbl⟩
set_option maxRecDepth 100000 in
set_option maxHeartbeats 800000 in
theorem toEge_any {lo hi : Nat} (n : Eg) (w : World) :
    Calls Try.prog 61 #[.agg #[.int .i64 n.frm, .int .i64 n.lab, .int .i64 n.too]] w fun e w' => e = .returned (.agg #[.int .i64 n.frm, .int .i64 n.lab, .int .i64 n.too]) ∧ Below w.heap.size w w' := by
  go_enter Try.func61, Try.ntmps61
  go_wp2_with fail
  refine bodyPost_ret (results_cell_row rfl _ _ (w.heap.size + 1) 74 #[.int .i64 n.frm, .int .i64 n.lab, .int .i64 n.too] (0, 0) _ rfl ?q1 Try.underlying74 rfl ?q2) rfl ?q3
  case q1 =>
    show (((w.heap.push _).push _).push _)[w.heap.size + 1]? = some _
    rw [Array.getElem?_push, if_neg (by simp), Array.getElem?_push, if_pos (by simp)]
  case q2 => kernel_rfl
  case q3 =>
    refine ⟨rfl, ?_⟩
    refine (((Below.refl _ w).alloc (Nat.le_refl _) _).alloc ?_ _).alloc ?_ _
    · simp
    · simp; omega
theorem infoGEg : (Try.prog.info? 74).map (fun i => (i.zero, i.size, i.bytes)) = some (some (.agg #[.int .i64 0, .int .i64 0, .int .i64 0]), 3, 24) := by kernel_rfl
set_option maxRecDepth 100000 in
set_option maxHeartbeats 1600000 in
theorem toEg_any {lo hi : Nat} (v : Value) (f : List Eg) (w : World) (hn : totEg f ≤ 1048576) (hv : GEg w lo hi v f) :
    Calls Try.prog 33 #[v] w fun e w' => ∃ u, e = .returned u ∧ GEg w' w.heap.size w'.heap.size u f ∧ Below w.heap.size w w' := by
  have HV := Lib.hid hv
  obtain ⟨a, cap, rfl, hcap, _⟩ := Rws.slice hv
  obtain ⟨i0, hi, hz0, hz1, hz2⟩ := info_parts infoGEg
  unfold totEg at hn
  have hln : f.length ≤ 1048576 := by omega
  have Hwt : Hid (∀ i, i < f.length → wtEg (gnth eg0 f i) ≤ 1048576) := Lib.hid (fun i hi => by
    have h : wtEg (gnth eg0 f i) ≤ _ := sumTo_le (fun i => wtEg (gnth eg0 f i)) hi
    omega)
  obtain ⟨n, hxn⟩ : ∃ n, n = f.length := ⟨_, rfl⟩
  rw [← hxn] at hcap hln HV
  have Hxn := Lib.hid hxn
  rw [← hxn]
  clear hxn hv hn
  go_enter Try.func33, Try.ntmps33
  go_wp2_with (at_make; refine wpList_make_full _ rfl _ _ 35 rfl w.heap.size 74 i0 (.agg #[.int .i64 0, .int .i64 0, .int .i64 0]) 3 Try.underlying35 hi hz0 hz1 _ _ _ _ n rfl rfl rfl rfl ?b2 ?b3 (Nat.le_refl _) ?_)
  case b2 => rw [hz2]; omega
  case b3 => unfold maxLen; omega
  intro w0 hown0 hgrow0
  obtain ⟨Z, hZ⟩ : ∃ Z : List Value, Z = (madeCells #[.int .i64 0, .int .i64 0, .int .i64 0] (n * 3)).toList := ⟨_, rfl⟩
  rw [← hZ] at hown0
  clear hZ
  go_wp2_with fail
  go_loopw [4] (fun si wr => ∃ (k : Nat) (X : List Value), k ≤ n ∧ si = .int .i64 k ∧ Hid (wr.ownsRow w.heap.size 74 3 (.slice (some ⟨w.heap.size, 0, none⟩) n n) n X) ∧ Hid (∀ i j, i < k → j < 3 → ∃ u, X[i * 3 + j]? = some u ∧ egCol wr (w.heap.size + 1) wr.heap.size (gnth eg0 f i) j u) ∧ Below w.heap.size w wr)
    (fun si _ => n - (intOf si).toNat)
  case atStart => exact ⟨0, Z, Nat.zero_le _, rfl, Lib.hid hown0, Lib.hid (fun i j h => absurd h (by omega)), (Below.refl _ _).grown hgrow0 (Nat.le_refl _) (fun k h => by cases h)⟩
  case round =>
    clear hown0 hgrow0
    obtain ⟨k, X, hk, rfl, HO, HX, hbl⟩ := hrel
    have hsz1 : w.heap.size < wr.heap.size := (HO.out.lt w.heap.size rfl).2
    by_cases hlt : k < n
    · have hkf : k < f.length := by rw [← Hxn.out]; exact hlt
      obtain ⟨b, o, rfl, hb, g0, g1, g2⟩ := GEg.cells HV.out hkf
      have q0 := (hbl.cell (by exact hb)).trans g0
      have q1 := (hbl.cell (by exact hb)).trans g1
      have q2 := (hbl.cell (by exact hb)).trans g2
      clear g0 g1 g2
      obtain ⟨Y, hY⟩ : ∃ Y, Y = gnth eg0 f k := ⟨_, rfl⟩
      have hwk := Hwt.out k hkf
      rw [← hY] at hwk q0 q1 q2
      have HY := Lib.hid hY
      clear hY
      go_wp2_with fail
      refine (toEge_any (lo := 0) (hi := 0) Y _).mono ?_
      rintro e w1 ⟨rfl, hb1⟩
      have hO1 := ownsRow_below HO.out hb1
      have hbl1 := below_trans' hbl hb1
      have HO1 := Lib.hid hO1
      have hXl : X.length = n * 3 := hO1.1
      have p0 : w1.cell? ⟨w.heap.size, k * 3, none⟩ = some (X.getD (k * 3) undef) := by
        rw [hO1.cellAt (k * 3) (by omega)]
        rw [List.getD_eq_getElem?_getD, List.getElem?_eq_getElem (by omega)]; rfl
      have z0 := hO1.frozenAt (k * 3)
      have p1 : w1.cell? ⟨w.heap.size, k * 3 + 1, none⟩ = some (X.getD (k * 3 + 1) undef) := by
        rw [hO1.cellAt (k * 3 + 1) (by omega)]
        rw [List.getD_eq_getElem?_getD, List.getElem?_eq_getElem (by omega)]; rfl
      have z1 := hO1.frozenAt (k * 3 + 1)
      have p2 : w1.cell? ⟨w.heap.size, k * 3 + 2, none⟩ = some (X.getD (k * 3 + 2) undef) := by
        rw [hO1.cellAt (k * 3 + 2) (by omega)]
        rw [List.getD_eq_getElem?_getD, List.getElem?_eq_getElem (by omega)]; rfl
      have z2 := hO1.frozenAt (k * 3 + 2)
      clear HO hO1
      have s0 := (HO1.out.stored (k * 3) (.int .i64 Y.frm)).1
      have s1 := (s0.stored (k * 3 + 1) (.int .i64 Y.lab)).1
      have s2 := (s1.stored (k * 3 + 2) (.int .i64 Y.too)).1
      have HX4 : Hid (∀ i j, i < k + 1 → j < 3 → ∃ u, ((((X).set (k * 3) (.int .i64 Y.frm)).set (k * 3 + 1) (.int .i64 Y.lab)).set (k * 3 + 2) (.int .i64 Y.too))[i * 3 + j]? = some u ∧ egCol ((((w1).setCell ⟨w.heap.size, k * 3, none⟩ (.int .i64 Y.frm)).setCell ⟨w.heap.size, k * 3 + 1, none⟩ (.int .i64 Y.lab)).setCell ⟨w.heap.size, k * 3 + 2, none⟩ (.int .i64 Y.too)) (w.heap.size + 1) ((((w1).setCell ⟨w.heap.size, k * 3, none⟩ (.int .i64 Y.frm)).setCell ⟨w.heap.size, k * 3 + 1, none⟩ (.int .i64 Y.lab)).setCell ⟨w.heap.size, k * 3 + 2, none⟩ (.int .i64 Y.too)).heap.size (gnth eg0 f i) j u) := by
        have hws : ((((w1).setCell ⟨w.heap.size, k * 3, none⟩ (.int .i64 Y.frm)).setCell ⟨w.heap.size, k * 3 + 1, none⟩ (.int .i64 Y.lab)).setCell ⟨w.heap.size, k * 3 + 2, none⟩ (.int .i64 Y.too)).heap.size = w1.heap.size := by simp [size_setCell]
        have hkp : ∀ lo hi, w.heap.size < lo → Keep lo hi w1 ((((w1).setCell ⟨w.heap.size, k * 3, none⟩ (.int .i64 Y.frm)).setCell ⟨w.heap.size, k * 3 + 1, none⟩ (.int .i64 Y.lab)).setCell ⟨w.heap.size, k * 3 + 2, none⟩ (.int .i64 Y.too)) := fun lo hi h => ((((Keep.refl _ _ _).setCell (Or.inl h) _).setCell (Or.inl h) _).setCell (Or.inl h) _)
        have hz1' := hb1.size
        refine Lib.hid fun i j hi hj => ?_
        by_cases h : i < k
        · obtain ⟨u, hu, hq⟩ := HX.out i j h hj
          refine ⟨u, ?_, ?_⟩
          · rw [List.getElem?_set_ne (by omega), List.getElem?_set_ne (by omega), List.getElem?_set_ne (by omega)]; exact hu
          · exact egCol.step hq ((Keep.of_below _ _ hb1).trans (hkp _ _ (by omega))) (Nat.le_refl _) (by rw [hws]; exact hz1')
        rw [show i = k by omega]
        match j, hj with
        | 0, _ => exact ⟨_, by rw [List.getElem?_set_ne (by omega), List.getElem?_set_ne (by omega), List.getElem?_set, if_pos (by omega), if_pos (by first | omega | (simp only [List.length_set]; omega))], (by rw [← HY.out]; exact rfl)⟩
        | 1, _ => exact ⟨_, by rw [List.getElem?_set_ne (by omega), List.getElem?_set, if_pos (by omega), if_pos (by first | omega | (simp only [List.length_set]; omega))], (by rw [← HY.out]; exact rfl)⟩
        | 2, _ => exact ⟨_, by rw [List.getElem?_set, if_pos (by omega), if_pos (by first | omega | (simp only [List.length_set]; omega))], (by rw [← HY.out]; exact rfl)⟩
      have HS4 := Lib.hid s2
      have hblS : Below w.heap.size w ((((w1).setCell ⟨w.heap.size, k * 3, none⟩ (.int .i64 Y.frm)).setCell ⟨w.heap.size, k * 3 + 1, none⟩ (.int .i64 Y.lab)).setCell ⟨w.heap.size, k * 3 + 2, none⟩ (.int .i64 Y.too)) := (((hbl1).setCell (Nat.le_refl _) _).setCell (Nat.le_refl _) _).setCell (Nat.le_refl _) _
      clear s0 s1 s2 hbl HX
      go_wp2_with fail
      go_roundw
      case rel => exact ⟨k + 1, _, by omega, by go_num, HS4, HX4, hblS⟩
      case measure => simp [intOf]; omega
    · obtain rfl : k = n := by omega
      have HR : Hid (GEg wr w.heap.size wr.heap.size (.slice (some ⟨w.heap.size, 0, none⟩) k k) f) := Lib.hid (by
        unfold GEg
        rw [← Hxn.out]
        refine Rws_of_own HO.out (Nat.le_refl _) fun i j hi hj => ?_
        obtain ⟨u, hu, hq⟩ := HX.out i j hi hj
        exact ⟨u, hu, egCol.step hq (Keep.refl _ _ _) (by omega) (Nat.le_refl _)⟩)
      go_wp2_with fail
      go_ret
      exact ⟨_, rfl, HR.out, hbl⟩
set_option maxRecDepth 100000 in
set_option maxHeartbeats 800000 in
theorem toTme_any {lo hi : Nat} (n : Tm) (w : World) :
    Calls Try.prog 92 #[.agg #[.int .i64 n.kind, .int .i64 n.num]] w fun e w' => e = .returned (.agg #[.int .i64 n.kind, .int .i64 n.num]) ∧ Below w.heap.size w w' := by
  go_enter Try.func92, Try.ntmps92
  go_wp2_with fail
  refine bodyPost_ret (results_cell_row rfl _ _ (w.heap.size + 1) 130 #[.int .i64 n.kind, .int .i64 n.num] (0, 0) _ rfl ?q1 Try.underlying130 rfl ?q2) rfl ?q3
  case q1 =>
    show (((w.heap.push _).push _).push _)[w.heap.size + 1]? = some _
    rw [Array.getElem?_push, if_neg (by simp), Array.getElem?_push, if_pos (by simp)]
  case q2 => kernel_rfl
  case q3 =>
    refine ⟨rfl, ?_⟩
    refine (((Below.refl _ w).alloc (Nat.le_refl _) _).alloc ?_ _).alloc ?_ _
    · simp
    · simp; omega
theorem infoGTm : (Try.prog.info? 130).map (fun i => (i.zero, i.size, i.bytes)) = some (some (.agg #[.int .i64 0, .int .i64 0]), 2, 16) := by kernel_rfl
set_option maxRecDepth 100000 in
set_option maxHeartbeats 1600000 in
theorem toTm_any {lo hi : Nat} (v : Value) (f : List Tm) (w : World) (hn : totTm f ≤ 1048576) (hv : GTm w lo hi v f) :
    Calls Try.prog 90 #[v] w fun e w' => ∃ u, e = .returned u ∧ GTm w' w.heap.size w'.heap.size u f ∧ Below w.heap.size w w' := by
  have HV := Lib.hid hv
  obtain ⟨a, cap, rfl, hcap, _⟩ := Rws.slice hv
  obtain ⟨i0, hi, hz0, hz1, hz2⟩ := info_parts infoGTm
  unfold totTm at hn
  have hln : f.length ≤ 1048576 := by omega
  have Hwt : Hid (∀ i, i < f.length → wtTm (gnth tm0 f i) ≤ 1048576) := Lib.hid (fun i hi => by
    have h : wtTm (gnth tm0 f i) ≤ _ := sumTo_le (fun i => wtTm (gnth tm0 f i)) hi
    omega)
  obtain ⟨n, hxn⟩ : ∃ n, n = f.length := ⟨_, rfl⟩
  rw [← hxn] at hcap hln HV
  have Hxn := Lib.hid hxn
  rw [← hxn]
  clear hxn hv hn
  go_enter Try.func90, Try.ntmps90
  go_wp2_with (at_make; refine wpList_make_full _ rfl _ _ 126 rfl w.heap.size 130 i0 (.agg #[.int .i64 0, .int .i64 0]) 2 Try.underlying126 hi hz0 hz1 _ _ _ _ n rfl rfl rfl rfl ?b2 ?b3 (Nat.le_refl _) ?_)
  case b2 => rw [hz2]; omega
  case b3 => unfold maxLen; omega
  intro w0 hown0 hgrow0
  obtain ⟨Z, hZ⟩ : ∃ Z : List Value, Z = (madeCells #[.int .i64 0, .int .i64 0] (n * 2)).toList := ⟨_, rfl⟩
  rw [← hZ] at hown0
  clear hZ
  go_wp2_with fail
  go_loopw [4] (fun si wr => ∃ (k : Nat) (X : List Value), k ≤ n ∧ si = .int .i64 k ∧ Hid (wr.ownsRow w.heap.size 130 2 (.slice (some ⟨w.heap.size, 0, none⟩) n n) n X) ∧ Hid (∀ i j, i < k → j < 2 → ∃ u, X[i * 2 + j]? = some u ∧ tmCol wr (w.heap.size + 1) wr.heap.size (gnth tm0 f i) j u) ∧ Below w.heap.size w wr)
    (fun si _ => n - (intOf si).toNat)
  case atStart => exact ⟨0, Z, Nat.zero_le _, rfl, Lib.hid hown0, Lib.hid (fun i j h => absurd h (by omega)), (Below.refl _ _).grown hgrow0 (Nat.le_refl _) (fun k h => by cases h)⟩
  case round =>
    clear hown0 hgrow0
    obtain ⟨k, X, hk, rfl, HO, HX, hbl⟩ := hrel
    have hsz1 : w.heap.size < wr.heap.size := (HO.out.lt w.heap.size rfl).2
    by_cases hlt : k < n
    · have hkf : k < f.length := by rw [← Hxn.out]; exact hlt
      obtain ⟨b, o, rfl, hb, g0, g1⟩ := GTm.cells HV.out hkf
      have q0 := (hbl.cell (by exact hb)).trans g0
      have q1 := (hbl.cell (by exact hb)).trans g1
      clear g0 g1
      obtain ⟨Y, hY⟩ : ∃ Y, Y = gnth tm0 f k := ⟨_, rfl⟩
      have hwk := Hwt.out k hkf
      rw [← hY] at hwk q0 q1
      have HY := Lib.hid hY
      clear hY
      go_wp2_with fail
      refine (toTme_any (lo := 0) (hi := 0) Y _).mono ?_
      rintro e w1 ⟨rfl, hb1⟩
      have hO1 := ownsRow_below HO.out hb1
      have hbl1 := below_trans' hbl hb1
      have HO1 := Lib.hid hO1
      have hXl : X.length = n * 2 := hO1.1
      have p0 : w1.cell? ⟨w.heap.size, k * 2, none⟩ = some (X.getD (k * 2) undef) := by
        rw [hO1.cellAt (k * 2) (by omega)]
        rw [List.getD_eq_getElem?_getD, List.getElem?_eq_getElem (by omega)]; rfl
      have z0 := hO1.frozenAt (k * 2)
      have p1 : w1.cell? ⟨w.heap.size, k * 2 + 1, none⟩ = some (X.getD (k * 2 + 1) undef) := by
        rw [hO1.cellAt (k * 2 + 1) (by omega)]
        rw [List.getD_eq_getElem?_getD, List.getElem?_eq_getElem (by omega)]; rfl
      have z1 := hO1.frozenAt (k * 2 + 1)
      clear HO hO1
      have s0 := (HO1.out.stored (k * 2) (.int .i64 Y.kind)).1
      have s1 := (s0.stored (k * 2 + 1) (.int .i64 Y.num)).1
      have HX4 : Hid (∀ i j, i < k + 1 → j < 2 → ∃ u, (((X).set (k * 2) (.int .i64 Y.kind)).set (k * 2 + 1) (.int .i64 Y.num))[i * 2 + j]? = some u ∧ tmCol (((w1).setCell ⟨w.heap.size, k * 2, none⟩ (.int .i64 Y.kind)).setCell ⟨w.heap.size, k * 2 + 1, none⟩ (.int .i64 Y.num)) (w.heap.size + 1) (((w1).setCell ⟨w.heap.size, k * 2, none⟩ (.int .i64 Y.kind)).setCell ⟨w.heap.size, k * 2 + 1, none⟩ (.int .i64 Y.num)).heap.size (gnth tm0 f i) j u) := by
        have hws : (((w1).setCell ⟨w.heap.size, k * 2, none⟩ (.int .i64 Y.kind)).setCell ⟨w.heap.size, k * 2 + 1, none⟩ (.int .i64 Y.num)).heap.size = w1.heap.size := by simp [size_setCell]
        have hkp : ∀ lo hi, w.heap.size < lo → Keep lo hi w1 (((w1).setCell ⟨w.heap.size, k * 2, none⟩ (.int .i64 Y.kind)).setCell ⟨w.heap.size, k * 2 + 1, none⟩ (.int .i64 Y.num)) := fun lo hi h => (((Keep.refl _ _ _).setCell (Or.inl h) _).setCell (Or.inl h) _)
        have hz1' := hb1.size
        refine Lib.hid fun i j hi hj => ?_
        by_cases h : i < k
        · obtain ⟨u, hu, hq⟩ := HX.out i j h hj
          refine ⟨u, ?_, ?_⟩
          · rw [List.getElem?_set_ne (by omega), List.getElem?_set_ne (by omega)]; exact hu
          · exact tmCol.step hq ((Keep.of_below _ _ hb1).trans (hkp _ _ (by omega))) (Nat.le_refl _) (by rw [hws]; exact hz1')
        rw [show i = k by omega]
        match j, hj with
        | 0, _ => exact ⟨_, by rw [List.getElem?_set_ne (by omega), List.getElem?_set, if_pos (by omega), if_pos (by first | omega | (simp only [List.length_set]; omega))], (by rw [← HY.out]; exact rfl)⟩
        | 1, _ => exact ⟨_, by rw [List.getElem?_set, if_pos (by omega), if_pos (by first | omega | (simp only [List.length_set]; omega))], (by rw [← HY.out]; exact rfl)⟩
      have HS4 := Lib.hid s1
      have hblS : Below w.heap.size w (((w1).setCell ⟨w.heap.size, k * 2, none⟩ (.int .i64 Y.kind)).setCell ⟨w.heap.size, k * 2 + 1, none⟩ (.int .i64 Y.num)) := ((hbl1).setCell (Nat.le_refl _) _).setCell (Nat.le_refl _) _
      clear s0 s1 hbl HX
      go_wp2_with fail
      go_roundw
      case rel => exact ⟨k + 1, _, by omega, by go_num, HS4, HX4, hblS⟩
      case measure => simp [intOf]; omega
    · obtain rfl : k = n := by omega
      have HR : Hid (GTm wr w.heap.size wr.heap.size (.slice (some ⟨w.heap.size, 0, none⟩) k k) f) := Lib.hid (by
        unfold GTm
        rw [← Hxn.out]
        refine Rws_of_own HO.out (Nat.le_refl _) fun i j hi hj => ?_
        obtain ⟨u, hu, hq⟩ := HX.out i j hi hj
        exact ⟨u, hu, tmCol.step hq (Keep.refl _ _ _) (by omega) (Nat.le_refl _)⟩)
      go_wp2_with fail
      go_ret
      exact ⟨_, rfl, HR.out, hbl⟩
theorem infoGTmS : (Try.prog.info? 126).map (fun i => (i.zero, i.size, i.bytes)) = some (some (.slice none 0 0), 1, 24) := by kernel_rfl
set_option maxRecDepth 100000 in
set_option maxHeartbeats 1600000 in
theorem toTmS_any {lo hi : Nat} (v : Value) (f : List (List Tm)) (w : World) (hn : totTmS f ≤ 1048576) (hv : GTmS w lo hi v f) :
    Calls Try.prog 87 #[v] w fun e w' => ∃ u, e = .returned u ∧ GTmS w' w.heap.size w'.heap.size u f ∧ Below w.heap.size w w' := by
  have HV := Lib.hid hv
  obtain ⟨a, cap, rfl, hcap, _⟩ := Rws.slice hv
  obtain ⟨i0, hi, hz0, hz1, hz2⟩ := info_parts infoGTmS
  unfold totTmS at hn
  have hln : f.length ≤ 1048576 := by omega
  have Hwt : Hid (∀ i, i < f.length → totTm (gnth tms0 f i) ≤ 1048576) := Lib.hid (fun i hi => by
    have h : totTm (gnth tms0 f i) ≤ _ := sumTo_le (fun i => totTm (gnth tms0 f i)) hi
    omega)
  obtain ⟨n, hxn⟩ : ∃ n, n = f.length := ⟨_, rfl⟩
  rw [← hxn] at hcap hln HV
  have Hxn := Lib.hid hxn
  rw [← hxn]
  clear hxn hv hn
  go_enter Try.func87, Try.ntmps87
  go_wp2_with (at_make; refine wpList_make_full _ rfl _ _ 119 rfl w.heap.size 126 i0 (.slice none 0 0) 1 Try.underlying119 hi hz0 hz1 _ _ _ _ n rfl rfl rfl rfl ?b2 ?b3 (Nat.le_refl _) ?_)
  case b2 => rw [hz2]; omega
  case b3 => unfold maxLen; omega
  intro w0 hown0 hgrow0
  obtain ⟨Z, hZ⟩ : ∃ Z : List Value, Z = (madeCells #[.slice none 0 0] n).toList := ⟨_, rfl⟩
  rw [← hZ] at hown0
  clear hZ
  go_wp2_with fail
  go_loopw [4] (fun si wr => ∃ (k : Nat) (X : List Value), k ≤ n ∧ si = .int .i64 k ∧ Hid (wr.ownsRow w.heap.size 126 1 (.slice (some ⟨w.heap.size, 0, none⟩) n n) n X) ∧ Hid (∀ i j, i < k → j < 1 → ∃ u, X[i * 1 + j]? = some u ∧ GTm wr (w.heap.size + 1) wr.heap.size u (gnth tms0 f i)) ∧ Below w.heap.size w wr)
    (fun si _ => n - (intOf si).toNat)
  case atStart => exact ⟨0, Z, Nat.zero_le _, rfl, Lib.hid hown0, Lib.hid (fun i j h => absurd h (by omega)), (Below.refl _ _).grown hgrow0 (Nat.le_refl _) (fun k h => by cases h)⟩
  case round =>
    clear hown0 hgrow0
    obtain ⟨k, X, hk, rfl, HO, HX, hbl⟩ := hrel
    have hsz1 : w.heap.size < wr.heap.size := (HO.out.lt w.heap.size rfl).2
    by_cases hlt : k < n
    · have hkf : k < f.length := by rw [← Hxn.out]; exact hlt
      obtain ⟨b, o, rfl, hb, ca, cc, g0, gG0⟩ := GTmS.cells HV.out hkf
      have q0 := (hbl.cell (by exact hb)).trans g0
      clear g0
      obtain ⟨Y, hY⟩ : ∃ Y, Y = gnth tms0 f k := ⟨_, rfl⟩
      have hwk := Hwt.out k hkf
      rw [← hY] at hwk q0 gG0
      have HY := Lib.hid hY
      clear hY
      have HgG0 := Lib.hid gG0
      clear gG0
      go_wp2_with fail
      refine (toTm_any _ Y _ hwk (HgG0.out.keep (Keep.of_below _ _ hbl))).mono ?_
      rintro e w1 ⟨u, rfl, hu, hb1⟩
      obtain ⟨ra0, rc0, rfl, _⟩ := Rws.slice hu
      have HU0 := Lib.hid hu
      clear hu
      have hO1 := ownsRow_below HO.out hb1
      have hbl1 := below_trans' hbl hb1
      have HO1 := Lib.hid hO1
      have hXl : X.length = n * 1 := hO1.1
      have p0 : w1.cell? ⟨w.heap.size, k, none⟩ = some (X.getD (k) undef) := by
        rw [hO1.cellAt (k) (by omega)]
        rw [List.getD_eq_getElem?_getD, List.getElem?_eq_getElem (by omega)]; rfl
      have z0 := hO1.frozenAt (k)
      clear HO hO1
      have s0 := (HO1.out.stored (k) (.slice ra0 Y.length rc0)).1
      have HX4 : Hid (∀ i j, i < k + 1 → j < 1 → ∃ u, ((X).set (k) (.slice ra0 Y.length rc0))[i * 1 + j]? = some u ∧ GTm ((w1).setCell ⟨w.heap.size, k, none⟩ (.slice ra0 Y.length rc0)) (w.heap.size + 1) ((w1).setCell ⟨w.heap.size, k, none⟩ (.slice ra0 Y.length rc0)).heap.size u (gnth tms0 f i)) := by
        have hws : ((w1).setCell ⟨w.heap.size, k, none⟩ (.slice ra0 Y.length rc0)).heap.size = w1.heap.size := by simp [size_setCell]
        have hkp : ∀ lo hi, w.heap.size < lo → Keep lo hi w1 ((w1).setCell ⟨w.heap.size, k, none⟩ (.slice ra0 Y.length rc0)) := fun lo hi h => ((Keep.refl _ _ _).setCell (Or.inl h) _)
        have hz1' := hb1.size
        refine Lib.hid fun i j hi hj => ?_
        by_cases h : i < k
        · obtain ⟨u, hu, hq⟩ := HX.out i j h hj
          refine ⟨u, ?_, ?_⟩
          · rw [List.getElem?_set_ne (by omega)]; exact hu
          · exact (hq.keep ((Keep.of_below _ _ hb1).trans (hkp _ _ (by omega)))).mono (Nat.le_refl _) (by rw [hws]; exact hz1')
        rw [show i = k by omega]
        match j, hj with
        | 0, _ => exact ⟨_, by rw [List.getElem?_set, if_pos (by omega), if_pos (by first | omega | (simp only [List.length_set]; omega))], (by rw [← HY.out]; exact (HU0.out.keep (hkp _ _ (by omega))).mono (by omega) (by rw [hws]; exact Nat.le_refl _))⟩
      have HS4 := Lib.hid s0
      have hblS : Below w.heap.size w ((w1).setCell ⟨w.heap.size, k, none⟩ (.slice ra0 Y.length rc0)) := (hbl1).setCell (Nat.le_refl _) _
      clear s0 hbl HX
      go_wp2_with fail
      go_roundw
      case rel => exact ⟨k + 1, _, by omega, by go_num, HS4, HX4, hblS⟩
      case measure => simp [intOf]; omega
    · obtain rfl : k = n := by omega
      have HR : Hid (GTmS wr w.heap.size wr.heap.size (.slice (some ⟨w.heap.size, 0, none⟩) k k) f) := Lib.hid (by
        unfold GTmS
        rw [← Hxn.out]
        refine Rws_of_own HO.out (Nat.le_refl _) fun i j hi hj => ?_
        obtain ⟨u, hu, hq⟩ := HX.out i j hi hj
        exact ⟨u, hu, (hq.keep (Keep.refl _ _ _)).mono (by omega) (Nat.le_refl _)⟩)
      go_wp2_with fail
      go_ret
      exact ⟨_, rfl, HR.out, hbl⟩
set_option maxRecDepth 100000 in
set_option maxHeartbeats 800000 in
theorem toPte_any {lo hi : Nat} (n : Pt) {sa3 : Option Addr} {sc3 : Nat} (w : World) (hn : wtPt n ≤ 1048576) (hs3 : GTmS w lo hi (.slice sa3 n.args.length sc3) n.args) :
    Calls Try.prog 84 #[.agg #[.int .i64 n.kind, .int .i64 n.num, .string n.name, .slice sa3 n.args.length sc3]] w fun e w' => ∃ ra3 rc3, e = .returned (.agg #[.int .i64 n.kind, .int .i64 n.num, .string n.name, .slice ra3 n.args.length rc3]) ∧ GTmS w' w.heap.size w'.heap.size (.slice ra3 n.args.length rc3) n.args ∧ Below w.heap.size w w' := by
  unfold wtPt at hn
  go_enter Try.func84, Try.ntmps84
  go_wp2_with fail
  refine (toTmS_any _ _ _ (by omega) (hs3.keep (Keep.of_below _ _ (below3 _ _ _ _)))).mono ?_
  rintro e w1 ⟨u, rfl, hu, hb1⟩
  obtain ⟨ra, rc, rfl, _⟩ := Rws.slice hu
  simp only [World.size_alloc] at hu
  have HU := Lib.hid hu
  clear hu
  have e2 := box_third hb1
  have e1 := box_second hb1
  have z1 := hb1.size
  have p0 : w1.cell? ⟨w.heap.size + 1 + 1, 0, none⟩ = some (.int .i64 n.kind) := by simp [World.cell?, e2]
  have q0 : w1.cell? ⟨w.heap.size + 1, 0, none⟩ = some (.int .i64 0) := by first | (simp [World.cell?, e1]; done) | (simp [World.cell?, e1]; rfl)
  have p1 : w1.cell? ⟨w.heap.size + 1 + 1, 1, none⟩ = some (.int .i64 n.num) := by simp [World.cell?, e2]
  have q1 : w1.cell? ⟨w.heap.size + 1, 1, none⟩ = some (.int .i64 0) := by first | (simp [World.cell?, e1]; done) | (simp [World.cell?, e1]; rfl)
  have p2 : w1.cell? ⟨w.heap.size + 1 + 1, 2, none⟩ = some (.string n.name) := by simp [World.cell?, e2]
  have q2 : w1.cell? ⟨w.heap.size + 1, 2, none⟩ = some (.string ByteArray.empty) := by first | (simp [World.cell?, e1]; done) | (simp [World.cell?, e1]; rfl)
  have p3 : w1.cell? ⟨w.heap.size + 1 + 1, 3, none⟩ = some (.slice none 0 0) := by simp [World.cell?, e2]
  have q3 : w1.cell? ⟨w.heap.size + 1, 3, none⟩ = some (.slice none 0 0) := by first | (simp [World.cell?, e1]; done) | (simp [World.cell?, e1]; rfl)
  have f2 : ∀ j, w1.frozen? ⟨w.heap.size + 1 + 1, j, none⟩ = false := by intro j; simp [World.frozen?, e2]
  have f1 : ∀ j, w1.frozen? ⟨w.heap.size + 1, j, none⟩ = false := by intro j; simp [World.frozen?, e1]
  go_wp2_with fail
  have hB : Below w.heap.size w w1 := (below3 w _ _ _).trans (hb1.mono (by simp; omega))
  refine bodyPost_ret (results_cell_row rfl _ _ (w.heap.size + 1) 121 #[.int .i64 n.kind, .int .i64 n.num, .string n.name, .slice ra n.args.length rc] (0, 0) _ rfl ?q1 Try.underlying121 rfl ?q2) rfl ?q3
  case q1 =>
    simp [World.setCell, Array.getElem?_modify, e1]
  case q2 => kernel_rfl
  case q3 =>
    refine ⟨_, _, rfl, ?_, ?_⟩
    · refine (HU.out.keep ((((((Keep.refl _ _ _).setCell (Or.inl ?_) _).setCell (Or.inl ?_) _).setCell (Or.inl ?_) _).setCell (Or.inl ?_) _).setCell (Or.inl ?_) _)).mono ?_ ?_
      all_goals first | omega | simp [size_setCell]
    · refine (((((hB.setCell ?_ _).setCell ?_ _).setCell ?_ _).setCell ?_ _).setCell ?_ _)
      all_goals first | simp; done | omega | (simp; omega)
theorem infoGPt : (Try.prog.info? 121).map (fun i => (i.zero, i.size, i.bytes)) = some (some (.agg #[.int .i64 0, .int .i64 0, .string ByteArray.empty, .slice none 0 0]), 4, 56) := by kernel_rfl
set_option maxRecDepth 100000 in
set_option maxHeartbeats 1600000 in
theorem toPt_any {lo hi : Nat} (v : Value) (f : List Pt) (w : World) (hn : totPt f ≤ 1048576) (hv : GPt w lo hi v f) :
    Calls Try.prog 79 #[v] w fun e w' => ∃ u, e = .returned u ∧ GPt w' w.heap.size w'.heap.size u f ∧ Below w.heap.size w w' := by
  have HV := Lib.hid hv
  obtain ⟨a, cap, rfl, hcap, _⟩ := Rws.slice hv
  obtain ⟨i0, hi, hz0, hz1, hz2⟩ := info_parts infoGPt
  unfold totPt at hn
  have hln : f.length ≤ 1048576 := by omega
  have Hwt : Hid (∀ i, i < f.length → wtPt (gnth pt0 f i) ≤ 1048576) := Lib.hid (fun i hi => by
    have h : wtPt (gnth pt0 f i) ≤ _ := sumTo_le (fun i => wtPt (gnth pt0 f i)) hi
    omega)
  obtain ⟨n, hxn⟩ : ∃ n, n = f.length := ⟨_, rfl⟩
  rw [← hxn] at hcap hln HV
  have Hxn := Lib.hid hxn
  rw [← hxn]
  clear hxn hv hn
  go_enter Try.func79, Try.ntmps79
  go_wp2_with (at_make; refine wpList_make_full _ rfl _ _ 84 rfl w.heap.size 121 i0 (.agg #[.int .i64 0, .int .i64 0, .string ByteArray.empty, .slice none 0 0]) 4 Try.underlying84 hi hz0 hz1 _ _ _ _ n rfl rfl rfl rfl ?b2 ?b3 (Nat.le_refl _) ?_)
  case b2 => rw [hz2]; omega
  case b3 => unfold maxLen; omega
  intro w0 hown0 hgrow0
  obtain ⟨Z, hZ⟩ : ∃ Z : List Value, Z = (madeCells #[.int .i64 0, .int .i64 0, .string ByteArray.empty, .slice none 0 0] (n * 4)).toList := ⟨_, rfl⟩
  rw [← hZ] at hown0
  clear hZ
  go_wp2_with fail
  go_loopw [4] (fun si wr => ∃ (k : Nat) (X : List Value), k ≤ n ∧ si = .int .i64 k ∧ Hid (wr.ownsRow w.heap.size 121 4 (.slice (some ⟨w.heap.size, 0, none⟩) n n) n X) ∧ Hid (∀ i j, i < k → j < 4 → ∃ u, X[i * 4 + j]? = some u ∧ ptCol wr (w.heap.size + 1) wr.heap.size (gnth pt0 f i) j u) ∧ Below w.heap.size w wr)
    (fun si _ => n - (intOf si).toNat)
  case atStart => exact ⟨0, Z, Nat.zero_le _, rfl, Lib.hid hown0, Lib.hid (fun i j h => absurd h (by omega)), (Below.refl _ _).grown hgrow0 (Nat.le_refl _) (fun k h => by cases h)⟩
  case round =>
    clear hown0 hgrow0
    obtain ⟨k, X, hk, rfl, HO, HX, hbl⟩ := hrel
    have hsz1 : w.heap.size < wr.heap.size := (HO.out.lt w.heap.size rfl).2
    by_cases hlt : k < n
    · have hkf : k < f.length := by rw [← Hxn.out]; exact hlt
      obtain ⟨b, o, rfl, hb, g0, g1, g2, ga3, gc3, g3, gG3⟩ := GPt.cells HV.out hkf
      have q0 := (hbl.cell (by exact hb)).trans g0
      have q1 := (hbl.cell (by exact hb)).trans g1
      have q2 := (hbl.cell (by exact hb)).trans g2
      have q3 := (hbl.cell (by exact hb)).trans g3
      clear g0 g1 g2 g3
      obtain ⟨Y, hY⟩ : ∃ Y, Y = gnth pt0 f k := ⟨_, rfl⟩
      have hwk := Hwt.out k hkf
      rw [← hY] at hwk q0 q1 q2 q3 gG3
      have HY := Lib.hid hY
      clear hY
      have HgG3 := Lib.hid gG3
      clear gG3
      go_wp2_with fail
      refine (toPte_any Y _ hwk (HgG3.out.keep (Keep.of_below _ _ hbl))).mono ?_
      rintro e w1 ⟨ra3, rc3, rfl, hu3, hb1⟩
      have HU3 := Lib.hid hu3
      clear hu3
      have hO1 := ownsRow_below HO.out hb1
      have hbl1 := below_trans' hbl hb1
      have HO1 := Lib.hid hO1
      have hXl : X.length = n * 4 := hO1.1
      have p0 : w1.cell? ⟨w.heap.size, k * 4, none⟩ = some (X.getD (k * 4) undef) := by
        rw [hO1.cellAt (k * 4) (by omega)]
        rw [List.getD_eq_getElem?_getD, List.getElem?_eq_getElem (by omega)]; rfl
      have z0 := hO1.frozenAt (k * 4)
      have p1 : w1.cell? ⟨w.heap.size, k * 4 + 1, none⟩ = some (X.getD (k * 4 + 1) undef) := by
        rw [hO1.cellAt (k * 4 + 1) (by omega)]
        rw [List.getD_eq_getElem?_getD, List.getElem?_eq_getElem (by omega)]; rfl
      have z1 := hO1.frozenAt (k * 4 + 1)
      have p2 : w1.cell? ⟨w.heap.size, k * 4 + 2, none⟩ = some (X.getD (k * 4 + 2) undef) := by
        rw [hO1.cellAt (k * 4 + 2) (by omega)]
        rw [List.getD_eq_getElem?_getD, List.getElem?_eq_getElem (by omega)]; rfl
      have z2 := hO1.frozenAt (k * 4 + 2)
      have p3 : w1.cell? ⟨w.heap.size, k * 4 + 3, none⟩ = some (X.getD (k * 4 + 3) undef) := by
        rw [hO1.cellAt (k * 4 + 3) (by omega)]
        rw [List.getD_eq_getElem?_getD, List.getElem?_eq_getElem (by omega)]; rfl
      have z3 := hO1.frozenAt (k * 4 + 3)
      clear HO hO1
      have s0 := (HO1.out.stored (k * 4) (.int .i64 Y.kind)).1
      have s1 := (s0.stored (k * 4 + 1) (.int .i64 Y.num)).1
      have s2 := (s1.stored (k * 4 + 2) (.string Y.name)).1
      have s3 := (s2.stored (k * 4 + 3) (.slice ra3 Y.args.length rc3)).1
      have HX4 : Hid (∀ i j, i < k + 1 → j < 4 → ∃ u, (((((X).set (k * 4) (.int .i64 Y.kind)).set (k * 4 + 1) (.int .i64 Y.num)).set (k * 4 + 2) (.string Y.name)).set (k * 4 + 3) (.slice ra3 Y.args.length rc3))[i * 4 + j]? = some u ∧ ptCol (((((w1).setCell ⟨w.heap.size, k * 4, none⟩ (.int .i64 Y.kind)).setCell ⟨w.heap.size, k * 4 + 1, none⟩ (.int .i64 Y.num)).setCell ⟨w.heap.size, k * 4 + 2, none⟩ (.string Y.name)).setCell ⟨w.heap.size, k * 4 + 3, none⟩ (.slice ra3 Y.args.length rc3)) (w.heap.size + 1) (((((w1).setCell ⟨w.heap.size, k * 4, none⟩ (.int .i64 Y.kind)).setCell ⟨w.heap.size, k * 4 + 1, none⟩ (.int .i64 Y.num)).setCell ⟨w.heap.size, k * 4 + 2, none⟩ (.string Y.name)).setCell ⟨w.heap.size, k * 4 + 3, none⟩ (.slice ra3 Y.args.length rc3)).heap.size (gnth pt0 f i) j u) := by
        have hws : (((((w1).setCell ⟨w.heap.size, k * 4, none⟩ (.int .i64 Y.kind)).setCell ⟨w.heap.size, k * 4 + 1, none⟩ (.int .i64 Y.num)).setCell ⟨w.heap.size, k * 4 + 2, none⟩ (.string Y.name)).setCell ⟨w.heap.size, k * 4 + 3, none⟩ (.slice ra3 Y.args.length rc3)).heap.size = w1.heap.size := by simp [size_setCell]
        have hkp : ∀ lo hi, w.heap.size < lo → Keep lo hi w1 (((((w1).setCell ⟨w.heap.size, k * 4, none⟩ (.int .i64 Y.kind)).setCell ⟨w.heap.size, k * 4 + 1, none⟩ (.int .i64 Y.num)).setCell ⟨w.heap.size, k * 4 + 2, none⟩ (.string Y.name)).setCell ⟨w.heap.size, k * 4 + 3, none⟩ (.slice ra3 Y.args.length rc3)) := fun lo hi h => (((((Keep.refl _ _ _).setCell (Or.inl h) _).setCell (Or.inl h) _).setCell (Or.inl h) _).setCell (Or.inl h) _)
        have hz1' := hb1.size
        refine Lib.hid fun i j hi hj => ?_
        by_cases h : i < k
        · obtain ⟨u, hu, hq⟩ := HX.out i j h hj
          refine ⟨u, ?_, ?_⟩
          · rw [List.getElem?_set_ne (by omega), List.getElem?_set_ne (by omega), List.getElem?_set_ne (by omega), List.getElem?_set_ne (by omega)]; exact hu
          · exact ptCol.step hq ((Keep.of_below _ _ hb1).trans (hkp _ _ (by omega))) (Nat.le_refl _) (by rw [hws]; exact hz1')
        rw [show i = k by omega]
        match j, hj with
        | 0, _ => exact ⟨_, by rw [List.getElem?_set_ne (by omega), List.getElem?_set_ne (by omega), List.getElem?_set_ne (by omega), List.getElem?_set, if_pos (by omega), if_pos (by first | omega | (simp only [List.length_set]; omega))], (by rw [← HY.out]; exact rfl)⟩
        | 1, _ => exact ⟨_, by rw [List.getElem?_set_ne (by omega), List.getElem?_set_ne (by omega), List.getElem?_set, if_pos (by omega), if_pos (by first | omega | (simp only [List.length_set]; omega))], (by rw [← HY.out]; exact rfl)⟩
        | 2, _ => exact ⟨_, by rw [List.getElem?_set_ne (by omega), List.getElem?_set, if_pos (by omega), if_pos (by first | omega | (simp only [List.length_set]; omega))], (by rw [← HY.out]; exact rfl)⟩
        | 3, _ => exact ⟨_, by rw [List.getElem?_set, if_pos (by omega), if_pos (by first | omega | (simp only [List.length_set]; omega))], (by rw [← HY.out]; exact (HU3.out.keep (hkp _ _ (by omega))).mono (by omega) (by rw [hws]; exact Nat.le_refl _))⟩
      have HS4 := Lib.hid s3
      have hblS : Below w.heap.size w (((((w1).setCell ⟨w.heap.size, k * 4, none⟩ (.int .i64 Y.kind)).setCell ⟨w.heap.size, k * 4 + 1, none⟩ (.int .i64 Y.num)).setCell ⟨w.heap.size, k * 4 + 2, none⟩ (.string Y.name)).setCell ⟨w.heap.size, k * 4 + 3, none⟩ (.slice ra3 Y.args.length rc3)) := ((((hbl1).setCell (Nat.le_refl _) _).setCell (Nat.le_refl _) _).setCell (Nat.le_refl _) _).setCell (Nat.le_refl _) _
      clear s0 s1 s2 s3 hbl HX
      go_wp2_with fail
      go_roundw
      case rel => exact ⟨k + 1, _, by omega, by go_num, HS4, HX4, hblS⟩
      case measure => simp [intOf]; omega
    · obtain rfl : k = n := by omega
      have HR : Hid (GPt wr w.heap.size wr.heap.size (.slice (some ⟨w.heap.size, 0, none⟩) k k) f) := Lib.hid (by
        unfold GPt
        rw [← Hxn.out]
        refine Rws_of_own HO.out (Nat.le_refl _) fun i j hi hj => ?_
        obtain ⟨u, hu, hq⟩ := HX.out i j hi hj
        exact ⟨u, hu, ptCol.step hq (Keep.refl _ _ _) (by omega) (Nat.le_refl _)⟩)
      go_wp2_with fail
      go_ret
      exact ⟨_, rfl, HR.out, hbl⟩
set_option maxRecDepth 100000 in
set_option maxHeartbeats 800000 in
theorem toDfe_any {lo hi : Nat} (n : Df) {sa2 : Option Addr} {sc2 : Nat} (w : World) (hn : wtDf n ≤ 1048576) (hs2 : GPt w lo hi (.slice sa2 n.body.length sc2) n.body) :
    Calls Try.prog 68 #[.agg #[.string n.name, .int .i64 n.par, .slice sa2 n.body.length sc2]] w fun e w' => ∃ ra2 rc2, e = .returned (.agg #[.string n.name, .int .i64 n.par, .slice ra2 n.body.length rc2]) ∧ GPt w' w.heap.size w'.heap.size (.slice ra2 n.body.length rc2) n.body ∧ Below w.heap.size w w' := by
  unfold wtDf at hn
  go_enter Try.func68, Try.ntmps68
  go_wp2_with fail
  refine (toPt_any _ _ _ (by omega) (hs2.keep (Keep.of_below _ _ (below3 _ _ _ _)))).mono ?_
  rintro e w1 ⟨u, rfl, hu, hb1⟩
  obtain ⟨ra, rc, rfl, _⟩ := Rws.slice hu
  simp only [World.size_alloc] at hu
  have HU := Lib.hid hu
  clear hu
  have e2 := box_third hb1
  have e1 := box_second hb1
  have z1 := hb1.size
  have p0 : w1.cell? ⟨w.heap.size + 1 + 1, 0, none⟩ = some (.string n.name) := by simp [World.cell?, e2]
  have q0 : w1.cell? ⟨w.heap.size + 1, 0, none⟩ = some (.string ByteArray.empty) := by first | (simp [World.cell?, e1]; done) | (simp [World.cell?, e1]; rfl)
  have p1 : w1.cell? ⟨w.heap.size + 1 + 1, 1, none⟩ = some (.int .i64 n.par) := by simp [World.cell?, e2]
  have q1 : w1.cell? ⟨w.heap.size + 1, 1, none⟩ = some (.int .i64 0) := by first | (simp [World.cell?, e1]; done) | (simp [World.cell?, e1]; rfl)
  have p2 : w1.cell? ⟨w.heap.size + 1 + 1, 2, none⟩ = some (.slice none 0 0) := by simp [World.cell?, e2]
  have q2 : w1.cell? ⟨w.heap.size + 1, 2, none⟩ = some (.slice none 0 0) := by first | (simp [World.cell?, e1]; done) | (simp [World.cell?, e1]; rfl)
  have f2 : ∀ j, w1.frozen? ⟨w.heap.size + 1 + 1, j, none⟩ = false := by intro j; simp [World.frozen?, e2]
  have f1 : ∀ j, w1.frozen? ⟨w.heap.size + 1, j, none⟩ = false := by intro j; simp [World.frozen?, e1]
  go_wp2_with fail
  have hB : Below w.heap.size w w1 := (below3 w _ _ _).trans (hb1.mono (by simp; omega))
  refine bodyPost_ret (results_cell_row rfl _ _ (w.heap.size + 1) 86 #[.string n.name, .int .i64 n.par, .slice ra n.body.length rc] (0, 0) _ rfl ?q1 Try.underlying86 rfl ?q2) rfl ?q3
  case q1 =>
    simp [World.setCell, Array.getElem?_modify, e1]
  case q2 => kernel_rfl
  case q3 =>
    refine ⟨_, _, rfl, ?_, ?_⟩
    · refine (HU.out.keep (((((Keep.refl _ _ _).setCell (Or.inl ?_) _).setCell (Or.inl ?_) _).setCell (Or.inl ?_) _).setCell (Or.inl ?_) _)).mono ?_ ?_
      all_goals first | omega | simp [size_setCell]
    · refine ((((hB.setCell ?_ _).setCell ?_ _).setCell ?_ _).setCell ?_ _)
      all_goals first | simp; done | omega | (simp; omega)
theorem infoGDf : (Try.prog.info? 86).map (fun i => (i.zero, i.size, i.bytes)) = some (some (.agg #[.string ByteArray.empty, .int .i64 0, .slice none 0 0]), 3, 48) := by kernel_rfl
set_option maxRecDepth 100000 in
set_option maxHeartbeats 1600000 in
theorem toDf_any {lo hi : Nat} (v : Value) (f : List Df) (w : World) (hn : totDf f ≤ 1048576) (hv : GDf w lo hi v f) :
    Calls Try.prog 42 #[v] w fun e w' => ∃ u, e = .returned u ∧ GDf w' w.heap.size w'.heap.size u f ∧ Below w.heap.size w w' := by
  have HV := Lib.hid hv
  obtain ⟨a, cap, rfl, hcap, _⟩ := Rws.slice hv
  obtain ⟨i0, hi, hz0, hz1, hz2⟩ := info_parts infoGDf
  unfold totDf at hn
  have hln : f.length ≤ 1048576 := by omega
  have Hwt : Hid (∀ i, i < f.length → wtDf (gnth df0 f i) ≤ 1048576) := Lib.hid (fun i hi => by
    have h : wtDf (gnth df0 f i) ≤ _ := sumTo_le (fun i => wtDf (gnth df0 f i)) hi
    omega)
  obtain ⟨n, hxn⟩ : ∃ n, n = f.length := ⟨_, rfl⟩
  rw [← hxn] at hcap hln HV
  have Hxn := Lib.hid hxn
  rw [← hxn]
  clear hxn hv hn
  go_enter Try.func42, Try.ntmps42
  go_wp2_with (at_make; refine wpList_make_full _ rfl _ _ 47 rfl w.heap.size 86 i0 (.agg #[.string ByteArray.empty, .int .i64 0, .slice none 0 0]) 3 Try.underlying47 hi hz0 hz1 _ _ _ _ n rfl rfl rfl rfl ?b2 ?b3 (Nat.le_refl _) ?_)
  case b2 => rw [hz2]; omega
  case b3 => unfold maxLen; omega
  intro w0 hown0 hgrow0
  obtain ⟨Z, hZ⟩ : ∃ Z : List Value, Z = (madeCells #[.string ByteArray.empty, .int .i64 0, .slice none 0 0] (n * 3)).toList := ⟨_, rfl⟩
  rw [← hZ] at hown0
  clear hZ
  go_wp2_with fail
  go_loopw [4] (fun si wr => ∃ (k : Nat) (X : List Value), k ≤ n ∧ si = .int .i64 k ∧ Hid (wr.ownsRow w.heap.size 86 3 (.slice (some ⟨w.heap.size, 0, none⟩) n n) n X) ∧ Hid (∀ i j, i < k → j < 3 → ∃ u, X[i * 3 + j]? = some u ∧ dfCol wr (w.heap.size + 1) wr.heap.size (gnth df0 f i) j u) ∧ Below w.heap.size w wr)
    (fun si _ => n - (intOf si).toNat)
  case atStart => exact ⟨0, Z, Nat.zero_le _, rfl, Lib.hid hown0, Lib.hid (fun i j h => absurd h (by omega)), (Below.refl _ _).grown hgrow0 (Nat.le_refl _) (fun k h => by cases h)⟩
  case round =>
    clear hown0 hgrow0
    obtain ⟨k, X, hk, rfl, HO, HX, hbl⟩ := hrel
    have hsz1 : w.heap.size < wr.heap.size := (HO.out.lt w.heap.size rfl).2
    by_cases hlt : k < n
    · have hkf : k < f.length := by rw [← Hxn.out]; exact hlt
      obtain ⟨b, o, rfl, hb, g0, g1, ga2, gc2, g2, gG2⟩ := GDf.cells HV.out hkf
      have q0 := (hbl.cell (by exact hb)).trans g0
      have q1 := (hbl.cell (by exact hb)).trans g1
      have q2 := (hbl.cell (by exact hb)).trans g2
      clear g0 g1 g2
      obtain ⟨Y, hY⟩ : ∃ Y, Y = gnth df0 f k := ⟨_, rfl⟩
      have hwk := Hwt.out k hkf
      rw [← hY] at hwk q0 q1 q2 gG2
      have HY := Lib.hid hY
      clear hY
      have HgG2 := Lib.hid gG2
      clear gG2
      go_wp2_with fail
      refine (toDfe_any Y _ hwk (HgG2.out.keep (Keep.of_below _ _ hbl))).mono ?_
      rintro e w1 ⟨ra2, rc2, rfl, hu2, hb1⟩
      have HU2 := Lib.hid hu2
      clear hu2
      have hO1 := ownsRow_below HO.out hb1
      have hbl1 := below_trans' hbl hb1
      have HO1 := Lib.hid hO1
      have hXl : X.length = n * 3 := hO1.1
      have p0 : w1.cell? ⟨w.heap.size, k * 3, none⟩ = some (X.getD (k * 3) undef) := by
        rw [hO1.cellAt (k * 3) (by omega)]
        rw [List.getD_eq_getElem?_getD, List.getElem?_eq_getElem (by omega)]; rfl
      have z0 := hO1.frozenAt (k * 3)
      have p1 : w1.cell? ⟨w.heap.size, k * 3 + 1, none⟩ = some (X.getD (k * 3 + 1) undef) := by
        rw [hO1.cellAt (k * 3 + 1) (by omega)]
        rw [List.getD_eq_getElem?_getD, List.getElem?_eq_getElem (by omega)]; rfl
      have z1 := hO1.frozenAt (k * 3 + 1)
      have p2 : w1.cell? ⟨w.heap.size, k * 3 + 2, none⟩ = some (X.getD (k * 3 + 2) undef) := by
        rw [hO1.cellAt (k * 3 + 2) (by omega)]
        rw [List.getD_eq_getElem?_getD, List.getElem?_eq_getElem (by omega)]; rfl
      have z2 := hO1.frozenAt (k * 3 + 2)
      clear HO hO1
      have s0 := (HO1.out.stored (k * 3) (.string Y.name)).1
      have s1 := (s0.stored (k * 3 + 1) (.int .i64 Y.par)).1
      have s2 := (s1.stored (k * 3 + 2) (.slice ra2 Y.body.length rc2)).1
      have HX4 : Hid (∀ i j, i < k + 1 → j < 3 → ∃ u, ((((X).set (k * 3) (.string Y.name)).set (k * 3 + 1) (.int .i64 Y.par)).set (k * 3 + 2) (.slice ra2 Y.body.length rc2))[i * 3 + j]? = some u ∧ dfCol ((((w1).setCell ⟨w.heap.size, k * 3, none⟩ (.string Y.name)).setCell ⟨w.heap.size, k * 3 + 1, none⟩ (.int .i64 Y.par)).setCell ⟨w.heap.size, k * 3 + 2, none⟩ (.slice ra2 Y.body.length rc2)) (w.heap.size + 1) ((((w1).setCell ⟨w.heap.size, k * 3, none⟩ (.string Y.name)).setCell ⟨w.heap.size, k * 3 + 1, none⟩ (.int .i64 Y.par)).setCell ⟨w.heap.size, k * 3 + 2, none⟩ (.slice ra2 Y.body.length rc2)).heap.size (gnth df0 f i) j u) := by
        have hws : ((((w1).setCell ⟨w.heap.size, k * 3, none⟩ (.string Y.name)).setCell ⟨w.heap.size, k * 3 + 1, none⟩ (.int .i64 Y.par)).setCell ⟨w.heap.size, k * 3 + 2, none⟩ (.slice ra2 Y.body.length rc2)).heap.size = w1.heap.size := by simp [size_setCell]
        have hkp : ∀ lo hi, w.heap.size < lo → Keep lo hi w1 ((((w1).setCell ⟨w.heap.size, k * 3, none⟩ (.string Y.name)).setCell ⟨w.heap.size, k * 3 + 1, none⟩ (.int .i64 Y.par)).setCell ⟨w.heap.size, k * 3 + 2, none⟩ (.slice ra2 Y.body.length rc2)) := fun lo hi h => ((((Keep.refl _ _ _).setCell (Or.inl h) _).setCell (Or.inl h) _).setCell (Or.inl h) _)
        have hz1' := hb1.size
        refine Lib.hid fun i j hi hj => ?_
        by_cases h : i < k
        · obtain ⟨u, hu, hq⟩ := HX.out i j h hj
          refine ⟨u, ?_, ?_⟩
          · rw [List.getElem?_set_ne (by omega), List.getElem?_set_ne (by omega), List.getElem?_set_ne (by omega)]; exact hu
          · exact dfCol.step hq ((Keep.of_below _ _ hb1).trans (hkp _ _ (by omega))) (Nat.le_refl _) (by rw [hws]; exact hz1')
        rw [show i = k by omega]
        match j, hj with
        | 0, _ => exact ⟨_, by rw [List.getElem?_set_ne (by omega), List.getElem?_set_ne (by omega), List.getElem?_set, if_pos (by omega), if_pos (by first | omega | (simp only [List.length_set]; omega))], (by rw [← HY.out]; exact rfl)⟩
        | 1, _ => exact ⟨_, by rw [List.getElem?_set_ne (by omega), List.getElem?_set, if_pos (by omega), if_pos (by first | omega | (simp only [List.length_set]; omega))], (by rw [← HY.out]; exact rfl)⟩
        | 2, _ => exact ⟨_, by rw [List.getElem?_set, if_pos (by omega), if_pos (by first | omega | (simp only [List.length_set]; omega))], (by rw [← HY.out]; exact (HU2.out.keep (hkp _ _ (by omega))).mono (by omega) (by rw [hws]; exact Nat.le_refl _))⟩
      have HS4 := Lib.hid s2
      have hblS : Below w.heap.size w ((((w1).setCell ⟨w.heap.size, k * 3, none⟩ (.string Y.name)).setCell ⟨w.heap.size, k * 3 + 1, none⟩ (.int .i64 Y.par)).setCell ⟨w.heap.size, k * 3 + 2, none⟩ (.slice ra2 Y.body.length rc2)) := (((hbl1).setCell (Nat.le_refl _) _).setCell (Nat.le_refl _) _).setCell (Nat.le_refl _) _
      clear s0 s1 s2 hbl HX
      go_wp2_with fail
      go_roundw
      case rel => exact ⟨k + 1, _, by omega, by go_num, HS4, HX4, hblS⟩
      case measure => simp [intOf]; omega
    · obtain rfl : k = n := by omega
      have HR : Hid (GDf wr w.heap.size wr.heap.size (.slice (some ⟨w.heap.size, 0, none⟩) k k) f) := Lib.hid (by
        unfold GDf
        rw [← Hxn.out]
        refine Rws_of_own HO.out (Nat.le_refl _) fun i j hi hj => ?_
        obtain ⟨u, hu, hq⟩ := HX.out i j hi hj
        exact ⟨u, hu, dfCol.step hq (Keep.refl _ _ _) (by omega) (Nat.le_refl _)⟩)
      go_wp2_with fail
      go_ret
      exact ⟨_, rfl, HR.out, hbl⟩
set_option maxRecDepth 100000 in
set_option maxHeartbeats 800000 in
theorem toCpe_any {lo hi : Nat} (n : Cp) {sa1 : Option Addr} {sc1 : Nat} (w : World) (hn : wtCp n ≤ 1048576) (hs1 : GI w lo hi (.slice sa1 n.vals.length sc1) n.vals) :
    Calls Try.prog 69 #[.agg #[.int .i64 n.dfn, .slice sa1 n.vals.length sc1]] w fun e w' => ∃ ra1 rc1, e = .returned (.agg #[.int .i64 n.dfn, .slice ra1 n.vals.length rc1]) ∧ GI w' w.heap.size w'.heap.size (.slice ra1 n.vals.length rc1) n.vals ∧ Below w.heap.size w w' := by
  unfold wtCp at hn
  go_enter Try.func69, Try.ntmps69
  go_wp2_with fail
  refine (toI_any _ _ _ (by omega) (hs1.keep (Keep.of_below _ _ (below3 _ _ _ _)))).mono ?_
  rintro e w1 ⟨u, rfl, hu, hb1⟩
  obtain ⟨ra, rc, rfl, _⟩ := Rws.slice hu
  simp only [World.size_alloc] at hu
  have HU := Lib.hid hu
  clear hu
  have e2 := box_third hb1
  have e1 := box_second hb1
  have z1 := hb1.size
  have p0 : w1.cell? ⟨w.heap.size + 1 + 1, 0, none⟩ = some (.int .i64 n.dfn) := by simp [World.cell?, e2]
  have q0 : w1.cell? ⟨w.heap.size + 1, 0, none⟩ = some (.int .i64 0) := by first | (simp [World.cell?, e1]; done) | (simp [World.cell?, e1]; rfl)
  have p1 : w1.cell? ⟨w.heap.size + 1 + 1, 1, none⟩ = some (.slice none 0 0) := by simp [World.cell?, e2]
  have q1 : w1.cell? ⟨w.heap.size + 1, 1, none⟩ = some (.slice none 0 0) := by first | (simp [World.cell?, e1]; done) | (simp [World.cell?, e1]; rfl)
  have f2 : ∀ j, w1.frozen? ⟨w.heap.size + 1 + 1, j, none⟩ = false := by intro j; simp [World.frozen?, e2]
  have f1 : ∀ j, w1.frozen? ⟨w.heap.size + 1, j, none⟩ = false := by intro j; simp [World.frozen?, e1]
  go_wp2_with fail
  have hB : Below w.heap.size w w1 := (below3 w _ _ _).trans (hb1.mono (by simp; omega))
  refine bodyPost_ret (results_cell_row rfl _ _ (w.heap.size + 1) 90 #[.int .i64 n.dfn, .slice ra n.vals.length rc] (0, 0) _ rfl ?q1 Try.underlying90 rfl ?q2) rfl ?q3
  case q1 =>
    simp [World.setCell, Array.getElem?_modify, e1]
  case q2 => kernel_rfl
  case q3 =>
    refine ⟨_, _, rfl, ?_, ?_⟩
    · refine (HU.out.keep ((((Keep.refl _ _ _).setCell (Or.inl ?_) _).setCell (Or.inl ?_) _).setCell (Or.inl ?_) _)).mono ?_ ?_
      all_goals first | omega | simp [size_setCell]
    · refine (((hB.setCell ?_ _).setCell ?_ _).setCell ?_ _)
      all_goals first | simp; done | omega | (simp; omega)
theorem infoGCp : (Try.prog.info? 90).map (fun i => (i.zero, i.size, i.bytes)) = some (some (.agg #[.int .i64 0, .slice none 0 0]), 2, 32) := by kernel_rfl
set_option maxRecDepth 100000 in
set_option maxHeartbeats 1600000 in
theorem toCp_any {lo hi : Nat} (v : Value) (f : List Cp) (w : World) (hn : totCp f ≤ 1048576) (hv : GCp w lo hi v f) :
    Calls Try.prog 43 #[v] w fun e w' => ∃ u, e = .returned u ∧ GCp w' w.heap.size w'.heap.size u f ∧ Below w.heap.size w w' := by
  have HV := Lib.hid hv
  obtain ⟨a, cap, rfl, hcap, _⟩ := Rws.slice hv
  obtain ⟨i0, hi, hz0, hz1, hz2⟩ := info_parts infoGCp
  unfold totCp at hn
  have hln : f.length ≤ 1048576 := by omega
  have Hwt : Hid (∀ i, i < f.length → wtCp (gnth cp0 f i) ≤ 1048576) := Lib.hid (fun i hi => by
    have h : wtCp (gnth cp0 f i) ≤ _ := sumTo_le (fun i => wtCp (gnth cp0 f i)) hi
    omega)
  obtain ⟨n, hxn⟩ : ∃ n, n = f.length := ⟨_, rfl⟩
  rw [← hxn] at hcap hln HV
  have Hxn := Lib.hid hxn
  rw [← hxn]
  clear hxn hv hn
  go_enter Try.func43, Try.ntmps43
  go_wp2_with (at_make; refine wpList_make_full _ rfl _ _ 48 rfl w.heap.size 90 i0 (.agg #[.int .i64 0, .slice none 0 0]) 2 Try.underlying48 hi hz0 hz1 _ _ _ _ n rfl rfl rfl rfl ?b2 ?b3 (Nat.le_refl _) ?_)
  case b2 => rw [hz2]; omega
  case b3 => unfold maxLen; omega
  intro w0 hown0 hgrow0
  obtain ⟨Z, hZ⟩ : ∃ Z : List Value, Z = (madeCells #[.int .i64 0, .slice none 0 0] (n * 2)).toList := ⟨_, rfl⟩
  rw [← hZ] at hown0
  clear hZ
  go_wp2_with fail
  go_loopw [4] (fun si wr => ∃ (k : Nat) (X : List Value), k ≤ n ∧ si = .int .i64 k ∧ Hid (wr.ownsRow w.heap.size 90 2 (.slice (some ⟨w.heap.size, 0, none⟩) n n) n X) ∧ Hid (∀ i j, i < k → j < 2 → ∃ u, X[i * 2 + j]? = some u ∧ cpCol wr (w.heap.size + 1) wr.heap.size (gnth cp0 f i) j u) ∧ Below w.heap.size w wr)
    (fun si _ => n - (intOf si).toNat)
  case atStart => exact ⟨0, Z, Nat.zero_le _, rfl, Lib.hid hown0, Lib.hid (fun i j h => absurd h (by omega)), (Below.refl _ _).grown hgrow0 (Nat.le_refl _) (fun k h => by cases h)⟩
  case round =>
    clear hown0 hgrow0
    obtain ⟨k, X, hk, rfl, HO, HX, hbl⟩ := hrel
    have hsz1 : w.heap.size < wr.heap.size := (HO.out.lt w.heap.size rfl).2
    by_cases hlt : k < n
    · have hkf : k < f.length := by rw [← Hxn.out]; exact hlt
      obtain ⟨b, o, rfl, hb, g0, ga1, gc1, g1, gG1⟩ := GCp.cells HV.out hkf
      have q0 := (hbl.cell (by exact hb)).trans g0
      have q1 := (hbl.cell (by exact hb)).trans g1
      clear g0 g1
      obtain ⟨Y, hY⟩ : ∃ Y, Y = gnth cp0 f k := ⟨_, rfl⟩
      have hwk := Hwt.out k hkf
      rw [← hY] at hwk q0 q1 gG1
      have HY := Lib.hid hY
      clear hY
      have HgG1 := Lib.hid gG1
      clear gG1
      go_wp2_with fail
      refine (toCpe_any Y _ hwk (HgG1.out.keep (Keep.of_below _ _ hbl))).mono ?_
      rintro e w1 ⟨ra1, rc1, rfl, hu1, hb1⟩
      have HU1 := Lib.hid hu1
      clear hu1
      have hO1 := ownsRow_below HO.out hb1
      have hbl1 := below_trans' hbl hb1
      have HO1 := Lib.hid hO1
      have hXl : X.length = n * 2 := hO1.1
      have p0 : w1.cell? ⟨w.heap.size, k * 2, none⟩ = some (X.getD (k * 2) undef) := by
        rw [hO1.cellAt (k * 2) (by omega)]
        rw [List.getD_eq_getElem?_getD, List.getElem?_eq_getElem (by omega)]; rfl
      have z0 := hO1.frozenAt (k * 2)
      have p1 : w1.cell? ⟨w.heap.size, k * 2 + 1, none⟩ = some (X.getD (k * 2 + 1) undef) := by
        rw [hO1.cellAt (k * 2 + 1) (by omega)]
        rw [List.getD_eq_getElem?_getD, List.getElem?_eq_getElem (by omega)]; rfl
      have z1 := hO1.frozenAt (k * 2 + 1)
      clear HO hO1
      have s0 := (HO1.out.stored (k * 2) (.int .i64 Y.dfn)).1
      have s1 := (s0.stored (k * 2 + 1) (.slice ra1 Y.vals.length rc1)).1
      have HX4 : Hid (∀ i j, i < k + 1 → j < 2 → ∃ u, (((X).set (k * 2) (.int .i64 Y.dfn)).set (k * 2 + 1) (.slice ra1 Y.vals.length rc1))[i * 2 + j]? = some u ∧ cpCol (((w1).setCell ⟨w.heap.size, k * 2, none⟩ (.int .i64 Y.dfn)).setCell ⟨w.heap.size, k * 2 + 1, none⟩ (.slice ra1 Y.vals.length rc1)) (w.heap.size + 1) (((w1).setCell ⟨w.heap.size, k * 2, none⟩ (.int .i64 Y.dfn)).setCell ⟨w.heap.size, k * 2 + 1, none⟩ (.slice ra1 Y.vals.length rc1)).heap.size (gnth cp0 f i) j u) := by
        have hws : (((w1).setCell ⟨w.heap.size, k * 2, none⟩ (.int .i64 Y.dfn)).setCell ⟨w.heap.size, k * 2 + 1, none⟩ (.slice ra1 Y.vals.length rc1)).heap.size = w1.heap.size := by simp [size_setCell]
        have hkp : ∀ lo hi, w.heap.size < lo → Keep lo hi w1 (((w1).setCell ⟨w.heap.size, k * 2, none⟩ (.int .i64 Y.dfn)).setCell ⟨w.heap.size, k * 2 + 1, none⟩ (.slice ra1 Y.vals.length rc1)) := fun lo hi h => (((Keep.refl _ _ _).setCell (Or.inl h) _).setCell (Or.inl h) _)
        have hz1' := hb1.size
        refine Lib.hid fun i j hi hj => ?_
        by_cases h : i < k
        · obtain ⟨u, hu, hq⟩ := HX.out i j h hj
          refine ⟨u, ?_, ?_⟩
          · rw [List.getElem?_set_ne (by omega), List.getElem?_set_ne (by omega)]; exact hu
          · exact cpCol.step hq ((Keep.of_below _ _ hb1).trans (hkp _ _ (by omega))) (Nat.le_refl _) (by rw [hws]; exact hz1')
        rw [show i = k by omega]
        match j, hj with
        | 0, _ => exact ⟨_, by rw [List.getElem?_set_ne (by omega), List.getElem?_set, if_pos (by omega), if_pos (by first | omega | (simp only [List.length_set]; omega))], (by rw [← HY.out]; exact rfl)⟩
        | 1, _ => exact ⟨_, by rw [List.getElem?_set, if_pos (by omega), if_pos (by first | omega | (simp only [List.length_set]; omega))], (by rw [← HY.out]; exact (HU1.out.keep (hkp _ _ (by omega))).mono (by omega) (by rw [hws]; exact Nat.le_refl _))⟩
      have HS4 := Lib.hid s1
      have hblS : Below w.heap.size w (((w1).setCell ⟨w.heap.size, k * 2, none⟩ (.int .i64 Y.dfn)).setCell ⟨w.heap.size, k * 2 + 1, none⟩ (.slice ra1 Y.vals.length rc1)) := ((hbl1).setCell (Nat.le_refl _) _).setCell (Nat.le_refl _) _
      clear s0 s1 hbl HX
      go_wp2_with fail
      go_roundw
      case rel => exact ⟨k + 1, _, by omega, by go_num, HS4, HX4, hblS⟩
      case measure => simp [intOf]; omega
    · obtain rfl : k = n := by omega
      have HR : Hid (GCp wr w.heap.size wr.heap.size (.slice (some ⟨w.heap.size, 0, none⟩) k k) f) := Lib.hid (by
        unfold GCp
        rw [← Hxn.out]
        refine Rws_of_own HO.out (Nat.le_refl _) fun i j hi hj => ?_
        obtain ⟨u, hu, hq⟩ := HX.out i j hi hj
        exact ⟨u, hu, cpCol.step hq (Keep.refl _ _ _) (by omega) (Nat.le_refl _)⟩)
      go_wp2_with fail
      go_ret
      exact ⟨_, rfl, HR.out, hbl⟩
set_option maxRecDepth 100000 in
set_option maxHeartbeats 800000 in
theorem toMte_any {lo hi : Nat} (n : Mt) (w : World) :
    Calls Try.prog 70 #[.agg #[.string n.left, .string n.right, .string n.res]] w fun e w' => e = .returned (.agg #[.string n.left, .string n.right, .string n.res]) ∧ Below w.heap.size w w' := by
  go_enter Try.func70, Try.ntmps70
  go_wp2_with fail
  refine bodyPost_ret (results_cell_row rfl _ _ (w.heap.size + 1) 94 #[.string n.left, .string n.right, .string n.res] (0, 0) _ rfl ?q1 Try.underlying94 rfl ?q2) rfl ?q3
  case q1 =>
    show (((w.heap.push _).push _).push _)[w.heap.size + 1]? = some _
    rw [Array.getElem?_push, if_neg (by simp), Array.getElem?_push, if_pos (by simp)]
  case q2 => kernel_rfl
  case q3 =>
    refine ⟨rfl, ?_⟩
    refine (((Below.refl _ w).alloc (Nat.le_refl _) _).alloc ?_ _).alloc ?_ _
    · simp
    · simp; omega
theorem infoGMt : (Try.prog.info? 94).map (fun i => (i.zero, i.size, i.bytes)) = some (some (.agg #[.string ByteArray.empty, .string ByteArray.empty, .string ByteArray.empty]), 3, 48) := by kernel_rfl
set_option maxRecDepth 100000 in
set_option maxHeartbeats 1600000 in
theorem toMt_any {lo hi : Nat} (v : Value) (f : List Mt) (w : World) (hn : totMt f ≤ 1048576) (hv : GMt w lo hi v f) :
    Calls Try.prog 44 #[v] w fun e w' => ∃ u, e = .returned u ∧ GMt w' w.heap.size w'.heap.size u f ∧ Below w.heap.size w w' := by
  have HV := Lib.hid hv
  obtain ⟨a, cap, rfl, hcap, _⟩ := Rws.slice hv
  obtain ⟨i0, hi, hz0, hz1, hz2⟩ := info_parts infoGMt
  unfold totMt at hn
  have hln : f.length ≤ 1048576 := by omega
  have Hwt : Hid (∀ i, i < f.length → wtMt (gnth mt0 f i) ≤ 1048576) := Lib.hid (fun i hi => by
    have h : wtMt (gnth mt0 f i) ≤ _ := sumTo_le (fun i => wtMt (gnth mt0 f i)) hi
    omega)
  obtain ⟨n, hxn⟩ : ∃ n, n = f.length := ⟨_, rfl⟩
  rw [← hxn] at hcap hln HV
  have Hxn := Lib.hid hxn
  rw [← hxn]
  clear hxn hv hn
  go_enter Try.func44, Try.ntmps44
  go_wp2_with (at_make; refine wpList_make_full _ rfl _ _ 49 rfl w.heap.size 94 i0 (.agg #[.string ByteArray.empty, .string ByteArray.empty, .string ByteArray.empty]) 3 Try.underlying49 hi hz0 hz1 _ _ _ _ n rfl rfl rfl rfl ?b2 ?b3 (Nat.le_refl _) ?_)
  case b2 => rw [hz2]; omega
  case b3 => unfold maxLen; omega
  intro w0 hown0 hgrow0
  obtain ⟨Z, hZ⟩ : ∃ Z : List Value, Z = (madeCells #[.string ByteArray.empty, .string ByteArray.empty, .string ByteArray.empty] (n * 3)).toList := ⟨_, rfl⟩
  rw [← hZ] at hown0
  clear hZ
  go_wp2_with fail
  go_loopw [4] (fun si wr => ∃ (k : Nat) (X : List Value), k ≤ n ∧ si = .int .i64 k ∧ Hid (wr.ownsRow w.heap.size 94 3 (.slice (some ⟨w.heap.size, 0, none⟩) n n) n X) ∧ Hid (∀ i j, i < k → j < 3 → ∃ u, X[i * 3 + j]? = some u ∧ mtCol wr (w.heap.size + 1) wr.heap.size (gnth mt0 f i) j u) ∧ Below w.heap.size w wr)
    (fun si _ => n - (intOf si).toNat)
  case atStart => exact ⟨0, Z, Nat.zero_le _, rfl, Lib.hid hown0, Lib.hid (fun i j h => absurd h (by omega)), (Below.refl _ _).grown hgrow0 (Nat.le_refl _) (fun k h => by cases h)⟩
  case round =>
    clear hown0 hgrow0
    obtain ⟨k, X, hk, rfl, HO, HX, hbl⟩ := hrel
    have hsz1 : w.heap.size < wr.heap.size := (HO.out.lt w.heap.size rfl).2
    by_cases hlt : k < n
    · have hkf : k < f.length := by rw [← Hxn.out]; exact hlt
      obtain ⟨b, o, rfl, hb, g0, g1, g2⟩ := GMt.cells HV.out hkf
      have q0 := (hbl.cell (by exact hb)).trans g0
      have q1 := (hbl.cell (by exact hb)).trans g1
      have q2 := (hbl.cell (by exact hb)).trans g2
      clear g0 g1 g2
      obtain ⟨Y, hY⟩ : ∃ Y, Y = gnth mt0 f k := ⟨_, rfl⟩
      have hwk := Hwt.out k hkf
      rw [← hY] at hwk q0 q1 q2
      have HY := Lib.hid hY
      clear hY
      go_wp2_with fail
      refine (toMte_any (lo := 0) (hi := 0) Y _).mono ?_
      rintro e w1 ⟨rfl, hb1⟩
      have hO1 := ownsRow_below HO.out hb1
      have hbl1 := below_trans' hbl hb1
      have HO1 := Lib.hid hO1
      have hXl : X.length = n * 3 := hO1.1
      have p0 : w1.cell? ⟨w.heap.size, k * 3, none⟩ = some (X.getD (k * 3) undef) := by
        rw [hO1.cellAt (k * 3) (by omega)]
        rw [List.getD_eq_getElem?_getD, List.getElem?_eq_getElem (by omega)]; rfl
      have z0 := hO1.frozenAt (k * 3)
      have p1 : w1.cell? ⟨w.heap.size, k * 3 + 1, none⟩ = some (X.getD (k * 3 + 1) undef) := by
        rw [hO1.cellAt (k * 3 + 1) (by omega)]
        rw [List.getD_eq_getElem?_getD, List.getElem?_eq_getElem (by omega)]; rfl
      have z1 := hO1.frozenAt (k * 3 + 1)
      have p2 : w1.cell? ⟨w.heap.size, k * 3 + 2, none⟩ = some (X.getD (k * 3 + 2) undef) := by
        rw [hO1.cellAt (k * 3 + 2) (by omega)]
        rw [List.getD_eq_getElem?_getD, List.getElem?_eq_getElem (by omega)]; rfl
      have z2 := hO1.frozenAt (k * 3 + 2)
      clear HO hO1
      have s0 := (HO1.out.stored (k * 3) (.string Y.left)).1
      have s1 := (s0.stored (k * 3 + 1) (.string Y.right)).1
      have s2 := (s1.stored (k * 3 + 2) (.string Y.res)).1
      have HX4 : Hid (∀ i j, i < k + 1 → j < 3 → ∃ u, ((((X).set (k * 3) (.string Y.left)).set (k * 3 + 1) (.string Y.right)).set (k * 3 + 2) (.string Y.res))[i * 3 + j]? = some u ∧ mtCol ((((w1).setCell ⟨w.heap.size, k * 3, none⟩ (.string Y.left)).setCell ⟨w.heap.size, k * 3 + 1, none⟩ (.string Y.right)).setCell ⟨w.heap.size, k * 3 + 2, none⟩ (.string Y.res)) (w.heap.size + 1) ((((w1).setCell ⟨w.heap.size, k * 3, none⟩ (.string Y.left)).setCell ⟨w.heap.size, k * 3 + 1, none⟩ (.string Y.right)).setCell ⟨w.heap.size, k * 3 + 2, none⟩ (.string Y.res)).heap.size (gnth mt0 f i) j u) := by
        have hws : ((((w1).setCell ⟨w.heap.size, k * 3, none⟩ (.string Y.left)).setCell ⟨w.heap.size, k * 3 + 1, none⟩ (.string Y.right)).setCell ⟨w.heap.size, k * 3 + 2, none⟩ (.string Y.res)).heap.size = w1.heap.size := by simp [size_setCell]
        have hkp : ∀ lo hi, w.heap.size < lo → Keep lo hi w1 ((((w1).setCell ⟨w.heap.size, k * 3, none⟩ (.string Y.left)).setCell ⟨w.heap.size, k * 3 + 1, none⟩ (.string Y.right)).setCell ⟨w.heap.size, k * 3 + 2, none⟩ (.string Y.res)) := fun lo hi h => ((((Keep.refl _ _ _).setCell (Or.inl h) _).setCell (Or.inl h) _).setCell (Or.inl h) _)
        have hz1' := hb1.size
        refine Lib.hid fun i j hi hj => ?_
        by_cases h : i < k
        · obtain ⟨u, hu, hq⟩ := HX.out i j h hj
          refine ⟨u, ?_, ?_⟩
          · rw [List.getElem?_set_ne (by omega), List.getElem?_set_ne (by omega), List.getElem?_set_ne (by omega)]; exact hu
          · exact mtCol.step hq ((Keep.of_below _ _ hb1).trans (hkp _ _ (by omega))) (Nat.le_refl _) (by rw [hws]; exact hz1')
        rw [show i = k by omega]
        match j, hj with
        | 0, _ => exact ⟨_, by rw [List.getElem?_set_ne (by omega), List.getElem?_set_ne (by omega), List.getElem?_set, if_pos (by omega), if_pos (by first | omega | (simp only [List.length_set]; omega))], (by rw [← HY.out]; exact rfl)⟩
        | 1, _ => exact ⟨_, by rw [List.getElem?_set_ne (by omega), List.getElem?_set, if_pos (by omega), if_pos (by first | omega | (simp only [List.length_set]; omega))], (by rw [← HY.out]; exact rfl)⟩
        | 2, _ => exact ⟨_, by rw [List.getElem?_set, if_pos (by omega), if_pos (by first | omega | (simp only [List.length_set]; omega))], (by rw [← HY.out]; exact rfl)⟩
      have HS4 := Lib.hid s2
      have hblS : Below w.heap.size w ((((w1).setCell ⟨w.heap.size, k * 3, none⟩ (.string Y.left)).setCell ⟨w.heap.size, k * 3 + 1, none⟩ (.string Y.right)).setCell ⟨w.heap.size, k * 3 + 2, none⟩ (.string Y.res)) := (((hbl1).setCell (Nat.le_refl _) _).setCell (Nat.le_refl _) _).setCell (Nat.le_refl _) _
      clear s0 s1 s2 hbl HX
      go_wp2_with fail
      go_roundw
      case rel => exact ⟨k + 1, _, by omega, by go_num, HS4, HX4, hblS⟩
      case measure => simp [intOf]; omega
    · obtain rfl : k = n := by omega
      have HR : Hid (GMt wr w.heap.size wr.heap.size (.slice (some ⟨w.heap.size, 0, none⟩) k k) f) := Lib.hid (by
        unfold GMt
        rw [← Hxn.out]
        refine Rws_of_own HO.out (Nat.le_refl _) fun i j hi hj => ?_
        obtain ⟨u, hu, hq⟩ := HX.out i j hi hj
        exact ⟨u, hu, mtCol.step hq (Keep.refl _ _ _) (by omega) (Nat.le_refl _)⟩)
      go_wp2_with fail
      go_ret
      exact ⟨_, rfl, HR.out, hbl⟩
set_option maxRecDepth 100000 in
set_option maxHeartbeats 800000 in
theorem toLte_any {lo hi : Nat} (n : Lt) {sa2 sa3 : Option Addr} {sc2 sc3 : Nat} (w : World) (hn : wtLt n ≤ 1048576) (hs2 : GS w lo hi (.slice sa2 n.labs.length sc2) n.labs) (hs3 : GEg w lo hi (.slice sa3 n.edges.length sc3) n.edges) :
    Calls Try.prog 13 #[.agg #[.int .i64 n.st, .int .i64 n.ini, .slice sa2 n.labs.length sc2, .slice sa3 n.edges.length sc3]] w fun e w' => ∃ ra2 rc2 ra3 rc3, e = .returned (.agg #[.int .i64 n.st, .int .i64 n.ini, .slice ra2 n.labs.length rc2, .slice ra3 n.edges.length rc3]) ∧ GS w' w.heap.size w'.heap.size (.slice ra2 n.labs.length rc2) n.labs ∧ GEg w' w.heap.size w'.heap.size (.slice ra3 n.edges.length rc3) n.edges ∧ Below w.heap.size w w' := by
  unfold wtLt at hn
  go_enter Try.func13, Try.ntmps13
  go_wp2_with fail
  refine (toS_any _ _ _ (by omega) (hs2.keep (Keep.of_below _ _ (below3 _ _ _ _)))).mono ?_
  rintro e w3 ⟨u2, rfl, hu2, hb2⟩
  obtain ⟨ra2, rc2, rfl, _⟩ := Rws.slice hu2
  simp only [World.size_alloc] at hu2
  have e2 := box_third hb2
  have e1 := box_second hb2
  have hB2 : Below w.heap.size w w3 := (below3 w _ _ _).trans (hb2.mono (by simp; omega))
  have zz2 : w.heap.size + 1 + 1 + 1 ≤ w3.heap.size := by have := hb2.size; simpa using this
  replace hu2 := hu2.mono (Nat.le_refl _) (Nat.le_refl _)
  have HU2 := Lib.hid hu2
  clear hu2
  have p0 : w3.cell? ⟨w.heap.size + 1 + 1, 0, none⟩ = some (.int .i64 n.st) := by first | (simp [World.cell?, e2]; done) | (simp [World.cell?, e2]; rfl)
  have q0 : w3.cell? ⟨w.heap.size + 1, 0, none⟩ = some (.int .i64 0) := by first | (simp [World.cell?, e1]; done) | (simp [World.cell?, e1]; rfl)
  have p1 : w3.cell? ⟨w.heap.size + 1 + 1, 1, none⟩ = some (.int .i64 n.ini) := by first | (simp [World.cell?, e2]; done) | (simp [World.cell?, e2]; rfl)
  have q1 : w3.cell? ⟨w.heap.size + 1, 1, none⟩ = some (.int .i64 0) := by first | (simp [World.cell?, e1]; done) | (simp [World.cell?, e1]; rfl)
  have p2 : w3.cell? ⟨w.heap.size + 1 + 1, 2, none⟩ = some (.slice none 0 0) := by first | (simp [World.cell?, e2]; done) | (simp [World.cell?, e2]; rfl)
  have q2 : w3.cell? ⟨w.heap.size + 1, 2, none⟩ = some (.slice none 0 0) := by first | (simp [World.cell?, e1]; done) | (simp [World.cell?, e1]; rfl)
  have p3 : w3.cell? ⟨w.heap.size + 1 + 1, 3, none⟩ = some (.slice none 0 0) := by first | (simp [World.cell?, e2]; done) | (simp [World.cell?, e2]; rfl)
  have q3 : w3.cell? ⟨w.heap.size + 1, 3, none⟩ = some (.slice none 0 0) := by first | (simp [World.cell?, e1]; done) | (simp [World.cell?, e1]; rfl)
  have f2 : ∀ j, w3.frozen? ⟨w.heap.size + 1 + 1, j, none⟩ = false := by intro j; simp [World.frozen?, e2]
  have f1 : ∀ j, w3.frozen? ⟨w.heap.size + 1, j, none⟩ = false := by intro j; simp [World.frozen?, e1]
  have e0 := box_first hb2
  have a0 : w3.cell? ⟨w.heap.size, 0, none⟩ = some (.int .i64 n.st) := by simp [World.cell?, e0]
  have a1 : w3.cell? ⟨w.heap.size, 1, none⟩ = some (.int .i64 n.ini) := by simp [World.cell?, e0]
  have a2 : w3.cell? ⟨w.heap.size, 2, none⟩ = some (.slice sa2 n.labs.length sc2) := by simp [World.cell?, e0]
  have a3 : w3.cell? ⟨w.heap.size, 3, none⟩ = some (.slice sa3 n.edges.length sc3) := by simp [World.cell?, e0]
  go_wp2_with fail
  refine (toEg_any _ _ _ (by omega) (hs3.keep (Keep.of_below _ _ (hB2.setCell (by simp; omega) _)))).mono ?_
  rintro e w4 ⟨u3, rfl, hu3, hb3⟩
  obtain ⟨ra3, rc3, rfl, _⟩ := Rws.slice hu3
  have e2 : w4.heap[w.heap.size + 1 + 1]? = some (.cells #[.int .i64 n.st, .int .i64 n.ini, .slice ra2 n.labs.length rc2, .slice none 0 0] 37) := by rw [hb3.block _ (by rw [size_setCell]; omega)]; simp [World.setCell, Array.getElem?_modify, e2]
  have e1 : w4.heap[w.heap.size + 1]? = some (.cells #[.int .i64 0, .int .i64 0, .slice none 0 0, .slice none 0 0] 37) := by rw [hb3.block _ (by rw [size_setCell]; omega)]; simp [World.setCell, Array.getElem?_modify, e1]
  have hB3 : Below w.heap.size w w4 := (hB2.setCell (by simp; omega) _).trans (hb3.mono (by rw [size_setCell]; exact hB2.size))
  have zz3 : w.heap.size + 1 + 1 + 1 ≤ w4.heap.size := by have := hb3.size; rw [size_setCell] at this; omega
  rw [size_setCell] at hu3
  replace hu3 := hu3.mono zz2 (Nat.le_refl _)
  have HU2 := Lib.hid ((HU2.out.keep (((Keep.refl _ _ _).setCell (Or.inl (by simp)) _).trans (Keep.of_below _ _ hb3))).mono (Nat.le_refl _) (by have := hb3.size; rwa [size_setCell] at this))
  have HU3 := Lib.hid hu3
  clear hu3
  have p0 : w4.cell? ⟨w.heap.size + 1 + 1, 0, none⟩ = some (.int .i64 n.st) := by first | (simp [World.cell?, e2]; done) | (simp [World.cell?, e2]; rfl)
  have q0 : w4.cell? ⟨w.heap.size + 1, 0, none⟩ = some (.int .i64 0) := by first | (simp [World.cell?, e1]; done) | (simp [World.cell?, e1]; rfl)
  have p1 : w4.cell? ⟨w.heap.size + 1 + 1, 1, none⟩ = some (.int .i64 n.ini) := by first | (simp [World.cell?, e2]; done) | (simp [World.cell?, e2]; rfl)
  have q1 : w4.cell? ⟨w.heap.size + 1, 1, none⟩ = some (.int .i64 0) := by first | (simp [World.cell?, e1]; done) | (simp [World.cell?, e1]; rfl)
  have p2 : w4.cell? ⟨w.heap.size + 1 + 1, 2, none⟩ = some (.slice ra2 n.labs.length rc2) := by first | (simp [World.cell?, e2]; done) | (simp [World.cell?, e2]; rfl)
  have q2 : w4.cell? ⟨w.heap.size + 1, 2, none⟩ = some (.slice none 0 0) := by first | (simp [World.cell?, e1]; done) | (simp [World.cell?, e1]; rfl)
  have p3 : w4.cell? ⟨w.heap.size + 1 + 1, 3, none⟩ = some (.slice none 0 0) := by first | (simp [World.cell?, e2]; done) | (simp [World.cell?, e2]; rfl)
  have q3 : w4.cell? ⟨w.heap.size + 1, 3, none⟩ = some (.slice none 0 0) := by first | (simp [World.cell?, e1]; done) | (simp [World.cell?, e1]; rfl)
  have f2 : ∀ j, w4.frozen? ⟨w.heap.size + 1 + 1, j, none⟩ = false := by intro j; simp [World.frozen?, e2]
  have f1 : ∀ j, w4.frozen? ⟨w.heap.size + 1, j, none⟩ = false := by intro j; simp [World.frozen?, e1]
  have e0 : w4.heap[w.heap.size]? = some (.cells #[.int .i64 n.st, .int .i64 n.ini, .slice sa2 n.labs.length sc2, .slice sa3 n.edges.length sc3] 32) := by rw [hb3.block _ (by rw [size_setCell]; omega)]; first | (simp [World.setCell, Array.getElem?_modify, e0]; done) | (simp [World.setCell, Array.getElem?_modify, e0]; intro h; omega)
  have a0 : w4.cell? ⟨w.heap.size, 0, none⟩ = some (.int .i64 n.st) := by simp [World.cell?, e0]
  have a1 : w4.cell? ⟨w.heap.size, 1, none⟩ = some (.int .i64 n.ini) := by simp [World.cell?, e0]
  have a2 : w4.cell? ⟨w.heap.size, 2, none⟩ = some (.slice sa2 n.labs.length sc2) := by simp [World.cell?, e0]
  have a3 : w4.cell? ⟨w.heap.size, 3, none⟩ = some (.slice sa3 n.edges.length sc3) := by simp [World.cell?, e0]
  go_wp2_with fail
  refine bodyPost_ret (results_cell_row rfl _ _ (w.heap.size + 1) 37 #[.int .i64 n.st, .int .i64 n.ini, .slice ra2 n.labs.length rc2, .slice ra3 n.edges.length rc3] (0, 0) _ rfl ?r1 Try.underlying37 rfl ?r2) rfl ?r3
  case r1 =>
    simp [World.setCell, Array.getElem?_modify, e1]
  case r2 => kernel_rfl
  case r3 =>
    refine ⟨_, _, _, _, rfl, ?_, ?_, ?_⟩
    · refine (HU2.out.keep ((((((Keep.refl _ _ _).setCell (Or.inl ?_) _).setCell (Or.inl ?_) _).setCell (Or.inl ?_) _).setCell (Or.inl ?_) _).setCell (Or.inl ?_) _)).mono ?_ ?_
      all_goals first | omega | simp [size_setCell]
    · refine (HU3.out.keep ((((((Keep.refl _ _ _).setCell (Or.inl ?_) _).setCell (Or.inl ?_) _).setCell (Or.inl ?_) _).setCell (Or.inl ?_) _).setCell (Or.inl ?_) _)).mono ?_ ?_
      all_goals first | omega | simp [size_setCell]
    · refine (((((hB3.setCell ?_ _).setCell ?_ _).setCell ?_ _).setCell ?_ _).setCell ?_ _)
      all_goals first | simp; done | omega | (simp; omega)
set_option maxRecDepth 100000 in
set_option maxHeartbeats 800000 in
theorem toSye_any {lo hi : Nat} (n : Sy) {sa0 sa1 sa2 sa3 sa4 : Option Addr} {sc0 sc1 sc2 sc3 sc4 : Nat} (w : World) (hn : wtSy n ≤ 1048576) (hs0 : GDf w lo hi (.slice sa0 n.defs.length sc0) n.defs) (hs1 : GCp w lo hi (.slice sa1 n.comps.length sc1) n.comps) (hs2 : GMt w lo hi (.slice sa2 n.meets.length sc2) n.meets) (hs3 : GS w lo hi (.slice sa3 n.allow.length sc3) n.allow) (hs4 : GS w lo hi (.slice sa4 n.hide.length sc4) n.hide) :
    Calls Try.prog 18 #[.agg #[.slice sa0 n.defs.length sc0, .slice sa1 n.comps.length sc1, .slice sa2 n.meets.length sc2, .slice sa3 n.allow.length sc3, .slice sa4 n.hide.length sc4]] w fun e w' => ∃ ra0 rc0 ra1 rc1 ra2 rc2 ra3 rc3 ra4 rc4, e = .returned (.agg #[.slice ra0 n.defs.length rc0, .slice ra1 n.comps.length rc1, .slice ra2 n.meets.length rc2, .slice ra3 n.allow.length rc3, .slice ra4 n.hide.length rc4]) ∧ GDf w' w.heap.size w'.heap.size (.slice ra0 n.defs.length rc0) n.defs ∧ GCp w' w.heap.size w'.heap.size (.slice ra1 n.comps.length rc1) n.comps ∧ GMt w' w.heap.size w'.heap.size (.slice ra2 n.meets.length rc2) n.meets ∧ GS w' w.heap.size w'.heap.size (.slice ra3 n.allow.length rc3) n.allow ∧ GS w' w.heap.size w'.heap.size (.slice ra4 n.hide.length rc4) n.hide ∧ Below w.heap.size w w' := by
  unfold wtSy at hn
  go_enter Try.func18, Try.ntmps18
  go_wp2_with fail
  refine (toDf_any _ _ _ (by omega) (hs0.keep (Keep.of_below _ _ (below3 _ _ _ _)))).mono ?_
  rintro e w1 ⟨u0, rfl, hu0, hb0⟩
  obtain ⟨ra0, rc0, rfl, _⟩ := Rws.slice hu0
  simp only [World.size_alloc] at hu0
  have e2 := box_third hb0
  have e1 := box_second hb0
  have hB0 : Below w.heap.size w w1 := (below3 w _ _ _).trans (hb0.mono (by simp; omega))
  have zz0 : w.heap.size + 1 + 1 + 1 ≤ w1.heap.size := by have := hb0.size; simpa using this
  replace hu0 := hu0.mono (Nat.le_refl _) (Nat.le_refl _)
  have HU0 := Lib.hid hu0
  clear hu0
  have p0 : w1.cell? ⟨w.heap.size + 1 + 1, 0, none⟩ = some (.slice none 0 0) := by first | (simp [World.cell?, e2]; done) | (simp [World.cell?, e2]; rfl)
  have q0 : w1.cell? ⟨w.heap.size + 1, 0, none⟩ = some (.slice none 0 0) := by first | (simp [World.cell?, e1]; done) | (simp [World.cell?, e1]; rfl)
  have p1 : w1.cell? ⟨w.heap.size + 1 + 1, 1, none⟩ = some (.slice none 0 0) := by first | (simp [World.cell?, e2]; done) | (simp [World.cell?, e2]; rfl)
  have q1 : w1.cell? ⟨w.heap.size + 1, 1, none⟩ = some (.slice none 0 0) := by first | (simp [World.cell?, e1]; done) | (simp [World.cell?, e1]; rfl)
  have p2 : w1.cell? ⟨w.heap.size + 1 + 1, 2, none⟩ = some (.slice none 0 0) := by first | (simp [World.cell?, e2]; done) | (simp [World.cell?, e2]; rfl)
  have q2 : w1.cell? ⟨w.heap.size + 1, 2, none⟩ = some (.slice none 0 0) := by first | (simp [World.cell?, e1]; done) | (simp [World.cell?, e1]; rfl)
  have p3 : w1.cell? ⟨w.heap.size + 1 + 1, 3, none⟩ = some (.slice none 0 0) := by first | (simp [World.cell?, e2]; done) | (simp [World.cell?, e2]; rfl)
  have q3 : w1.cell? ⟨w.heap.size + 1, 3, none⟩ = some (.slice none 0 0) := by first | (simp [World.cell?, e1]; done) | (simp [World.cell?, e1]; rfl)
  have p4 : w1.cell? ⟨w.heap.size + 1 + 1, 4, none⟩ = some (.slice none 0 0) := by first | (simp [World.cell?, e2]; done) | (simp [World.cell?, e2]; rfl)
  have q4 : w1.cell? ⟨w.heap.size + 1, 4, none⟩ = some (.slice none 0 0) := by first | (simp [World.cell?, e1]; done) | (simp [World.cell?, e1]; rfl)
  have f2 : ∀ j, w1.frozen? ⟨w.heap.size + 1 + 1, j, none⟩ = false := by intro j; simp [World.frozen?, e2]
  have f1 : ∀ j, w1.frozen? ⟨w.heap.size + 1, j, none⟩ = false := by intro j; simp [World.frozen?, e1]
  have e0 := box_first hb0
  have a0 : w1.cell? ⟨w.heap.size, 0, none⟩ = some (.slice sa0 n.defs.length sc0) := by simp [World.cell?, e0]
  have a1 : w1.cell? ⟨w.heap.size, 1, none⟩ = some (.slice sa1 n.comps.length sc1) := by simp [World.cell?, e0]
  have a2 : w1.cell? ⟨w.heap.size, 2, none⟩ = some (.slice sa2 n.meets.length sc2) := by simp [World.cell?, e0]
  have a3 : w1.cell? ⟨w.heap.size, 3, none⟩ = some (.slice sa3 n.allow.length sc3) := by simp [World.cell?, e0]
  have a4 : w1.cell? ⟨w.heap.size, 4, none⟩ = some (.slice sa4 n.hide.length sc4) := by simp [World.cell?, e0]
  go_wp2_with fail
  refine (toCp_any _ _ _ (by omega) (hs1.keep (Keep.of_below _ _ (hB0.setCell (by simp; omega) _)))).mono ?_
  rintro e w2 ⟨u1, rfl, hu1, hb1⟩
  obtain ⟨ra1, rc1, rfl, _⟩ := Rws.slice hu1
  have e2 : w2.heap[w.heap.size + 1 + 1]? = some (.cells #[.slice ra0 n.defs.length rc0, .slice none 0 0, .slice none 0 0, .slice none 0 0, .slice none 0 0] 51) := by rw [hb1.block _ (by rw [size_setCell]; omega)]; simp [World.setCell, Array.getElem?_modify, e2]
  have e1 : w2.heap[w.heap.size + 1]? = some (.cells #[.slice none 0 0, .slice none 0 0, .slice none 0 0, .slice none 0 0, .slice none 0 0] 51) := by rw [hb1.block _ (by rw [size_setCell]; omega)]; simp [World.setCell, Array.getElem?_modify, e1]
  have hB1 : Below w.heap.size w w2 := (hB0.setCell (by simp; omega) _).trans (hb1.mono (by rw [size_setCell]; exact hB0.size))
  have zz1 : w.heap.size + 1 + 1 + 1 ≤ w2.heap.size := by have := hb1.size; rw [size_setCell] at this; omega
  rw [size_setCell] at hu1
  replace hu1 := hu1.mono zz0 (Nat.le_refl _)
  have HU0 := Lib.hid ((HU0.out.keep (((Keep.refl _ _ _).setCell (Or.inl (by simp)) _).trans (Keep.of_below _ _ hb1))).mono (Nat.le_refl _) (by have := hb1.size; rwa [size_setCell] at this))
  have HU1 := Lib.hid hu1
  clear hu1
  have p0 : w2.cell? ⟨w.heap.size + 1 + 1, 0, none⟩ = some (.slice ra0 n.defs.length rc0) := by first | (simp [World.cell?, e2]; done) | (simp [World.cell?, e2]; rfl)
  have q0 : w2.cell? ⟨w.heap.size + 1, 0, none⟩ = some (.slice none 0 0) := by first | (simp [World.cell?, e1]; done) | (simp [World.cell?, e1]; rfl)
  have p1 : w2.cell? ⟨w.heap.size + 1 + 1, 1, none⟩ = some (.slice none 0 0) := by first | (simp [World.cell?, e2]; done) | (simp [World.cell?, e2]; rfl)
  have q1 : w2.cell? ⟨w.heap.size + 1, 1, none⟩ = some (.slice none 0 0) := by first | (simp [World.cell?, e1]; done) | (simp [World.cell?, e1]; rfl)
  have p2 : w2.cell? ⟨w.heap.size + 1 + 1, 2, none⟩ = some (.slice none 0 0) := by first | (simp [World.cell?, e2]; done) | (simp [World.cell?, e2]; rfl)
  have q2 : w2.cell? ⟨w.heap.size + 1, 2, none⟩ = some (.slice none 0 0) := by first | (simp [World.cell?, e1]; done) | (simp [World.cell?, e1]; rfl)
  have p3 : w2.cell? ⟨w.heap.size + 1 + 1, 3, none⟩ = some (.slice none 0 0) := by first | (simp [World.cell?, e2]; done) | (simp [World.cell?, e2]; rfl)
  have q3 : w2.cell? ⟨w.heap.size + 1, 3, none⟩ = some (.slice none 0 0) := by first | (simp [World.cell?, e1]; done) | (simp [World.cell?, e1]; rfl)
  have p4 : w2.cell? ⟨w.heap.size + 1 + 1, 4, none⟩ = some (.slice none 0 0) := by first | (simp [World.cell?, e2]; done) | (simp [World.cell?, e2]; rfl)
  have q4 : w2.cell? ⟨w.heap.size + 1, 4, none⟩ = some (.slice none 0 0) := by first | (simp [World.cell?, e1]; done) | (simp [World.cell?, e1]; rfl)
  have f2 : ∀ j, w2.frozen? ⟨w.heap.size + 1 + 1, j, none⟩ = false := by intro j; simp [World.frozen?, e2]
  have f1 : ∀ j, w2.frozen? ⟨w.heap.size + 1, j, none⟩ = false := by intro j; simp [World.frozen?, e1]
  have e0 : w2.heap[w.heap.size]? = some (.cells #[.slice sa0 n.defs.length sc0, .slice sa1 n.comps.length sc1, .slice sa2 n.meets.length sc2, .slice sa3 n.allow.length sc3, .slice sa4 n.hide.length sc4] 44) := by rw [hb1.block _ (by rw [size_setCell]; omega)]; first | (simp [World.setCell, Array.getElem?_modify, e0]; done) | (simp [World.setCell, Array.getElem?_modify, e0]; intro h; omega)
  have a0 : w2.cell? ⟨w.heap.size, 0, none⟩ = some (.slice sa0 n.defs.length sc0) := by simp [World.cell?, e0]
  have a1 : w2.cell? ⟨w.heap.size, 1, none⟩ = some (.slice sa1 n.comps.length sc1) := by simp [World.cell?, e0]
  have a2 : w2.cell? ⟨w.heap.size, 2, none⟩ = some (.slice sa2 n.meets.length sc2) := by simp [World.cell?, e0]
  have a3 : w2.cell? ⟨w.heap.size, 3, none⟩ = some (.slice sa3 n.allow.length sc3) := by simp [World.cell?, e0]
  have a4 : w2.cell? ⟨w.heap.size, 4, none⟩ = some (.slice sa4 n.hide.length sc4) := by simp [World.cell?, e0]
  go_wp2_with fail
  refine (toMt_any _ _ _ (by omega) (hs2.keep (Keep.of_below _ _ (hB1.setCell (by simp; omega) _)))).mono ?_
  rintro e w3 ⟨u2, rfl, hu2, hb2⟩
  obtain ⟨ra2, rc2, rfl, _⟩ := Rws.slice hu2
  have e2 : w3.heap[w.heap.size + 1 + 1]? = some (.cells #[.slice ra0 n.defs.length rc0, .slice ra1 n.comps.length rc1, .slice none 0 0, .slice none 0 0, .slice none 0 0] 51) := by rw [hb2.block _ (by rw [size_setCell]; omega)]; simp [World.setCell, Array.getElem?_modify, e2]
  have e1 : w3.heap[w.heap.size + 1]? = some (.cells #[.slice none 0 0, .slice none 0 0, .slice none 0 0, .slice none 0 0, .slice none 0 0] 51) := by rw [hb2.block _ (by rw [size_setCell]; omega)]; simp [World.setCell, Array.getElem?_modify, e1]
  have hB2 : Below w.heap.size w w3 := (hB1.setCell (by simp; omega) _).trans (hb2.mono (by rw [size_setCell]; exact hB1.size))
  have zz2 : w.heap.size + 1 + 1 + 1 ≤ w3.heap.size := by have := hb2.size; rw [size_setCell] at this; omega
  rw [size_setCell] at hu2
  replace hu2 := hu2.mono zz1 (Nat.le_refl _)
  have HU0 := Lib.hid ((HU0.out.keep (((Keep.refl _ _ _).setCell (Or.inl (by simp)) _).trans (Keep.of_below _ _ hb2))).mono (Nat.le_refl _) (by have := hb2.size; rwa [size_setCell] at this))
  have HU1 := Lib.hid ((HU1.out.keep (((Keep.refl _ _ _).setCell (Or.inl (by simp)) _).trans (Keep.of_below _ _ hb2))).mono (Nat.le_refl _) (by have := hb2.size; rwa [size_setCell] at this))
  have HU2 := Lib.hid hu2
  clear hu2
  have p0 : w3.cell? ⟨w.heap.size + 1 + 1, 0, none⟩ = some (.slice ra0 n.defs.length rc0) := by first | (simp [World.cell?, e2]; done) | (simp [World.cell?, e2]; rfl)
  have q0 : w3.cell? ⟨w.heap.size + 1, 0, none⟩ = some (.slice none 0 0) := by first | (simp [World.cell?, e1]; done) | (simp [World.cell?, e1]; rfl)
  have p1 : w3.cell? ⟨w.heap.size + 1 + 1, 1, none⟩ = some (.slice ra1 n.comps.length rc1) := by first | (simp [World.cell?, e2]; done) | (simp [World.cell?, e2]; rfl)
  have q1 : w3.cell? ⟨w.heap.size + 1, 1, none⟩ = some (.slice none 0 0) := by first | (simp [World.cell?, e1]; done) | (simp [World.cell?, e1]; rfl)
  have p2 : w3.cell? ⟨w.heap.size + 1 + 1, 2, none⟩ = some (.slice none 0 0) := by first | (simp [World.cell?, e2]; done) | (simp [World.cell?, e2]; rfl)
  have q2 : w3.cell? ⟨w.heap.size + 1, 2, none⟩ = some (.slice none 0 0) := by first | (simp [World.cell?, e1]; done) | (simp [World.cell?, e1]; rfl)
  have p3 : w3.cell? ⟨w.heap.size + 1 + 1, 3, none⟩ = some (.slice none 0 0) := by first | (simp [World.cell?, e2]; done) | (simp [World.cell?, e2]; rfl)
  have q3 : w3.cell? ⟨w.heap.size + 1, 3, none⟩ = some (.slice none 0 0) := by first | (simp [World.cell?, e1]; done) | (simp [World.cell?, e1]; rfl)
  have p4 : w3.cell? ⟨w.heap.size + 1 + 1, 4, none⟩ = some (.slice none 0 0) := by first | (simp [World.cell?, e2]; done) | (simp [World.cell?, e2]; rfl)
  have q4 : w3.cell? ⟨w.heap.size + 1, 4, none⟩ = some (.slice none 0 0) := by first | (simp [World.cell?, e1]; done) | (simp [World.cell?, e1]; rfl)
  have f2 : ∀ j, w3.frozen? ⟨w.heap.size + 1 + 1, j, none⟩ = false := by intro j; simp [World.frozen?, e2]
  have f1 : ∀ j, w3.frozen? ⟨w.heap.size + 1, j, none⟩ = false := by intro j; simp [World.frozen?, e1]
  have e0 : w3.heap[w.heap.size]? = some (.cells #[.slice sa0 n.defs.length sc0, .slice sa1 n.comps.length sc1, .slice sa2 n.meets.length sc2, .slice sa3 n.allow.length sc3, .slice sa4 n.hide.length sc4] 44) := by rw [hb2.block _ (by rw [size_setCell]; omega)]; first | (simp [World.setCell, Array.getElem?_modify, e0]; done) | (simp [World.setCell, Array.getElem?_modify, e0]; intro h; omega)
  have a0 : w3.cell? ⟨w.heap.size, 0, none⟩ = some (.slice sa0 n.defs.length sc0) := by simp [World.cell?, e0]
  have a1 : w3.cell? ⟨w.heap.size, 1, none⟩ = some (.slice sa1 n.comps.length sc1) := by simp [World.cell?, e0]
  have a2 : w3.cell? ⟨w.heap.size, 2, none⟩ = some (.slice sa2 n.meets.length sc2) := by simp [World.cell?, e0]
  have a3 : w3.cell? ⟨w.heap.size, 3, none⟩ = some (.slice sa3 n.allow.length sc3) := by simp [World.cell?, e0]
  have a4 : w3.cell? ⟨w.heap.size, 4, none⟩ = some (.slice sa4 n.hide.length sc4) := by simp [World.cell?, e0]
  go_wp2_with fail
  refine (toS_any _ _ _ (by omega) (hs3.keep (Keep.of_below _ _ (hB2.setCell (by simp; omega) _)))).mono ?_
  rintro e w4 ⟨u3, rfl, hu3, hb3⟩
  obtain ⟨ra3, rc3, rfl, _⟩ := Rws.slice hu3
  have e2 : w4.heap[w.heap.size + 1 + 1]? = some (.cells #[.slice ra0 n.defs.length rc0, .slice ra1 n.comps.length rc1, .slice ra2 n.meets.length rc2, .slice none 0 0, .slice none 0 0] 51) := by rw [hb3.block _ (by rw [size_setCell]; omega)]; simp [World.setCell, Array.getElem?_modify, e2]
  have e1 : w4.heap[w.heap.size + 1]? = some (.cells #[.slice none 0 0, .slice none 0 0, .slice none 0 0, .slice none 0 0, .slice none 0 0] 51) := by rw [hb3.block _ (by rw [size_setCell]; omega)]; simp [World.setCell, Array.getElem?_modify, e1]
  have hB3 : Below w.heap.size w w4 := (hB2.setCell (by simp; omega) _).trans (hb3.mono (by rw [size_setCell]; exact hB2.size))
  have zz3 : w.heap.size + 1 + 1 + 1 ≤ w4.heap.size := by have := hb3.size; rw [size_setCell] at this; omega
  rw [size_setCell] at hu3
  replace hu3 := hu3.mono zz2 (Nat.le_refl _)
  have HU0 := Lib.hid ((HU0.out.keep (((Keep.refl _ _ _).setCell (Or.inl (by simp)) _).trans (Keep.of_below _ _ hb3))).mono (Nat.le_refl _) (by have := hb3.size; rwa [size_setCell] at this))
  have HU1 := Lib.hid ((HU1.out.keep (((Keep.refl _ _ _).setCell (Or.inl (by simp)) _).trans (Keep.of_below _ _ hb3))).mono (Nat.le_refl _) (by have := hb3.size; rwa [size_setCell] at this))
  have HU2 := Lib.hid ((HU2.out.keep (((Keep.refl _ _ _).setCell (Or.inl (by simp)) _).trans (Keep.of_below _ _ hb3))).mono (Nat.le_refl _) (by have := hb3.size; rwa [size_setCell] at this))
  have HU3 := Lib.hid hu3
  clear hu3
  have p0 : w4.cell? ⟨w.heap.size + 1 + 1, 0, none⟩ = some (.slice ra0 n.defs.length rc0) := by first | (simp [World.cell?, e2]; done) | (simp [World.cell?, e2]; rfl)
  have q0 : w4.cell? ⟨w.heap.size + 1, 0, none⟩ = some (.slice none 0 0) := by first | (simp [World.cell?, e1]; done) | (simp [World.cell?, e1]; rfl)
  have p1 : w4.cell? ⟨w.heap.size + 1 + 1, 1, none⟩ = some (.slice ra1 n.comps.length rc1) := by first | (simp [World.cell?, e2]; done) | (simp [World.cell?, e2]; rfl)
  have q1 : w4.cell? ⟨w.heap.size + 1, 1, none⟩ = some (.slice none 0 0) := by first | (simp [World.cell?, e1]; done) | (simp [World.cell?, e1]; rfl)
  have p2 : w4.cell? ⟨w.heap.size + 1 + 1, 2, none⟩ = some (.slice ra2 n.meets.length rc2) := by first | (simp [World.cell?, e2]; done) | (simp [World.cell?, e2]; rfl)
  have q2 : w4.cell? ⟨w.heap.size + 1, 2, none⟩ = some (.slice none 0 0) := by first | (simp [World.cell?, e1]; done) | (simp [World.cell?, e1]; rfl)
  have p3 : w4.cell? ⟨w.heap.size + 1 + 1, 3, none⟩ = some (.slice none 0 0) := by first | (simp [World.cell?, e2]; done) | (simp [World.cell?, e2]; rfl)
  have q3 : w4.cell? ⟨w.heap.size + 1, 3, none⟩ = some (.slice none 0 0) := by first | (simp [World.cell?, e1]; done) | (simp [World.cell?, e1]; rfl)
  have p4 : w4.cell? ⟨w.heap.size + 1 + 1, 4, none⟩ = some (.slice none 0 0) := by first | (simp [World.cell?, e2]; done) | (simp [World.cell?, e2]; rfl)
  have q4 : w4.cell? ⟨w.heap.size + 1, 4, none⟩ = some (.slice none 0 0) := by first | (simp [World.cell?, e1]; done) | (simp [World.cell?, e1]; rfl)
  have f2 : ∀ j, w4.frozen? ⟨w.heap.size + 1 + 1, j, none⟩ = false := by intro j; simp [World.frozen?, e2]
  have f1 : ∀ j, w4.frozen? ⟨w.heap.size + 1, j, none⟩ = false := by intro j; simp [World.frozen?, e1]
  have e0 : w4.heap[w.heap.size]? = some (.cells #[.slice sa0 n.defs.length sc0, .slice sa1 n.comps.length sc1, .slice sa2 n.meets.length sc2, .slice sa3 n.allow.length sc3, .slice sa4 n.hide.length sc4] 44) := by rw [hb3.block _ (by rw [size_setCell]; omega)]; first | (simp [World.setCell, Array.getElem?_modify, e0]; done) | (simp [World.setCell, Array.getElem?_modify, e0]; intro h; omega)
  have a0 : w4.cell? ⟨w.heap.size, 0, none⟩ = some (.slice sa0 n.defs.length sc0) := by simp [World.cell?, e0]
  have a1 : w4.cell? ⟨w.heap.size, 1, none⟩ = some (.slice sa1 n.comps.length sc1) := by simp [World.cell?, e0]
  have a2 : w4.cell? ⟨w.heap.size, 2, none⟩ = some (.slice sa2 n.meets.length sc2) := by simp [World.cell?, e0]
  have a3 : w4.cell? ⟨w.heap.size, 3, none⟩ = some (.slice sa3 n.allow.length sc3) := by simp [World.cell?, e0]
  have a4 : w4.cell? ⟨w.heap.size, 4, none⟩ = some (.slice sa4 n.hide.length sc4) := by simp [World.cell?, e0]
  go_wp2_with fail
  refine (toS_any _ _ _ (by omega) (hs4.keep (Keep.of_below _ _ (hB3.setCell (by simp; omega) _)))).mono ?_
  rintro e w5 ⟨u4, rfl, hu4, hb4⟩
  obtain ⟨ra4, rc4, rfl, _⟩ := Rws.slice hu4
  have e2 : w5.heap[w.heap.size + 1 + 1]? = some (.cells #[.slice ra0 n.defs.length rc0, .slice ra1 n.comps.length rc1, .slice ra2 n.meets.length rc2, .slice ra3 n.allow.length rc3, .slice none 0 0] 51) := by rw [hb4.block _ (by rw [size_setCell]; omega)]; simp [World.setCell, Array.getElem?_modify, e2]
  have e1 : w5.heap[w.heap.size + 1]? = some (.cells #[.slice none 0 0, .slice none 0 0, .slice none 0 0, .slice none 0 0, .slice none 0 0] 51) := by rw [hb4.block _ (by rw [size_setCell]; omega)]; simp [World.setCell, Array.getElem?_modify, e1]
  have hB4 : Below w.heap.size w w5 := (hB3.setCell (by simp; omega) _).trans (hb4.mono (by rw [size_setCell]; exact hB3.size))
  have zz4 : w.heap.size + 1 + 1 + 1 ≤ w5.heap.size := by have := hb4.size; rw [size_setCell] at this; omega
  rw [size_setCell] at hu4
  replace hu4 := hu4.mono zz3 (Nat.le_refl _)
  have HU0 := Lib.hid ((HU0.out.keep (((Keep.refl _ _ _).setCell (Or.inl (by simp)) _).trans (Keep.of_below _ _ hb4))).mono (Nat.le_refl _) (by have := hb4.size; rwa [size_setCell] at this))
  have HU1 := Lib.hid ((HU1.out.keep (((Keep.refl _ _ _).setCell (Or.inl (by simp)) _).trans (Keep.of_below _ _ hb4))).mono (Nat.le_refl _) (by have := hb4.size; rwa [size_setCell] at this))
  have HU2 := Lib.hid ((HU2.out.keep (((Keep.refl _ _ _).setCell (Or.inl (by simp)) _).trans (Keep.of_below _ _ hb4))).mono (Nat.le_refl _) (by have := hb4.size; rwa [size_setCell] at this))
  have HU3 := Lib.hid ((HU3.out.keep (((Keep.refl _ _ _).setCell (Or.inl (by simp)) _).trans (Keep.of_below _ _ hb4))).mono (Nat.le_refl _) (by have := hb4.size; rwa [size_setCell] at this))
  have HU4 := Lib.hid hu4
  clear hu4
  have p0 : w5.cell? ⟨w.heap.size + 1 + 1, 0, none⟩ = some (.slice ra0 n.defs.length rc0) := by first | (simp [World.cell?, e2]; done) | (simp [World.cell?, e2]; rfl)
  have q0 : w5.cell? ⟨w.heap.size + 1, 0, none⟩ = some (.slice none 0 0) := by first | (simp [World.cell?, e1]; done) | (simp [World.cell?, e1]; rfl)
  have p1 : w5.cell? ⟨w.heap.size + 1 + 1, 1, none⟩ = some (.slice ra1 n.comps.length rc1) := by first | (simp [World.cell?, e2]; done) | (simp [World.cell?, e2]; rfl)
  have q1 : w5.cell? ⟨w.heap.size + 1, 1, none⟩ = some (.slice none 0 0) := by first | (simp [World.cell?, e1]; done) | (simp [World.cell?, e1]; rfl)
  have p2 : w5.cell? ⟨w.heap.size + 1 + 1, 2, none⟩ = some (.slice ra2 n.meets.length rc2) := by first | (simp [World.cell?, e2]; done) | (simp [World.cell?, e2]; rfl)
  have q2 : w5.cell? ⟨w.heap.size + 1, 2, none⟩ = some (.slice none 0 0) := by first | (simp [World.cell?, e1]; done) | (simp [World.cell?, e1]; rfl)
  have p3 : w5.cell? ⟨w.heap.size + 1 + 1, 3, none⟩ = some (.slice ra3 n.allow.length rc3) := by first | (simp [World.cell?, e2]; done) | (simp [World.cell?, e2]; rfl)
  have q3 : w5.cell? ⟨w.heap.size + 1, 3, none⟩ = some (.slice none 0 0) := by first | (simp [World.cell?, e1]; done) | (simp [World.cell?, e1]; rfl)
  have p4 : w5.cell? ⟨w.heap.size + 1 + 1, 4, none⟩ = some (.slice none 0 0) := by first | (simp [World.cell?, e2]; done) | (simp [World.cell?, e2]; rfl)
  have q4 : w5.cell? ⟨w.heap.size + 1, 4, none⟩ = some (.slice none 0 0) := by first | (simp [World.cell?, e1]; done) | (simp [World.cell?, e1]; rfl)
  have f2 : ∀ j, w5.frozen? ⟨w.heap.size + 1 + 1, j, none⟩ = false := by intro j; simp [World.frozen?, e2]
  have f1 : ∀ j, w5.frozen? ⟨w.heap.size + 1, j, none⟩ = false := by intro j; simp [World.frozen?, e1]
  have e0 : w5.heap[w.heap.size]? = some (.cells #[.slice sa0 n.defs.length sc0, .slice sa1 n.comps.length sc1, .slice sa2 n.meets.length sc2, .slice sa3 n.allow.length sc3, .slice sa4 n.hide.length sc4] 44) := by rw [hb4.block _ (by rw [size_setCell]; omega)]; first | (simp [World.setCell, Array.getElem?_modify, e0]; done) | (simp [World.setCell, Array.getElem?_modify, e0]; intro h; omega)
  have a0 : w5.cell? ⟨w.heap.size, 0, none⟩ = some (.slice sa0 n.defs.length sc0) := by simp [World.cell?, e0]
  have a1 : w5.cell? ⟨w.heap.size, 1, none⟩ = some (.slice sa1 n.comps.length sc1) := by simp [World.cell?, e0]
  have a2 : w5.cell? ⟨w.heap.size, 2, none⟩ = some (.slice sa2 n.meets.length sc2) := by simp [World.cell?, e0]
  have a3 : w5.cell? ⟨w.heap.size, 3, none⟩ = some (.slice sa3 n.allow.length sc3) := by simp [World.cell?, e0]
  have a4 : w5.cell? ⟨w.heap.size, 4, none⟩ = some (.slice sa4 n.hide.length sc4) := by simp [World.cell?, e0]
  go_wp2_with fail
  refine bodyPost_ret (results_cell_row rfl _ _ (w.heap.size + 1) 51 #[.slice ra0 n.defs.length rc0, .slice ra1 n.comps.length rc1, .slice ra2 n.meets.length rc2, .slice ra3 n.allow.length rc3, .slice ra4 n.hide.length rc4] (0, 0) _ rfl ?r1 Try.underlying51 rfl ?r2) rfl ?r3
  case r1 =>
    simp [World.setCell, Array.getElem?_modify, e1]
  case r2 => kernel_rfl
  case r3 =>
    refine ⟨_, _, _, _, _, _, _, _, _, _, rfl, ?_, ?_, ?_, ?_, ?_, ?_⟩
    · refine (HU0.out.keep (((((((Keep.refl _ _ _).setCell (Or.inl ?_) _).setCell (Or.inl ?_) _).setCell (Or.inl ?_) _).setCell (Or.inl ?_) _).setCell (Or.inl ?_) _).setCell (Or.inl ?_) _)).mono ?_ ?_
      all_goals first | omega | simp [size_setCell]
    · refine (HU1.out.keep (((((((Keep.refl _ _ _).setCell (Or.inl ?_) _).setCell (Or.inl ?_) _).setCell (Or.inl ?_) _).setCell (Or.inl ?_) _).setCell (Or.inl ?_) _).setCell (Or.inl ?_) _)).mono ?_ ?_
      all_goals first | omega | simp [size_setCell]
    · refine (HU2.out.keep (((((((Keep.refl _ _ _).setCell (Or.inl ?_) _).setCell (Or.inl ?_) _).setCell (Or.inl ?_) _).setCell (Or.inl ?_) _).setCell (Or.inl ?_) _).setCell (Or.inl ?_) _)).mono ?_ ?_
      all_goals first | omega | simp [size_setCell]
    · refine (HU3.out.keep (((((((Keep.refl _ _ _).setCell (Or.inl ?_) _).setCell (Or.inl ?_) _).setCell (Or.inl ?_) _).setCell (Or.inl ?_) _).setCell (Or.inl ?_) _).setCell (Or.inl ?_) _)).mono ?_ ?_
      all_goals first | omega | simp [size_setCell]
    · refine (HU4.out.keep (((((((Keep.refl _ _ _).setCell (Or.inl ?_) _).setCell (Or.inl ?_) _).setCell (Or.inl ?_) _).setCell (Or.inl ?_) _).setCell (Or.inl ?_) _).setCell (Or.inl ?_) _)).mono ?_ ?_
      all_goals first | omega | simp [size_setCell]
    · refine ((((((hB4.setCell ?_ _).setCell ?_ _).setCell ?_ _).setCell ?_ _).setCell ?_ _).setCell ?_ _)
      all_goals first | simp; done | omega | (simp; omega)
end Go.Proofs.Ytdlldgenkmngiaa
