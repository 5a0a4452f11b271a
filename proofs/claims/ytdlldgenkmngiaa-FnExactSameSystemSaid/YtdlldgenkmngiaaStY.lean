/- Two systems held against each other, by the reference. -/
import Derived.Test.YtdlldgenkmngiaaProg
import Derived.Test.YtdlldgenkmngiaaMem
import Derived.Test.YtdlldgenkmngiaaMath
import Derived.Test.YtdlldgenkmngiaaBasics
import Derived.Test.YtdlldgenkmngiaaOpenI
import Derived.Test.YtdlldgenkmngiaaHelpI
import Derived.Test.YtdlldgenkmngiaaGrid
import Derived.Test.YtdlldgenkmngiaaRows2
import Derived.Test.YtdlldgenkmngiaaSt
import Derived.Test.YtdlldgenkmngiaaStCmp
import Derived.Test.YtdlldgenkmngiaaStP
import Derived.Laws.StructEq
import Derived.WalkKit
import Derived.BigQuiet
import Derived.BigRegion
import Derived.StillTailTactics
import Derived.Deep.QuietTactic
import Derived.Laws.ResultCell
import Derived.Laws.OwnMore
import Derived.Lib.Hide
import Derived.Outline
set_option linter.unusedVariables false
set_option linter.unusedSimpArgs false
namespace Go.Proofs.Ytdlldgenkmngiaa
open Go.RowKit
set_option maxRecDepth 100000 in
set_option maxHeartbeats 8000000 in
theorem l05Same_any {lo hi lo2 hi2 : Nat} (a b : Sy) {sa0 sa1 sa2 sa3 sa4 : Option Addr} {sc0 sc1 sc2 sc3 sc4 : Nat} {ta0 ta1 ta2 ta3 ta4 : Option Addr} {tc0 tc1 tc2 tc3 tc4 : Nat} (ba bb : Nat) (w : World) (hn : wtSy a ≤ 1048576) (hs0 : GDf w lo hi (.slice sa0 a.defs.length sc0) a.defs) (hs1 : GCp w lo hi (.slice sa1 a.comps.length sc1) a.comps) (hs2 : GMt w lo hi (.slice sa2 a.meets.length sc2) a.meets) (hs3 : GS w lo hi (.slice sa3 a.allow.length sc3) a.allow) (hs4 : GS w lo hi (.slice sa4 a.hide.length sc4) a.hide) (ht0 : GDf w lo2 hi2 (.slice ta0 b.defs.length tc0) b.defs) (ht1 : GCp w lo2 hi2 (.slice ta1 b.comps.length tc1) b.comps) (ht2 : GMt w lo2 hi2 (.slice ta2 b.meets.length tc2) b.meets) (ht3 : GS w lo2 hi2 (.slice ta3 b.allow.length tc3) b.allow) (ht4 : GS w lo2 hi2 (.slice ta4 b.hide.length tc4) b.hide)
    (hA : w.heap[ba]? = some (.cells #[.slice sa0 a.defs.length sc0, .slice sa1 a.comps.length sc1, .slice sa2 a.meets.length sc2, .slice sa3 a.allow.length sc3, .slice sa4 a.hide.length sc4] 51)) (hB : w.heap[bb]? = some (.cells #[.slice ta0 b.defs.length tc0, .slice ta1 b.comps.length tc1, .slice ta2 b.meets.length tc2, .slice ta3 b.allow.length tc3, .slice ta4 b.hide.length tc4] 51)) :
    Calls Try.prog 41 #[.pointer (some ⟨ba, 0, none⟩), .pointer (some ⟨bb, 0, none⟩)] w fun e w' => e = .returned (.bool (decide (a = b))) ∧ Below w.heap.size w w' := by
  unfold wtSy at hn
  have hba : ba < w.heap.size := (Array.getElem?_eq_some_iff.1 hA).1
  have hbb : bb < w.heap.size := (Array.getElem?_eq_some_iff.1 hB).1
  have p0 : w.cell? ⟨ba, 0, none⟩ = some (.slice sa0 a.defs.length sc0) := (cell_of_row _ _ _ _ _ _ hA).trans rfl
  have q0 : w.cell? ⟨bb, 0, none⟩ = some (.slice ta0 b.defs.length tc0) := (cell_of_row _ _ _ _ _ _ hB).trans rfl
  have Hs0 := Lib.hid hs0
  have Ht0 := Lib.hid ht0
  obtain ⟨_, _, eA0, hca0, hma0⟩ := Rws.slice hs0
  obtain ⟨_, _, eB0, hcb0, hmb0⟩ := Rws.slice ht0
  cases eA0
  cases eB0
  unfold maxLen at hma0 hmb0
  have p1 : w.cell? ⟨ba, 1, none⟩ = some (.slice sa1 a.comps.length sc1) := (cell_of_row _ _ _ _ _ _ hA).trans rfl
  have q1 : w.cell? ⟨bb, 1, none⟩ = some (.slice ta1 b.comps.length tc1) := (cell_of_row _ _ _ _ _ _ hB).trans rfl
  have Hs1 := Lib.hid hs1
  have Ht1 := Lib.hid ht1
  obtain ⟨_, _, eA1, hca1, hma1⟩ := Rws.slice hs1
  obtain ⟨_, _, eB1, hcb1, hmb1⟩ := Rws.slice ht1
  cases eA1
  cases eB1
  unfold maxLen at hma1 hmb1
  have p2 : w.cell? ⟨ba, 2, none⟩ = some (.slice sa2 a.meets.length sc2) := (cell_of_row _ _ _ _ _ _ hA).trans rfl
  have q2 : w.cell? ⟨bb, 2, none⟩ = some (.slice ta2 b.meets.length tc2) := (cell_of_row _ _ _ _ _ _ hB).trans rfl
  have Hs2 := Lib.hid hs2
  have Ht2 := Lib.hid ht2
  obtain ⟨_, _, eA2, hca2, hma2⟩ := Rws.slice hs2
  obtain ⟨_, _, eB2, hcb2, hmb2⟩ := Rws.slice ht2
  cases eA2
  cases eB2
  unfold maxLen at hma2 hmb2
  have p3 : w.cell? ⟨ba, 3, none⟩ = some (.slice sa3 a.allow.length sc3) := (cell_of_row _ _ _ _ _ _ hA).trans rfl
  have q3 : w.cell? ⟨bb, 3, none⟩ = some (.slice ta3 b.allow.length tc3) := (cell_of_row _ _ _ _ _ _ hB).trans rfl
  have Hs3 := Lib.hid hs3
  have Ht3 := Lib.hid ht3
  have p4 : w.cell? ⟨ba, 4, none⟩ = some (.slice sa4 a.hide.length sc4) := (cell_of_row _ _ _ _ _ _ hA).trans rfl
  have q4 : w.cell? ⟨bb, 4, none⟩ = some (.slice ta4 b.hide.length tc4) := (cell_of_row _ _ _ _ _ _ hB).trans rfl
  have Hs4 := Lib.hid hs4
  have Ht4 := Lib.hid ht4
  clear hA hB hs0 ht0 hs1 ht1 hs2 ht2 hs3 ht3 hs4 ht4
  have hl0 : a.defs.length ≤ 1048576 := by unfold totDf at hn; omega
  have hl1 : a.comps.length ≤ 1048576 := by unfold totCp at hn; omega
  have hl2 : a.meets.length ≤ 1048576 := by unfold totMt at hn; omega
  have hl3 : a.allow.length ≤ 1048576 := by unfold totS at hn; omega
  have hl4 : a.hide.length ≤ 1048576 := by unfold totS at hn; omega
  have Hw0 : Hid (∀ i, i < a.defs.length → wtDf (gnth df0 a.defs i) ≤ 1048576) := Lib.hid (fun i hi => by
    have h : wtDf (gnth df0 a.defs i) ≤ _ := sumTo_le (fun i => wtDf (gnth df0 a.defs i)) hi
    unfold totDf at hn; omega)
  have Hw1 : Hid (∀ i, i < a.comps.length → wtCp (gnth cp0 a.comps i) ≤ 1048576) := Lib.hid (fun i hi => by
    have h : wtCp (gnth cp0 a.comps i) ≤ _ := sumTo_le (fun i => wtCp (gnth cp0 a.comps i)) hi
    unfold totCp at hn; omega)
  clear hn
  have hlt' : ∀ x y : ByteArray, (x.toList == y.toList) = decide (x = y) := beq_txt
  have hdr : ∀ m, Below w.heap.size w (w.drewN m) := fun m => drewN_below ⟨m, rfl⟩
  by_cases d0 : a.defs.length = b.defs.length
  case neg =>
    have HF : Hid (decide (a = b) = false) := Lib.hid (decide_eq_false fun h => d0 (by rw [h]))
    rw [HF.out]
    have n0 : ((a.defs.length : Int) != (b.defs.length : Int)) = true := by simp; omega
    clear d0
    go_enter Try.func41, Try.ntmps41
    go_wp2_with fail
    go_quiet (fail)
    go_wp2_with fail
    go_ret
    exact ⟨rfl, hdr _⟩
  by_cases d1 : a.comps.length = b.comps.length
  case neg =>
    have HF : Hid (decide (a = b) = false) := Lib.hid (decide_eq_false fun h => d1 (by rw [h]))
    rw [HF.out]
    have n0 : ((a.defs.length : Int) != (b.defs.length : Int)) = false := by simp; omega
    have n1 : ((a.comps.length : Int) != (b.comps.length : Int)) = true := by simp; omega
    clear d0 d1
    go_enter Try.func41, Try.ntmps41
    go_wp2_with fail
    go_quiet (fail)
    go_wp2_with fail
    go_ret
    exact ⟨rfl, hdr _⟩
  by_cases d2 : a.meets.length = b.meets.length
  case neg =>
    have HF : Hid (decide (a = b) = false) := Lib.hid (decide_eq_false fun h => d2 (by rw [h]))
    rw [HF.out]
    have n0 : ((a.defs.length : Int) != (b.defs.length : Int)) = false := by simp; omega
    have n1 : ((a.comps.length : Int) != (b.comps.length : Int)) = false := by simp; omega
    have n2 : ((a.meets.length : Int) != (b.meets.length : Int)) = true := by simp; omega
    clear d0 d1 d2
    go_enter Try.func41, Try.ntmps41
    go_wp2_with fail
    go_quiet (fail)
    go_wp2_with fail
    go_ret
    exact ⟨rfl, hdr _⟩
  have n0 : ((a.defs.length : Int) != (b.defs.length : Int)) = false := by simp; omega
  have n1 : ((a.comps.length : Int) != (b.comps.length : Int)) = false := by simp; omega
  have n2 : ((a.meets.length : Int) != (b.meets.length : Int)) = false := by simp; omega
  rw [← d0] at q0 n0 Ht0 hcb0
  obtain ⟨N0, hN0⟩ : ∃ n, n = a.defs.length := ⟨_, rfl⟩
  rw [← hN0] at p0 q0 n0 Hs0 Ht0 hl0 d0 hca0 hcb0
  have Hx0 := Lib.hid hN0
  have Hy0 := Lib.hid d0
  clear hN0 d0
  rw [← d1] at q1 n1 Ht1 hcb1
  obtain ⟨N1, hN1⟩ : ∃ n, n = a.comps.length := ⟨_, rfl⟩
  rw [← hN1] at p1 q1 n1 Hs1 Ht1 hl1 d1 hca1 hcb1
  have Hx1 := Lib.hid hN1
  have Hy1 := Lib.hid d1
  clear hN1 d1
  rw [← d2] at q2 n2 Ht2 hcb2
  obtain ⟨N2, hN2⟩ : ∃ n, n = a.meets.length := ⟨_, rfl⟩
  rw [← hN2] at p2 q2 n2 Hs2 Ht2 hl2 d2 hca2 hcb2
  have Hx2 := Lib.hid hN2
  have Hy2 := Lib.hid d2
  clear hN2 d2
  have HFF : Hid (a ≠ b → decide (a = b) = false) := Lib.hid decide_eq_false
  obtain ⟨D, hD⟩ : ∃ D, D = decide (a = b) := ⟨_, rfl⟩
  rw [← hD] at HFF ⊢
  have HD := Lib.hid hD
  clear hD
  go_enter Try.func41, Try.ntmps41
  go_wp2_with fail
  go_quiet (fail)
  go_wp2_with fail
  go_loopw [5] (fun si wr => ∃ k : Nat, k ≤ N0 ∧ si = .int .i64 k ∧ Hid (a.defs.take k = b.defs.take k) ∧ Below w.heap.size w wr) (fun si _ => N0 - (intOf si).toNat)
  case atStart => exact ⟨0, Nat.zero_le _, rfl, Lib.hid rfl, hdr _⟩
  case round =>
    obtain ⟨k, hk, rfl, heq, hbl⟩ := hrel
    by_cases hlt : k < N0
    · have hkf : k < a.defs.length := by rw [← Hx0.out]; exact hlt
      have hkg : k < b.defs.length := by rw [← Hy0.out]; exact hlt
      obtain ⟨b3, o3, rfl, hb3, u0, u1, ca, cc, u2, uG⟩ := GDf.cells Hs0.out hkf
      obtain ⟨b4, o4, rfl, hb4, v0, v1, ea, ec, v2, vG⟩ := GDf.cells Ht0.out hkg
      obtain ⟨Y, hY⟩ : ∃ Y, Y = gnth df0 a.defs k := ⟨_, rfl⟩
      obtain ⟨Z, hZ⟩ : ∃ Z, Z = gnth df0 b.defs k := ⟨_, rfl⟩
      have hwk := Hw0.out k hkf
      rw [← hY] at u0 u1 u2 uG hwk
      rw [← hZ] at v0 v1 v2 vG
      have P0 := (hbl.cell (by exact hba)).trans p0
      have Q0 := fun x => ((hbl.alloc hbl.size x).cell (by exact hbb)).trans q0
      have U0 := (hbl.cell (by exact hb3)).trans u0
      have U1 := (hbl.cell (by exact hb3)).trans u1
      have U2 := (hbl.cell (by exact hb3)).trans u2
      have V0 := fun x => ((hbl.alloc hbl.size x).cell (by exact hb4)).trans v0
      have V1 := fun x => ((hbl.alloc hbl.size x).cell (by exact hb4)).trans v1
      have V2 := fun x => ((hbl.alloc hbl.size x).cell (by exact hb4)).trans v2
      have HUG := Lib.hid uG
      have HVG := Lib.hid vG
      have HY := Lib.hid hY
      have HZ := Lib.hid hZ
      have hyb : totPt Y.body ≤ 1048576 := by unfold wtDf at hwk; omega
      have hbz : ∀ x y, Below w.heap.size w ((wr.alloc x).alloc y) := fun x y => (hbl.alloc hbl.size _).alloc (by have := hbl.size; simp; omega) _
      have HF : Hid (Y ≠ Z → D = false) := Lib.hid (fun e => HFF.out fun h => e (by rw [HY.out, HZ.out, h]))
      clear u0 u1 u2 v0 v1 v2 uG vG hY hZ hwk
      have HC := Lib.hid (fun (x y : Obj) => calls_below (l05SameParts_q _ _ Y.body Z.body ((wr.alloc x).alloc y) hyb (HUG.out.keep (Keep.of_below _ _ (hbz x y))) (HVG.out.keep (Keep.of_below _ _ (hbz x y)))))
      by_cases c0 : Y.name = Z.name
      · by_cases c1 : Y.par = Z.par
        · by_cases c2 : Y.body = Z.body
          · have m0 : (Y.name.toList == Z.name.toList) = true := by rw [hlt']; exact decide_eq_true c0
            have m1 : (Y.par != Z.par) = false := by simpa using c1
            have HN2 : Hid (a.defs.take (k + 1) = b.defs.take (k + 1)) := Lib.hid (by
              have e : Y = Z := by
                cases Y
                cases Z
                simp_all
              rw [take_gnth df0 _ k hkf, take_gnth df0 _ k hkg, heq.out, ← HY.out, ← HZ.out, e])
            have C2 : Hid (decide (Y.body = Z.body) = true) := Lib.hid (decide_eq_true c2)
            clear HF hlt' c0 c1 c2
            go_wp2_with fail
            refine (HC.out _ _).mono ?_
            rw [C2.out]
            rintro e w3 ⟨rfl, hb3x⟩
            have B3 := below_trans' (hbz _ _) hb3x
            go_wp2_with fail
            go_roundw
            case rel => exact ⟨k + 1, by omega, by go_num, HN2, B3⟩
            case measure => simp [intOf]; omega
          · have m0 : (Y.name.toList == Z.name.toList) = true := by rw [hlt']; exact decide_eq_true c0
            have m1 : (Y.par != Z.par) = false := by simpa using c1
            have HF2 := Lib.hid (HF.out fun h => c2 (by rw [h]))
            have C2 : Hid (decide (Y.body = Z.body) = false) := Lib.hid (decide_eq_false c2)
            clear HF hlt' c0 c1 c2
            go_wp2_with fail
            refine (HC.out _ _).mono ?_
            rw [C2.out]
            rintro e w3 ⟨rfl, hb3x⟩
            have B3 := below_trans' (hbz _ _) hb3x
            go_wp2_with fail
            go_ret
            exact ⟨by rw [HF2.out]; rfl, B3⟩
        · have m0 : (Y.name.toList == Z.name.toList) = true := by rw [hlt']; exact decide_eq_true c0
          have m1 : (Y.par != Z.par) = true := by simpa using c1
          have HF2 := Lib.hid (HF.out fun h => c1 (by rw [h]))
          clear HF hlt' c0 c1
          go_wp2_with fail
          go_ret
          exact ⟨by rw [HF2.out]; rfl, (hbz _ _)⟩
      · have m0 : (Y.name.toList == Z.name.toList) = false := by rw [hlt']; exact decide_eq_false c0
        have HF2 := Lib.hid (HF.out fun h => c0 (by rw [h]))
        clear HF hlt' c0
        go_wp2_with fail
        go_ret
        exact ⟨by rw [HF2.out]; rfl, (hbz _ _)⟩
    · have hkn : k = N0 := by omega
      have E0 : Hid (a.defs = b.defs) := Lib.hid (by
        have h := heq.out
        rwa [List.take_of_length_le (by rw [← Hx0.out]; omega), List.take_of_length_le (by rw [← Hy0.out]; omega)] at h)
      have P0 := (hbl.cell (by exact hba)).trans p0
      clear heq hkn
      go_wp2_with fail
      go_loopw [8] (fun si wr => ∃ k : Nat, k ≤ N1 ∧ si = .int .i64 k ∧ Hid (a.comps.take k = b.comps.take k) ∧ Below w.heap.size w wr) (fun si _ => N1 - (intOf si).toNat)
      case atStart => exact ⟨0, Nat.zero_le _, rfl, Lib.hid rfl, hbl⟩
      case round =>
        clear hbl P0
        obtain ⟨k, hk, rfl, heq, hbl⟩ := hrel
        have P1 := (hbl.cell (by exact hba)).trans p1
        have Q1 := (hbl.cell (by exact hbb)).trans q1
        have hbq : ∀ q, Below w.heap.size w (wr.drewN q) := fun q => below_trans' hbl (drewN_below ⟨q, rfl⟩)
        by_cases hlt1 : k < N1
        · have hkf : k < a.comps.length := by rw [← Hx1.out]; exact hlt1
          have hkg : k < b.comps.length := by rw [← Hy1.out]; exact hlt1
          obtain ⟨b3, o3, rfl, hb3, u0, ca, cc, u1, uG⟩ := GCp.cells Hs1.out hkf
          obtain ⟨b4, o4, rfl, hb4, v0, ea, ec, v1, vG⟩ := GCp.cells Ht1.out hkg
          obtain ⟨Y, hY⟩ : ∃ Y, Y = gnth cp0 a.comps k := ⟨_, rfl⟩
          obtain ⟨Z, hZ⟩ : ∃ Z, Z = gnth cp0 b.comps k := ⟨_, rfl⟩
          have hwk := Hw1.out k hkf
          rw [← hY] at u0 u1 uG hwk
          rw [← hZ] at v0 v1 vG
          have U0 := (hbl.cell (by exact hb3)).trans u0
          have U1 := (hbl.cell (by exact hb3)).trans u1
          have V0 := (hbl.cell (by exact hb4)).trans v0
          have V1 := (hbl.cell (by exact hb4)).trans v1
          have HUG := Lib.hid uG
          have HVG := Lib.hid vG
          have HY := Lib.hid hY
          have HZ := Lib.hid hZ
          have hyb : Y.vals.length ≤ 1048576 := hwk
          have HF : Hid (Y ≠ Z → D = false) := Lib.hid (fun e => HFF.out fun h => e (by rw [HY.out, HZ.out, h]))
          clear u0 u1 v0 v1 uG vG hY hZ hwk
          by_cases c0 : Y.dfn = Z.dfn
          · have m0 : (Y.dfn != Z.dfn) = false := by simpa using c0
            by_cases c1 : Y.vals = Z.vals
            · have HN2 : Hid (a.comps.take (k + 1) = b.comps.take (k + 1)) := Lib.hid (by
                have e : Y = Z := by
                  cases Y
                  cases Z
                  simp_all
                rw [take_gnth cp0 _ k hkf, take_gnth cp0 _ k hkg, heq.out, ← HY.out, ← HZ.out, e])
              have Hc := Lib.hid (fun q => quiet_eq (l00Same_q _ _ Y.vals Z.vals (wr.drewN q) hyb (HUG.out.keep (Keep.of_below _ _ (hbq q))) (HVG.out.keep (Keep.of_below _ _ (hbq q)))) (decide_eq_true c1))
              clear HF c0 c1
              go_wp2_with fail
              go_quiet ((go_at_call 67; exact Calls.quiet_of (Hc.out _)))
              go_wp2_with fail
              go_roundw
              case rel => exact ⟨k + 1, by omega, by go_num, HN2, hbq _⟩
              case measure => simp [intOf]; omega
            · have HF2 := Lib.hid (HF.out fun h => c1 (by rw [h]))
              have Hc := Lib.hid (fun q => quiet_eq (l00Same_q _ _ Y.vals Z.vals (wr.drewN q) hyb (HUG.out.keep (Keep.of_below _ _ (hbq q))) (HVG.out.keep (Keep.of_below _ _ (hbq q)))) (decide_eq_false c1))
              clear HF c0 c1
              go_wp2_with fail
              go_quiet ((go_at_call 67; exact Calls.quiet_of (Hc.out _)))
              go_wp2_with fail
              go_ret
              exact ⟨by rw [HF2.out]; rfl, hbq _⟩
          · have HF2 := Lib.hid (HF.out fun h => c0 (by rw [h]))
            have m0 : (Y.dfn != Z.dfn) = true := by simpa using c0
            clear HF c0
            go_wp2_with fail
            go_quiet (fail)
            go_wp2_with fail
            go_ret
            exact ⟨by rw [HF2.out]; rfl, hbq _⟩
        · have hkn : k = N1 := by omega
          have E1 : Hid (a.comps = b.comps) := Lib.hid (by
            have h := heq.out
            rwa [List.take_of_length_le (by rw [← Hx1.out]; omega), List.take_of_length_le (by rw [← Hy1.out]; omega)] at h)
          clear heq hkn
          go_wp2_with fail
          go_loopw [9] (fun si wr => ∃ k : Nat, k ≤ N2 ∧ si = .int .i64 k ∧ Hid (a.meets.take k = b.meets.take k) ∧ Below w.heap.size w wr) (fun si _ => N2 - (intOf si).toNat)
          case atStart => exact ⟨0, Nat.zero_le _, rfl, Lib.hid rfl, hbl⟩
          case round =>
            clear hbl P1 Q1 hbq
            obtain ⟨k, hk, rfl, heq, hbl⟩ := hrel
            have P2 := (hbl.cell (by exact hba)).trans p2
            have Q2 := (hbl.cell (by exact hbb)).trans q2
            have hbq : ∀ q, Below w.heap.size w (wr.drewN q) := fun q => below_trans' hbl (drewN_below ⟨q, rfl⟩)
            by_cases hlt2 : k < N2
            · have hkf : k < a.meets.length := by rw [← Hx2.out]; exact hlt2
              have hkg : k < b.meets.length := by rw [← Hy2.out]; exact hlt2
              obtain ⟨b3, o3, rfl, hb3, u0, u1, u2⟩ := GMt.cells Hs2.out hkf
              obtain ⟨b4, o4, rfl, hb4, v0, v1, v2⟩ := GMt.cells Ht2.out hkg
              obtain ⟨Y, hY⟩ : ∃ Y, Y = gnth mt0 a.meets k := ⟨_, rfl⟩
              obtain ⟨Z, hZ⟩ : ∃ Z, Z = gnth mt0 b.meets k := ⟨_, rfl⟩
              rw [← hY] at u0 u1 u2
              rw [← hZ] at v0 v1 v2
              have U0 := (hbl.cell (by exact hb3)).trans u0
              have U1 := (hbl.cell (by exact hb3)).trans u1
              have U2 := (hbl.cell (by exact hb3)).trans u2
              have V0 := (hbl.cell (by exact hb4)).trans v0
              have V1 := (hbl.cell (by exact hb4)).trans v1
              have V2 := (hbl.cell (by exact hb4)).trans v2
              have HY := Lib.hid hY
              have HZ := Lib.hid hZ
              have HF : Hid (Y ≠ Z → D = false) := Lib.hid (fun e => HFF.out fun h => e (by rw [HY.out, HZ.out, h]))
              clear u0 u1 u2 v0 v1 v2 hY hZ
              by_cases e : Y = Z
              · have HN2 : Hid (a.meets.take (k + 1) = b.meets.take (k + 1)) := Lib.hid (by rw [take_gnth mt0 _ k hkf, take_gnth mt0 _ k hkg, heq.out, ← HY.out, ← HZ.out, e])
                have hN : ∀ W, (binOp .neq 94 (.agg #[.string Y.left, .string Y.right, .string Y.res]) (.agg #[.string Z.left, .string Z.right, .string Z.res])).run Try.prog W = .ok (.bool false) W := fun W => by rw [neqMt_run, decide_eq_true e]; rfl
                clear e HF
                go_wp2_with fail
                go_quiet (fail)
                go_wp2_with fail
                go_roundw
                case rel => exact ⟨k + 1, by omega, by go_num, HN2, hbq _⟩
                case measure => simp [intOf]; omega
              · have HF2 := Lib.hid (HF.out e)
                have hN : ∀ W, (binOp .neq 94 (.agg #[.string Y.left, .string Y.right, .string Y.res]) (.agg #[.string Z.left, .string Z.right, .string Z.res])).run Try.prog W = .ok (.bool true) W := fun W => by rw [neqMt_run, decide_eq_false e]; rfl
                clear e HF
                go_wp2_with fail
                go_quiet (fail)
                go_wp2_with fail
                go_ret
                exact ⟨by rw [HF2.out]; rfl, hbq _⟩
            · have hkn : k = N2 := by omega
              have E2 : Hid (a.meets = b.meets) := Lib.hid (by
                have h := heq.out
                rwa [List.take_of_length_le (by rw [← Hx2.out]; omega), List.take_of_length_le (by rw [← Hy2.out]; omega)] at h)
              have P3 := (hbl.cell (by exact hba)).trans p3
              have Q3 := (hbl.cell (by exact hbb)).trans q3
              have P4 := (hbl.cell (by exact hba)).trans p4
              have Q4 := (hbl.cell (by exact hbb)).trans q4
              clear heq hkn
              by_cases c3 : a.allow = b.allow
              · have Hc3 := Lib.hid (fun q => quiet_eq (l11Texts_q _ _ a.allow b.allow (wr.drewN q) hl3 (Hs3.out.keep (Keep.of_below _ _ (hbq q))) (Ht3.out.keep (Keep.of_below _ _ (hbq q)))) (decide_eq_true c3))
                by_cases c4 : a.hide = b.hide
                · have Hc4 := Lib.hid (fun q => quiet_eq (l11Texts_q _ _ a.hide b.hide (wr.drewN q) hl4 (Hs4.out.keep (Keep.of_below _ _ (hbq q))) (Ht4.out.keep (Keep.of_below _ _ (hbq q)))) (decide_eq_true c4))
                  have HE : Hid (D = true) := Lib.hid (by
                    rw [HD.out]
                    refine decide_eq_true ?_
                    have e0 := E0.out
                    have e1 := E1.out
                    have e2 := E2.out
                    cases a
                    cases b
                    simp_all)
                  clear c3 c4
                  go_wp2_with fail
                  go_quiet ((go_at_call 60; first | (with_reducible exact Calls.quiet_of (Hc3.out _)) | (with_reducible exact Calls.quiet_of (Hc4.out _))))
                  go_wp2_with fail
                  go_ret
                  exact ⟨by rw [HE.out]; rfl, hbq _⟩
                · have Hc4 := Lib.hid (fun q => quiet_eq (l11Texts_q _ _ a.hide b.hide (wr.drewN q) hl4 (Hs4.out.keep (Keep.of_below _ _ (hbq q))) (Ht4.out.keep (Keep.of_below _ _ (hbq q)))) (decide_eq_false c4))
                  have HE : Hid (D = false) := Lib.hid (HFF.out fun h => c4 (by rw [h]))
                  clear c3 c4
                  go_wp2_with fail
                  go_quiet ((go_at_call 60; first | (with_reducible exact Calls.quiet_of (Hc3.out _)) | (with_reducible exact Calls.quiet_of (Hc4.out _))))
                  go_wp2_with fail
                  go_ret
                  exact ⟨by rw [HE.out]; rfl, hbq _⟩
              · have Hc3 := Lib.hid (fun q => quiet_eq (l11Texts_q _ _ a.allow b.allow (wr.drewN q) hl3 (Hs3.out.keep (Keep.of_below _ _ (hbq q))) (Ht3.out.keep (Keep.of_below _ _ (hbq q)))) (decide_eq_false c3))
                have HE : Hid (D = false) := Lib.hid (HFF.out fun h => c3 (by rw [h]))
                clear c3
                go_wp2_with fail
                go_quiet ((go_at_call 60; exact Calls.quiet_of (Hc3.out _)))
                go_wp2_with fail
                go_ret
                exact ⟨by rw [HE.out]; rfl, hbq _⟩
set_option maxRecDepth 100000 in
theorem spec_SameSystem_any {lo hi lo2 hi2 : Nat} (a b : Sy) {sa0 sa1 sa2 sa3 sa4 : Option Addr} {sc0 sc1 sc2 sc3 sc4 : Nat} {ta0 ta1 ta2 ta3 ta4 : Option Addr} {tc0 tc1 tc2 tc3 tc4 : Nat} (w : World) (hn : wtSy a ≤ 1048576) (hs0 : GDf w lo hi (.slice sa0 a.defs.length sc0) a.defs) (hs1 : GCp w lo hi (.slice sa1 a.comps.length sc1) a.comps) (hs2 : GMt w lo hi (.slice sa2 a.meets.length sc2) a.meets) (hs3 : GS w lo hi (.slice sa3 a.allow.length sc3) a.allow) (hs4 : GS w lo hi (.slice sa4 a.hide.length sc4) a.hide) (ht0 : GDf w lo2 hi2 (.slice ta0 b.defs.length tc0) b.defs) (ht1 : GCp w lo2 hi2 (.slice ta1 b.comps.length tc1) b.comps) (ht2 : GMt w lo2 hi2 (.slice ta2 b.meets.length tc2) b.meets) (ht3 : GS w lo2 hi2 (.slice ta3 b.allow.length tc3) b.allow) (ht4 : GS w lo2 hi2 (.slice ta4 b.hide.length tc4) b.hide) :
    Calls Try.prog 17 #[.agg #[.slice sa0 a.defs.length sc0, .slice sa1 a.comps.length sc1, .slice sa2 a.meets.length sc2, .slice sa3 a.allow.length sc3, .slice sa4 a.hide.length sc4], .agg #[.slice ta0 b.defs.length tc0, .slice ta1 b.comps.length tc1, .slice ta2 b.meets.length tc2, .slice ta3 b.allow.length tc3, .slice ta4 b.hide.length tc4]] w fun e w' => e = .returned (.bool (decide (a = b))) ∧ Below w.heap.size w w' := by
  go_enter Try.func17, Try.ntmps17
  have hB0 : ∀ x y : Obj, Below w.heap.size w ((w.alloc x).alloc y) := fun x y => ((Below.refl _ w).alloc (Nat.le_refl _) _).alloc (by simp) _
  go_wp2_with fail
  refine (l05Same_any a b w.heap.size (w.heap.size + 1) _ hn (hs0.keep (Keep.of_below _ _ (hB0 _ _))) (hs1.keep (Keep.of_below _ _ (hB0 _ _))) (hs2.keep (Keep.of_below _ _ (hB0 _ _))) (hs3.keep (Keep.of_below _ _ (hB0 _ _))) (hs4.keep (Keep.of_below _ _ (hB0 _ _))) (ht0.keep (Keep.of_below _ _ (hB0 _ _))) (ht1.keep (Keep.of_below _ _ (hB0 _ _))) (ht2.keep (Keep.of_below _ _ (hB0 _ _))) (ht3.keep (Keep.of_below _ _ (hB0 _ _))) (ht4.keep (Keep.of_below _ _ (hB0 _ _))) ?h1 ?h2).mono ?_
  case h1 =>
    show ((w.heap.push _).push _)[w.heap.size]? = some _
    rw [Array.getElem?_push, if_neg (by simp), Array.getElem?_push, if_pos (by simp)]
  case h2 =>
    show ((w.heap.push _).push _)[w.heap.size + 1]? = some _
    rw [Array.getElem?_push, if_pos (by simp)]
  rintro e w1 ⟨rfl, hb1⟩
  go_wp2_with fail
  go_ret
  exact ⟨rfl, (hB0 _ _).trans (hb1.mono (hB0 _ _).size)⟩
end Go.Proofs.Ytdlldgenkmngiaa
