/- The laws' own comparisons: eq. -/
import Derived.Test.YtdlldgenkmngiaaProg
import Derived.Test.YtdlldgenkmngiaaMem
import Derived.Test.YtdlldgenkmngiaaMath
import Derived.Test.YtdlldgenkmngiaaBasics
import Derived.Test.YtdlldgenkmngiaaOpenI
import Derived.Test.YtdlldgenkmngiaaHelpI
import Derived.Test.YtdlldgenkmngiaaGrid
import Derived.Test.YtdlldgenkmngiaaRows2
import Derived.Test.YtdlldgenkmngiaaSt
import Derived.WalkKit
import Derived.BigQuiet
import Derived.BigRegion
import Derived.StillTailTactics
import Derived.Deep.QuietTactic
import Derived.Laws.ResultCell
import Derived.Laws.OwnMore
import Derived.Lib.Hide
import Derived.Outline
set_option linter.unusedVariables false
set_option linter.unusedSimpArgs false
namespace Go.Proofs.Ytdlldgenkmngiaa
open Go.RowKit
set_option maxRecDepth 100000 in
set_option maxHeartbeats 1600000 in
theorem eqI_any {lo hi lo2 hi2 : Nat} (va vb : Value) (f g : List Int) (w : World) (hn : totI f ≤ 1048576) (ha : GI w lo hi va f) (hb : GI w lo2 hi2 vb g) :
    Calls Try.prog 59 #[va, vb] w fun e w' => e = .returned (.bool (decide (f = g))) ∧ Below w.heap.size w w' := by
  obtain ⟨a, cap, rfl, h1, h2⟩ := Rws.slice ha
  unfold maxLen at h2
  unfold totI at hn
  exact eqInt64S_any _ _ f g w (by omega) ha.rd hb.rd
set_option maxRecDepth 100000 in
set_option maxHeartbeats 1600000 in
theorem eqS_any {lo hi lo2 hi2 : Nat} (va vb : Value) (f g : List ByteArray) (w : World) (hn : totS f ≤ 1048576) (ha : GS w lo hi va f) (hb : GS w lo2 hi2 vb g) :
    Calls Try.prog 36 #[va, vb] w fun e w' => e = .returned (.bool (decide (f = g))) ∧ Below w.heap.size w w' := by
  have HVa := Lib.hid ha
  have HVb := Lib.hid hb
  obtain ⟨a, capa, rfl, hcapa, hma⟩ := Rws.slice ha
  obtain ⟨b, capb, rfl, hcapb, hmb⟩ := Rws.slice hb
  unfold maxLen at hma hmb
  clear ha hb
  unfold totS at hn
  have hln : f.length ≤ 1048576 := by omega
  have Hwt : Hid (∀ i, i < f.length → (snth f i).size ≤ 1048576) := Lib.hid (fun i hi => by
    have h : (snth f i).size ≤ _ := sumTo_le (fun i => (snth f i).size) hi
    omega)
  clear hn
  by_cases hl : f.length = g.length
  · obtain ⟨n, hxn⟩ : ∃ n, n = f.length := ⟨_, rfl⟩
    rw [← hxn] at hl
    rw [← hl] at hcapb HVb ⊢
    rw [← hxn] at hcapa HVa hln ⊢
    have Hxn := Lib.hid hxn; clear hxn
    have Hyn := Lib.hid hl; clear hl
    go_enter Try.func36, Try.ntmps36
    go_wp2_with fail
    go_loopw [5] (fun si wr => ∃ k : Nat, k ≤ n ∧ si = .int .i64 k ∧ Hid (f.take k = g.take k) ∧ Below w.heap.size w wr) (fun si _ => n - (intOf si).toNat)
    case atStart => exact ⟨0, Nat.zero_le _, rfl, Lib.hid rfl, Below.refl _ _⟩
    case round =>
      obtain ⟨k, hk, rfl, heq, hbl⟩ := hrel
      by_cases hlt : k < n
      · have hkf : k < f.length := by rw [← Hxn.out]; exact hlt
        have hkg : k < g.length := by rw [← Hyn.out]; exact hlt
        obtain ⟨ba, oa, rfl, hba, g0⟩ := GS.cells HVa.out hkf
        obtain ⟨bb, ob, rfl, hbb, h0⟩ := GS.cells HVb.out hkg
        have a0 := (hbl.cell (by exact hba)).trans g0
        have c0 := (hbl.cell (by exact hbb)).trans h0
        obtain ⟨Y, hY⟩ : ∃ Y, Y = snth f k := ⟨_, rfl⟩
        obtain ⟨Z, hZ⟩ : ∃ Z, Z = snth g k := ⟨_, rfl⟩
        have hwk := Hwt.out k hkf
        rw [← hY] at hwk a0
        rw [← hZ] at c0
        have HY := Lib.hid hY
        have HZ := Lib.hid hZ
        have hbd := hbl.drew
        clear hY hZ g0 h0
        have hlt' := beq_txt Y Z
        by_cases e : Y = Z
        · have HN2 : Hid (f.take (k + 1) = g.take (k + 1)) := Lib.hid (by rw [take_snth f k hkf, take_snth g k hkg, heq.out, ← HY.out, ← HZ.out, e])
          rw [decide_eq_true e] at hlt'
          clear e
          go_wp2_with fail
          go_quiet (fail)
          go_wp2_with fail
          go_roundw
          case rel => exact ⟨k + 1, by omega, by go_num, HN2, hbl.trans ⟨rfl, rfl, rfl, Nat.le_refl _, fun _ _ => rfl⟩⟩
          case measure => simp [intOf]; omega
        · have HF2 : Hid (decide (f = g) = false) := Lib.hid (decide_eq_false fun h => e (by rw [HY.out, HZ.out, h]))
          rw [decide_eq_false e] at hlt'
          clear e
          go_wp2_with fail
          go_quiet (fail)
          go_wp2_with fail
          go_ret
          exact ⟨by rw [HF2.out]; rfl, hbl.trans ⟨rfl, rfl, rfl, Nat.le_refl _, fun _ _ => rfl⟩⟩
      · obtain rfl : k = n := by omega
        have HE : Hid (decide (f = g) = true) := Lib.hid (by
          have h := heq.out
          rw [List.take_of_length_le (by rw [Hxn.out]; exact Nat.le_refl _), List.take_of_length_le (by rw [Hyn.out]; exact Nat.le_refl _)] at h
          exact decide_eq_true h)
        go_wp2_with fail
        go_ret
        exact ⟨by rw [HE.out]; rfl, hbl⟩
  · have hne : decide (f = g) = false := decide_eq_false fun e => hl (by rw [e])
    rw [hne]
    have h1 : ((f.length : Int) != (g.length : Int)) = true := by simp; omega
    go_enter Try.func36, Try.ntmps36
    go_wp2_with fail
    go_ret
    exact ⟨rfl, Below.refl _ _⟩
set_option maxRecDepth 100000 in
set_option maxHeartbeats 800000 in
theorem eqVxe_any {lo hi lo2 hi2 : Nat} (a b : Vx) {sa2 : Option Addr} {sc2 : Nat} {ta2 : Option Addr} {tc2 : Nat} (w : World) (hn : wtVx a ≤ 1048576) (hs2 : GI w lo hi (.slice sa2 a.nxt.length sc2) a.nxt) (ht2 : GI w lo2 hi2 (.slice ta2 b.nxt.length tc2) b.nxt) :
    Calls Try.prog 28 #[.agg #[.int .i64 a.own, .int .i64 a.pri, .slice sa2 a.nxt.length sc2], .agg #[.int .i64 b.own, .int .i64 b.pri, .slice ta2 b.nxt.length tc2]] w fun e w' => e = .returned (.bool (decide (a = b))) ∧ Below w.heap.size w w' := by
  have hlt : ∀ x y : ByteArray, (x.toList == y.toList) = decide (x = y) := beq_txt
  unfold wtVx at hn
  by_cases c0 : a.own = b.own
  · by_cases c1 : a.pri = b.pri
    · by_cases c2 : a.nxt = b.nxt
      · have HF : Hid (decide (a = b) = true) := Lib.hid (by
          cases a
          cases b
          simp only [decide_eq_true_eq]
          simp_all)
        have n0 : (a.own != b.own) = false := by simpa using c0
        have n1 : (a.pri != b.pri) = false := by simpa using c1
        rw [HF.out]
        clear HF hlt
        have C2 : Hid (decide (a.nxt = b.nxt) = true) := Lib.hid (decide_eq_true c2)
        clear c0 c1 c2
        go_enter Try.func28, Try.ntmps28
        go_wp2_with fail
        refine (eqI_any _ _ _ _ _ (by omega) (hs2.keep (Keep.of_below _ _ (((Below.refl _ w).alloc (Nat.le_refl _) _).alloc (by simp) _))) (ht2.keep (Keep.of_below _ _ (((Below.refl _ w).alloc (Nat.le_refl _) _).alloc (by simp) _)))).mono ?_
        rw [C2.out]
        rintro e w3 ⟨rfl, hb2⟩
        go_wp2_with fail
        go_ret
        exact ⟨rfl, (((Below.refl _ w).alloc (Nat.le_refl _) _).alloc (by simp) _).trans (hb2.mono (by simp; omega))⟩
      · have HF : Hid (decide (a = b) = false) := Lib.hid (decide_eq_false fun h => c2 (by rw [h]))
        have n0 : (a.own != b.own) = false := by simpa using c0
        have n1 : (a.pri != b.pri) = false := by simpa using c1
        rw [HF.out]
        clear HF hlt
        have C2 : Hid (decide (a.nxt = b.nxt) = false) := Lib.hid (decide_eq_false c2)
        clear c0 c1 c2
        go_enter Try.func28, Try.ntmps28
        go_wp2_with fail
        refine (eqI_any _ _ _ _ _ (by omega) (hs2.keep (Keep.of_below _ _ (((Below.refl _ w).alloc (Nat.le_refl _) _).alloc (by simp) _))) (ht2.keep (Keep.of_below _ _ (((Below.refl _ w).alloc (Nat.le_refl _) _).alloc (by simp) _)))).mono ?_
        rw [C2.out]
        rintro e w3 ⟨rfl, hb2⟩
        go_wp2_with fail
        go_ret
        exact ⟨rfl, (((Below.refl _ w).alloc (Nat.le_refl _) _).alloc (by simp) _).trans (hb2.mono (by simp; omega))⟩
    · have HF : Hid (decide (a = b) = false) := Lib.hid (decide_eq_false fun h => c1 (by rw [h]))
      have n0 : (a.own != b.own) = false := by simpa using c0
      have n1 : (a.pri != b.pri) = true := by simpa using c1
      rw [HF.out]
      clear HF hlt
      clear c0 c1
      go_enter Try.func28, Try.ntmps28
      go_wp2_with fail
      go_ret
      exact ⟨rfl, ((Below.refl _ w).alloc (Nat.le_refl _) _).alloc (by simp) _⟩
  · have HF : Hid (decide (a = b) = false) := Lib.hid (decide_eq_false fun h => c0 (by rw [h]))
    have n0 : (a.own != b.own) = true := by simpa using c0
    rw [HF.out]
    clear HF hlt
    clear c0
    go_enter Try.func28, Try.ntmps28
    go_wp2_with fail
    go_ret
    exact ⟨rfl, ((Below.refl _ w).alloc (Nat.le_refl _) _).alloc (by simp) _⟩
set_option maxRecDepth 100000 in
set_option maxHeartbeats 1600000 in
theorem eqVx_any {lo hi lo2 hi2 : Nat} (va vb : Value) (f g : List Vx) (w : World) (hn : totVx f ≤ 1048576) (ha : GVx w lo hi va f) (hb : GVx w lo2 hi2 vb g) :
    Calls Try.prog 10 #[va, vb] w fun e w' => e = .returned (.bool (decide (f = g))) ∧ Below w.heap.size w w' := by
  have HVa := Lib.hid ha
  have HVb := Lib.hid hb
  obtain ⟨a, capa, rfl, hcapa, hma⟩ := Rws.slice ha
  obtain ⟨b, capb, rfl, hcapb, hmb⟩ := Rws.slice hb
  unfold maxLen at hma hmb
  clear ha hb
  unfold totVx at hn
  have hln : f.length ≤ 1048576 := by omega
  have Hwt : Hid (∀ i, i < f.length → wtVx (gnth vx0 f i) ≤ 1048576) := Lib.hid (fun i hi => by
    have h : wtVx (gnth vx0 f i) ≤ _ := sumTo_le (fun i => wtVx (gnth vx0 f i)) hi
    omega)
  clear hn
  by_cases hl : f.length = g.length
  · obtain ⟨n, hxn⟩ : ∃ n, n = f.length := ⟨_, rfl⟩
    rw [← hxn] at hl
    rw [← hl] at hcapb HVb ⊢
    rw [← hxn] at hcapa HVa hln ⊢
    have Hxn := Lib.hid hxn; clear hxn
    have Hyn := Lib.hid hl; clear hl
    go_enter Try.func10, Try.ntmps10
    go_wp2_with fail
    go_loopw [5] (fun si wr => ∃ k : Nat, k ≤ n ∧ si = .int .i64 k ∧ Hid (f.take k = g.take k) ∧ Below w.heap.size w wr) (fun si _ => n - (intOf si).toNat)
    case atStart => exact ⟨0, Nat.zero_le _, rfl, Lib.hid rfl, Below.refl _ _⟩
    case round =>
      obtain ⟨k, hk, rfl, heq, hbl⟩ := hrel
      by_cases hlt : k < n
      · have hkf : k < f.length := by rw [← Hxn.out]; exact hlt
        have hkg : k < g.length := by rw [← Hyn.out]; exact hlt
        obtain ⟨ba, oa, rfl, hba, g0, g1, ga2, gc2, g2, gG2⟩ := GVx.cells HVa.out hkf
        obtain ⟨bb, ob, rfl, hbb, h0, h1, ha2, hc2, h2, hG2⟩ := GVx.cells HVb.out hkg
        have a0 := (hbl.drew.cell (by exact hba)).trans g0
        have a1 := (hbl.drew.cell (by exact hba)).trans g1
        have a2 := (hbl.drew.cell (by exact hba)).trans g2
        have c0 := (hbl.drew.cell (by exact hbb)).trans h0
        have c1 := (hbl.drew.cell (by exact hbb)).trans h1
        have c2 := (hbl.drew.cell (by exact hbb)).trans h2
        obtain ⟨Y, hY⟩ : ∃ Y, Y = gnth vx0 f k := ⟨_, rfl⟩
        obtain ⟨Z, hZ⟩ : ∃ Z, Z = gnth vx0 g k := ⟨_, rfl⟩
        have hwk := Hwt.out k hkf
        rw [← hY] at hwk a0 a1 a2 gG2
        rw [← hZ] at c0 c1 c2 hG2
        have HgG2 := Lib.hid gG2
        clear gG2
        have HhG2 := Lib.hid hG2
        clear hG2
        have HY := Lib.hid hY
        have HZ := Lib.hid hZ
        have hbd := hbl.drew
        clear hY hZ g0 g1 g2 h0 h1 h2
        have hkm : k < maxLen := by unfold maxLen; omega
        have HN : Hid (Y = Z → f.take (k + 1) = g.take (k + 1)) := Lib.hid (fun e => by rw [take_gnth vx0 f k hkf, take_gnth vx0 g k hkg, heq.out, ← HY.out, ← HZ.out, e])
        have HF : Hid (Y ≠ Z → decide (f = g) = false) := Lib.hid (fun e => decide_eq_false fun h => e (by rw [HY.out, HZ.out, h]))
        go_wp2_with fail
        refine wp_region_still_tail 8 (by kernel_rfl) (by kernel_rfl) ?_
        simp only [List.take_succ_cons, List.take_zero, List.drop_succ_cons, List.drop_zero]
        change wpStill _ _ wr.drew (fun a' => wpList _ _ _ _ a' wr.drew) _ _
        generalize wr.drew = w2 at *
        repeat still_step
        refine wpStill_nil ?_
        go_wp2_with fail
        refine (eqVxe_any Y Z _ hwk (HgG2.out.keep (Keep.of_below _ _ hbd)) (HhG2.out.keep (Keep.of_below _ _ hbd))).mono ?_
        by_cases e : Y = Z
        · have HN2 := Lib.hid (HN.out e)
          rw [decide_eq_true e]
          rintro e w3 ⟨rfl, hb3⟩
          clear HN HF e hbl
          go_wp2_with fail
          go_roundw
          case rel => exact ⟨k + 1, by omega, by go_num, HN2, below_trans' hbd hb3⟩
          case measure => simp [intOf]; omega
        · have HF2 := Lib.hid (HF.out e)
          rw [decide_eq_false e]
          rintro e w3 ⟨rfl, hb3⟩
          clear HN HF e hbl
          go_wp2_with fail
          go_ret
          exact ⟨by rw [HF2.out]; rfl, below_trans' hbd hb3⟩
      · obtain rfl : k = n := by omega
        have HE : Hid (decide (f = g) = true) := Lib.hid (by
          have h := heq.out
          rw [List.take_of_length_le (by rw [Hxn.out]; exact Nat.le_refl _), List.take_of_length_le (by rw [Hyn.out]; exact Nat.le_refl _)] at h
          exact decide_eq_true h)
        go_wp2_with fail
        go_ret
        exact ⟨by rw [HE.out]; rfl, hbl⟩
  · have hne : decide (f = g) = false := decide_eq_false fun e => hl (by rw [e])
    rw [hne]
    have h1 : ((f.length : Int) != (g.length : Int)) = true := by simp; omega
    go_enter Try.func10, Try.ntmps10
    go_wp2_with fail
    go_ret
    exact ⟨rfl, Below.refl _ _⟩
set_option maxRecDepth 100000 in
set_option maxHeartbeats 800000 in
theorem eqEge_any {lo hi lo2 hi2 : Nat} (a b : Eg) (w : World) (hn : wtEg a ≤ 1048576) :
    Calls Try.prog 62 #[.agg #[.int .i64 a.frm, .int .i64 a.lab, .int .i64 a.too], .agg #[.int .i64 b.frm, .int .i64 b.lab, .int .i64 b.too]] w fun e w' => e = .returned (.bool (decide (a = b))) ∧ Below w.heap.size w w' := by
  have hlt : ∀ x y : ByteArray, (x.toList == y.toList) = decide (x = y) := beq_txt
  unfold wtEg at hn
  by_cases c0 : a.frm = b.frm
  · by_cases c1 : a.lab = b.lab
    · by_cases c2 : a.too = b.too
      · have HF : Hid (decide (a = b) = true) := Lib.hid (by
          cases a
          cases b
          simp only [decide_eq_true_eq]
          simp_all)
        have n0 : (a.frm != b.frm) = false := by simpa using c0
        have n1 : (a.lab != b.lab) = false := by simpa using c1
        have n2 : (a.too != b.too) = false := by simpa using c2
        rw [HF.out]
        clear HF hlt
        clear c0 c1 c2
        go_enter Try.func62, Try.ntmps62
        go_wp2_with fail
        go_ret
        exact ⟨rfl, ((Below.refl _ w).alloc (Nat.le_refl _) _).alloc (by simp) _⟩
      · have HF : Hid (decide (a = b) = false) := Lib.hid (decide_eq_false fun h => c2 (by rw [h]))
        have n0 : (a.frm != b.frm) = false := by simpa using c0
        have n1 : (a.lab != b.lab) = false := by simpa using c1
        have n2 : (a.too != b.too) = true := by simpa using c2
        rw [HF.out]
        clear HF hlt
        clear c0 c1 c2
        go_enter Try.func62, Try.ntmps62
        go_wp2_with fail
        go_ret
        exact ⟨rfl, ((Below.refl _ w).alloc (Nat.le_refl _) _).alloc (by simp) _⟩
    · have HF : Hid (decide (a = b) = false) := Lib.hid (decide_eq_false fun h => c1 (by rw [h]))
      have n0 : (a.frm != b.frm) = false := by simpa using c0
      have n1 : (a.lab != b.lab) = true := by simpa using c1
      rw [HF.out]
      clear HF hlt
      clear c0 c1
      go_enter Try.func62, Try.ntmps62
      go_wp2_with fail
      go_ret
      exact ⟨rfl, ((Below.refl _ w).alloc (Nat.le_refl _) _).alloc (by simp) _⟩
  · have HF : Hid (decide (a = b) = false) := Lib.hid (decide_eq_false fun h => c0 (by rw [h]))
    have n0 : (a.frm != b.frm) = true := by simpa using c0
    rw [HF.out]
    clear HF hlt
    clear c0
    go_enter Try.func62, Try.ntmps62
    go_wp2_with fail
    go_ret
    exact ⟨rfl, ((Below.refl _ w).alloc (Nat.le_refl _) _).alloc (by simp) _⟩
set_option maxRecDepth 100000 in
set_option maxHeartbeats 1600000 in
theorem eqEg_any {lo hi lo2 hi2 : Nat} (va vb : Value) (f g : List Eg) (w : World) (hn : totEg f ≤ 1048576) (ha : GEg w lo hi va f) (hb : GEg w lo2 hi2 vb g) :
    Calls Try.prog 37 #[va, vb] w fun e w' => e = .returned (.bool (decide (f = g))) ∧ Below w.heap.size w w' := by
  have HVa := Lib.hid ha
  have HVb := Lib.hid hb
  obtain ⟨a, capa, rfl, hcapa, hma⟩ := Rws.slice ha
  obtain ⟨b, capb, rfl, hcapb, hmb⟩ := Rws.slice hb
  unfold maxLen at hma hmb
  clear ha hb
  unfold totEg at hn
  have hln : f.length ≤ 1048576 := by omega
  have Hwt : Hid (∀ i, i < f.length → wtEg (gnth eg0 f i) ≤ 1048576) := Lib.hid (fun i hi => by
    have h : wtEg (gnth eg0 f i) ≤ _ := sumTo_le (fun i => wtEg (gnth eg0 f i)) hi
    omega)
  clear hn
  by_cases hl : f.length = g.length
  · obtain ⟨n, hxn⟩ : ∃ n, n = f.length := ⟨_, rfl⟩
    rw [← hxn] at hl
    rw [← hl] at hcapb HVb ⊢
    rw [← hxn] at hcapa HVa hln ⊢
    have Hxn := Lib.hid hxn; clear hxn
    have Hyn := Lib.hid hl; clear hl
    go_enter Try.func37, Try.ntmps37
    go_wp2_with fail
    go_loopw [5] (fun si wr => ∃ k : Nat, k ≤ n ∧ si = .int .i64 k ∧ Hid (f.take k = g.take k) ∧ Below w.heap.size w wr) (fun si _ => n - (intOf si).toNat)
    case atStart => exact ⟨0, Nat.zero_le _, rfl, Lib.hid rfl, Below.refl _ _⟩
    case round =>
      obtain ⟨k, hk, rfl, heq, hbl⟩ := hrel
      by_cases hlt : k < n
      · have hkf : k < f.length := by rw [← Hxn.out]; exact hlt
        have hkg : k < g.length := by rw [← Hyn.out]; exact hlt
        obtain ⟨ba, oa, rfl, hba, g0, g1, g2⟩ := GEg.cells HVa.out hkf
        obtain ⟨bb, ob, rfl, hbb, h0, h1, h2⟩ := GEg.cells HVb.out hkg
        have a0 := (hbl.drew.cell (by exact hba)).trans g0
        have a1 := (hbl.drew.cell (by exact hba)).trans g1
        have a2 := (hbl.drew.cell (by exact hba)).trans g2
        have c0 := (hbl.drew.cell (by exact hbb)).trans h0
        have c1 := (hbl.drew.cell (by exact hbb)).trans h1
        have c2 := (hbl.drew.cell (by exact hbb)).trans h2
        obtain ⟨Y, hY⟩ : ∃ Y, Y = gnth eg0 f k := ⟨_, rfl⟩
        obtain ⟨Z, hZ⟩ : ∃ Z, Z = gnth eg0 g k := ⟨_, rfl⟩
        have hwk := Hwt.out k hkf
        rw [← hY] at hwk a0 a1 a2
        rw [← hZ] at c0 c1 c2
        have HY := Lib.hid hY
        have HZ := Lib.hid hZ
        have hbd := hbl.drew
        clear hY hZ g0 g1 g2 h0 h1 h2
        have hkm : k < maxLen := by unfold maxLen; omega
        have HN : Hid (Y = Z → f.take (k + 1) = g.take (k + 1)) := Lib.hid (fun e => by rw [take_gnth eg0 f k hkf, take_gnth eg0 g k hkg, heq.out, ← HY.out, ← HZ.out, e])
        have HF : Hid (Y ≠ Z → decide (f = g) = false) := Lib.hid (fun e => decide_eq_false fun h => e (by rw [HY.out, HZ.out, h]))
        go_wp2_with fail
        refine wp_region_still_tail 8 (by kernel_rfl) (by kernel_rfl) ?_
        simp only [List.take_succ_cons, List.take_zero, List.drop_succ_cons, List.drop_zero]
        change wpStill _ _ wr.drew (fun a' => wpList _ _ _ _ a' wr.drew) _ _
        generalize wr.drew = w2 at *
        repeat still_step
        refine wpStill_nil ?_
        go_wp2_with fail
        refine (eqEge_any (lo := 0) (hi := 0) (lo2 := 0) (hi2 := 0) Y Z _ hwk).mono ?_
        by_cases e : Y = Z
        · have HN2 := Lib.hid (HN.out e)
          rw [decide_eq_true e]
          rintro e w3 ⟨rfl, hb3⟩
          clear HN HF e hbl
          go_wp2_with fail
          go_roundw
          case rel => exact ⟨k + 1, by omega, by go_num, HN2, below_trans' hbd hb3⟩
          case measure => simp [intOf]; omega
        · have HF2 := Lib.hid (HF.out e)
          rw [decide_eq_false e]
          rintro e w3 ⟨rfl, hb3⟩
          clear HN HF e hbl
          go_wp2_with fail
          go_ret
          exact ⟨by rw [HF2.out]; rfl, below_trans' hbd hb3⟩
      · obtain rfl : k = n := by omega
        have HE : Hid (decide (f = g) = true) := Lib.hid (by
          have h := heq.out
          rw [List.take_of_length_le (by rw [Hxn.out]; exact Nat.le_refl _), List.take_of_length_le (by rw [Hyn.out]; exact Nat.le_refl _)] at h
          exact decide_eq_true h)
        go_wp2_with fail
        go_ret
        exact ⟨by rw [HE.out]; rfl, hbl⟩
  · have hne : decide (f = g) = false := decide_eq_false fun e => hl (by rw [e])
    rw [hne]
    have h1 : ((f.length : Int) != (g.length : Int)) = true := by simp; omega
    go_enter Try.func37, Try.ntmps37
    go_wp2_with fail
    go_ret
    exact ⟨rfl, Below.refl _ _⟩
set_option maxRecDepth 100000 in
set_option maxHeartbeats 800000 in
theorem eqTme_any {lo hi lo2 hi2 : Nat} (a b : Tm) (w : World) (hn : wtTm a ≤ 1048576) :
    Calls Try.prog 93 #[.agg #[.int .i64 a.kind, .int .i64 a.num], .agg #[.int .i64 b.kind, .int .i64 b.num]] w fun e w' => e = .returned (.bool (decide (a = b))) ∧ Below w.heap.size w w' := by
  have hlt : ∀ x y : ByteArray, (x.toList == y.toList) = decide (x = y) := beq_txt
  unfold wtTm at hn
  by_cases c0 : a.kind = b.kind
  · by_cases c1 : a.num = b.num
    · have HF : Hid (decide (a = b) = true) := Lib.hid (by
        cases a
        cases b
        simp only [decide_eq_true_eq]
        simp_all)
      have n0 : (a.kind != b.kind) = false := by simpa using c0
      have n1 : (a.num != b.num) = false := by simpa using c1
      rw [HF.out]
      clear HF hlt
      clear c0 c1
      go_enter Try.func93, Try.ntmps93
      go_wp2_with fail
      go_ret
      exact ⟨rfl, ((Below.refl _ w).alloc (Nat.le_refl _) _).alloc (by simp) _⟩
    · have HF : Hid (decide (a = b) = false) := Lib.hid (decide_eq_false fun h => c1 (by rw [h]))
      have n0 : (a.kind != b.kind) = false := by simpa using c0
      have n1 : (a.num != b.num) = true := by simpa using c1
      rw [HF.out]
      clear HF hlt
      clear c0 c1
      go_enter Try.func93, Try.ntmps93
      go_wp2_with fail
      go_ret
      exact ⟨rfl, ((Below.refl _ w).alloc (Nat.le_refl _) _).alloc (by simp) _⟩
  · have HF : Hid (decide (a = b) = false) := Lib.hid (decide_eq_false fun h => c0 (by rw [h]))
    have n0 : (a.kind != b.kind) = true := by simpa using c0
    rw [HF.out]
    clear HF hlt
    clear c0
    go_enter Try.func93, Try.ntmps93
    go_wp2_with fail
    go_ret
    exact ⟨rfl, ((Below.refl _ w).alloc (Nat.le_refl _) _).alloc (by simp) _⟩
set_option maxRecDepth 100000 in
set_option maxHeartbeats 1600000 in
theorem eqTm_any {lo hi lo2 hi2 : Nat} (va vb : Value) (f g : List Tm) (w : World) (hn : totTm f ≤ 1048576) (ha : GTm w lo hi va f) (hb : GTm w lo2 hi2 vb g) :
    Calls Try.prog 91 #[va, vb] w fun e w' => e = .returned (.bool (decide (f = g))) ∧ Below w.heap.size w w' := by
  have HVa := Lib.hid ha
  have HVb := Lib.hid hb
  obtain ⟨a, capa, rfl, hcapa, hma⟩ := Rws.slice ha
  obtain ⟨b, capb, rfl, hcapb, hmb⟩ := Rws.slice hb
  unfold maxLen at hma hmb
  clear ha hb
  unfold totTm at hn
  have hln : f.length ≤ 1048576 := by omega
  have Hwt : Hid (∀ i, i < f.length → wtTm (gnth tm0 f i) ≤ 1048576) := Lib.hid (fun i hi => by
    have h : wtTm (gnth tm0 f i) ≤ _ := sumTo_le (fun i => wtTm (gnth tm0 f i)) hi
    omega)
  clear hn
  by_cases hl : f.length = g.length
  · obtain ⟨n, hxn⟩ : ∃ n, n = f.length := ⟨_, rfl⟩
    rw [← hxn] at hl
    rw [← hl] at hcapb HVb ⊢
    rw [← hxn] at hcapa HVa hln ⊢
    have Hxn := Lib.hid hxn; clear hxn
    have Hyn := Lib.hid hl; clear hl
    go_enter Try.func91, Try.ntmps91
    go_wp2_with fail
    go_loopw [5] (fun si wr => ∃ k : Nat, k ≤ n ∧ si = .int .i64 k ∧ Hid (f.take k = g.take k) ∧ Below w.heap.size w wr) (fun si _ => n - (intOf si).toNat)
    case atStart => exact ⟨0, Nat.zero_le _, rfl, Lib.hid rfl, Below.refl _ _⟩
    case round =>
      obtain ⟨k, hk, rfl, heq, hbl⟩ := hrel
      by_cases hlt : k < n
      · have hkf : k < f.length := by rw [← Hxn.out]; exact hlt
        have hkg : k < g.length := by rw [← Hyn.out]; exact hlt
        obtain ⟨ba, oa, rfl, hba, g0, g1⟩ := GTm.cells HVa.out hkf
        obtain ⟨bb, ob, rfl, hbb, h0, h1⟩ := GTm.cells HVb.out hkg
        have a0 := (hbl.drew.cell (by exact hba)).trans g0
        have a1 := (hbl.drew.cell (by exact hba)).trans g1
        have c0 := (hbl.drew.cell (by exact hbb)).trans h0
        have c1 := (hbl.drew.cell (by exact hbb)).trans h1
        obtain ⟨Y, hY⟩ : ∃ Y, Y = gnth tm0 f k := ⟨_, rfl⟩
        obtain ⟨Z, hZ⟩ : ∃ Z, Z = gnth tm0 g k := ⟨_, rfl⟩
        have hwk := Hwt.out k hkf
        rw [← hY] at hwk a0 a1
        rw [← hZ] at c0 c1
        have HY := Lib.hid hY
        have HZ := Lib.hid hZ
        have hbd := hbl.drew
        clear hY hZ g0 g1 h0 h1
        have hkm : k < maxLen := by unfold maxLen; omega
        have HN : Hid (Y = Z → f.take (k + 1) = g.take (k + 1)) := Lib.hid (fun e => by rw [take_gnth tm0 f k hkf, take_gnth tm0 g k hkg, heq.out, ← HY.out, ← HZ.out, e])
        have HF : Hid (Y ≠ Z → decide (f = g) = false) := Lib.hid (fun e => decide_eq_false fun h => e (by rw [HY.out, HZ.out, h]))
        go_wp2_with fail
        refine wp_region_still_tail 8 (by kernel_rfl) (by kernel_rfl) ?_
        simp only [List.take_succ_cons, List.take_zero, List.drop_succ_cons, List.drop_zero]
        change wpStill _ _ wr.drew (fun a' => wpList _ _ _ _ a' wr.drew) _ _
        generalize wr.drew = w2 at *
        repeat still_step
        refine wpStill_nil ?_
        go_wp2_with fail
        refine (eqTme_any (lo := 0) (hi := 0) (lo2 := 0) (hi2 := 0) Y Z _ hwk).mono ?_
        by_cases e : Y = Z
        · have HN2 := Lib.hid (HN.out e)
          rw [decide_eq_true e]
          rintro e w3 ⟨rfl, hb3⟩
          clear HN HF e hbl
          go_wp2_with fail
          go_roundw
          case rel => exact ⟨k + 1, by omega, by go_num, HN2, below_trans' hbd hb3⟩
          case measure => simp [intOf]; omega
        · have HF2 := Lib.hid (HF.out e)
          rw [decide_eq_false e]
          rintro e w3 ⟨rfl, hb3⟩
          clear HN HF e hbl
          go_wp2_with fail
          go_ret
          exact ⟨by rw [HF2.out]; rfl, below_trans' hbd hb3⟩
      · obtain rfl : k = n := by omega
        have HE : Hid (decide (f = g) = true) := Lib.hid (by
          have h := heq.out
          rw [List.take_of_length_le (by rw [Hxn.out]; exact Nat.le_refl _), List.take_of_length_le (by rw [Hyn.out]; exact Nat.le_refl _)] at h
          exact decide_eq_true h)
        go_wp2_with fail
        go_ret
        exact ⟨by rw [HE.out]; rfl, hbl⟩
  · have hne : decide (f = g) = false := decide_eq_false fun e => hl (by rw [e])
    rw [hne]
    have h1 : ((f.length : Int) != (g.length : Int)) = true := by simp; omega
    go_enter Try.func91, Try.ntmps91
    go_wp2_with fail
    go_ret
    exact ⟨rfl, Below.refl _ _⟩
set_option maxRecDepth 100000 in
set_option maxHeartbeats 1600000 in
theorem eqTmS_any {lo hi lo2 hi2 : Nat} (va vb : Value) (f g : List (List Tm)) (w : World) (hn : totTmS f ≤ 1048576) (ha : GTmS w lo hi va f) (hb : GTmS w lo2 hi2 vb g) :
    Calls Try.prog 88 #[va, vb] w fun e w' => e = .returned (.bool (decide (f = g))) ∧ Below w.heap.size w w' := by
  have HVa := Lib.hid ha
  have HVb := Lib.hid hb
  obtain ⟨a, capa, rfl, hcapa, hma⟩ := Rws.slice ha
  obtain ⟨b, capb, rfl, hcapb, hmb⟩ := Rws.slice hb
  unfold maxLen at hma hmb
  clear ha hb
  unfold totTmS at hn
  have hln : f.length ≤ 1048576 := by omega
  have Hwt : Hid (∀ i, i < f.length → totTm (gnth tms0 f i) ≤ 1048576) := Lib.hid (fun i hi => by
    have h : totTm (gnth tms0 f i) ≤ _ := sumTo_le (fun i => totTm (gnth tms0 f i)) hi
    omega)
  clear hn
  by_cases hl : f.length = g.length
  · obtain ⟨n, hxn⟩ : ∃ n, n = f.length := ⟨_, rfl⟩
    rw [← hxn] at hl
    rw [← hl] at hcapb HVb ⊢
    rw [← hxn] at hcapa HVa hln ⊢
    have Hxn := Lib.hid hxn; clear hxn
    have Hyn := Lib.hid hl; clear hl
    go_enter Try.func88, Try.ntmps88
    go_wp2_with fail
    go_loopw [5] (fun si wr => ∃ k : Nat, k ≤ n ∧ si = .int .i64 k ∧ Hid (f.take k = g.take k) ∧ Below w.heap.size w wr) (fun si _ => n - (intOf si).toNat)
    case atStart => exact ⟨0, Nat.zero_le _, rfl, Lib.hid rfl, Below.refl _ _⟩
    case round =>
      obtain ⟨k, hk, rfl, heq, hbl⟩ := hrel
      by_cases hlt : k < n
      · have hkf : k < f.length := by rw [← Hxn.out]; exact hlt
        have hkg : k < g.length := by rw [← Hyn.out]; exact hlt
        obtain ⟨ba, oa, rfl, hba, ga0, gc0, g0, gG0⟩ := GTmS.cells HVa.out hkf
        obtain ⟨bb, ob, rfl, hbb, ha0, hc0, h0, hG0⟩ := GTmS.cells HVb.out hkg
        have a0 := (hbl.drew.cell (by exact hba)).trans g0
        have c0 := (hbl.drew.cell (by exact hbb)).trans h0
        obtain ⟨Y, hY⟩ : ∃ Y, Y = gnth tms0 f k := ⟨_, rfl⟩
        obtain ⟨Z, hZ⟩ : ∃ Z, Z = gnth tms0 g k := ⟨_, rfl⟩
        have hwk := Hwt.out k hkf
        rw [← hY] at hwk a0 gG0
        rw [← hZ] at c0 hG0
        have HgG0 := Lib.hid gG0
        clear gG0
        have HhG0 := Lib.hid hG0
        clear hG0
        have HY := Lib.hid hY
        have HZ := Lib.hid hZ
        have hbd := hbl.drew
        clear hY hZ g0 h0
        have hkm : k < maxLen := by unfold maxLen; omega
        have HN : Hid (Y = Z → f.take (k + 1) = g.take (k + 1)) := Lib.hid (fun e => by rw [take_gnth tms0 f k hkf, take_gnth tms0 g k hkg, heq.out, ← HY.out, ← HZ.out, e])
        have HF : Hid (Y ≠ Z → decide (f = g) = false) := Lib.hid (fun e => decide_eq_false fun h => e (by rw [HY.out, HZ.out, h]))
        go_wp2_with fail
        refine wp_region_still_tail 8 (by kernel_rfl) (by kernel_rfl) ?_
        simp only [List.take_succ_cons, List.take_zero, List.drop_succ_cons, List.drop_zero]
        change wpStill _ _ wr.drew (fun a' => wpList _ _ _ _ a' wr.drew) _ _
        generalize wr.drew = w2 at *
        repeat still_step
        refine wpStill_nil ?_
        go_wp2_with fail
        refine (eqTm_any _ _ Y Z _ hwk (HgG0.out.keep (Keep.of_below _ _ hbd)) (HhG0.out.keep (Keep.of_below _ _ hbd))).mono ?_
        by_cases e : Y = Z
        · have HN2 := Lib.hid (HN.out e)
          rw [decide_eq_true e]
          rintro e w3 ⟨rfl, hb3⟩
          clear HN HF e hbl
          go_wp2_with fail
          go_roundw
          case rel => exact ⟨k + 1, by omega, by go_num, HN2, below_trans' hbd hb3⟩
          case measure => simp [intOf]; omega
        · have HF2 := Lib.hid (HF.out e)
          rw [decide_eq_false e]
          rintro e w3 ⟨rfl, hb3⟩
          clear HN HF e hbl
          go_wp2_with fail
          go_ret
          exact ⟨by rw [HF2.out]; rfl, below_trans' hbd hb3⟩
      · obtain rfl : k = n := by omega
        have HE : Hid (decide (f = g) = true) := Lib.hid (by
          have h := heq.out
          rw [List.take_of_length_le (by rw [Hxn.out]; exact Nat.le_refl _), List.take_of_length_le (by rw [Hyn.out]; exact Nat.le_refl _)] at h
          exact decide_eq_true h)
        go_wp2_with fail
        go_ret
        exact ⟨by rw [HE.out]; rfl, hbl⟩
  · have hne : decide (f = g) = false := decide_eq_false fun e => hl (by rw [e])
    rw [hne]
    have h1 : ((f.length : Int) != (g.length : Int)) = true := by simp; omega
    go_enter Try.func88, Try.ntmps88
    go_wp2_with fail
    go_ret
    exact ⟨rfl, Below.refl _ _⟩
set_option maxRecDepth 100000 in
set_option maxHeartbeats 800000 in
theorem eqPte_any {lo hi lo2 hi2 : Nat} (a b : Pt) {sa3 : Option Addr} {sc3 : Nat} {ta3 : Option Addr} {tc3 : Nat} (w : World) (hn : wtPt a ≤ 1048576) (hs3 : GTmS w lo hi (.slice sa3 a.args.length sc3) a.args) (ht3 : GTmS w lo2 hi2 (.slice ta3 b.args.length tc3) b.args) :
    Calls Try.prog 85 #[.agg #[.int .i64 a.kind, .int .i64 a.num, .string a.name, .slice sa3 a.args.length sc3], .agg #[.int .i64 b.kind, .int .i64 b.num, .string b.name, .slice ta3 b.args.length tc3]] w fun e w' => e = .returned (.bool (decide (a = b))) ∧ Below w.heap.size w w' := by
  have hlt : ∀ x y : ByteArray, (x.toList == y.toList) = decide (x = y) := beq_txt
  unfold wtPt at hn
  by_cases c0 : a.kind = b.kind
  · by_cases c1 : a.num = b.num
    · by_cases c2 : a.name = b.name
      · by_cases c3 : a.args = b.args
        · have HF : Hid (decide (a = b) = true) := Lib.hid (by
            cases a
            cases b
            simp only [decide_eq_true_eq]
            simp_all)
          have n0 : (a.kind != b.kind) = false := by simpa using c0
          have n1 : (a.num != b.num) = false := by simpa using c1
          have n2 : (a.name.toList == b.name.toList) = true := by rw [hlt]; exact decide_eq_true c2
          rw [HF.out]
          clear HF hlt
          have C3 : Hid (decide (a.args = b.args) = true) := Lib.hid (decide_eq_true c3)
          clear c0 c1 c2 c3
          go_enter Try.func85, Try.ntmps85
          go_wp2_with fail
          refine (eqTmS_any _ _ _ _ _ (by omega) (hs3.keep (Keep.of_below _ _ (((Below.refl _ w).alloc (Nat.le_refl _) _).alloc (by simp) _))) (ht3.keep (Keep.of_below _ _ (((Below.refl _ w).alloc (Nat.le_refl _) _).alloc (by simp) _)))).mono ?_
          rw [C3.out]
          rintro e w4 ⟨rfl, hb3⟩
          go_wp2_with fail
          go_ret
          exact ⟨rfl, (((Below.refl _ w).alloc (Nat.le_refl _) _).alloc (by simp) _).trans (hb3.mono (by simp; omega))⟩
        · have HF : Hid (decide (a = b) = false) := Lib.hid (decide_eq_false fun h => c3 (by rw [h]))
          have n0 : (a.kind != b.kind) = false := by simpa using c0
          have n1 : (a.num != b.num) = false := by simpa using c1
          have n2 : (a.name.toList == b.name.toList) = true := by rw [hlt]; exact decide_eq_true c2
          rw [HF.out]
          clear HF hlt
          have C3 : Hid (decide (a.args = b.args) = false) := Lib.hid (decide_eq_false c3)
          clear c0 c1 c2 c3
          go_enter Try.func85, Try.ntmps85
          go_wp2_with fail
          refine (eqTmS_any _ _ _ _ _ (by omega) (hs3.keep (Keep.of_below _ _ (((Below.refl _ w).alloc (Nat.le_refl _) _).alloc (by simp) _))) (ht3.keep (Keep.of_below _ _ (((Below.refl _ w).alloc (Nat.le_refl _) _).alloc (by simp) _)))).mono ?_
          rw [C3.out]
          rintro e w4 ⟨rfl, hb3⟩
          go_wp2_with fail
          go_ret
          exact ⟨rfl, (((Below.refl _ w).alloc (Nat.le_refl _) _).alloc (by simp) _).trans (hb3.mono (by simp; omega))⟩
      · have HF : Hid (decide (a = b) = false) := Lib.hid (decide_eq_false fun h => c2 (by rw [h]))
        have n0 : (a.kind != b.kind) = false := by simpa using c0
        have n1 : (a.num != b.num) = false := by simpa using c1
        have n2 : (a.name.toList == b.name.toList) = false := by rw [hlt]; exact decide_eq_false c2
        rw [HF.out]
        clear HF hlt
        clear c0 c1 c2
        go_enter Try.func85, Try.ntmps85
        go_wp2_with fail
        go_ret
        exact ⟨rfl, ((Below.refl _ w).alloc (Nat.le_refl _) _).alloc (by simp) _⟩
    · have HF : Hid (decide (a = b) = false) := Lib.hid (decide_eq_false fun h => c1 (by rw [h]))
      have n0 : (a.kind != b.kind) = false := by simpa using c0
      have n1 : (a.num != b.num) = true := by simpa using c1
      rw [HF.out]
      clear HF hlt
      clear c0 c1
      go_enter Try.func85, Try.ntmps85
      go_wp2_with fail
      go_ret
      exact ⟨rfl, ((Below.refl _ w).alloc (Nat.le_refl _) _).alloc (by simp) _⟩
  · have HF : Hid (decide (a = b) = false) := Lib.hid (decide_eq_false fun h => c0 (by rw [h]))
    have n0 : (a.kind != b.kind) = true := by simpa using c0
    rw [HF.out]
    clear HF hlt
    clear c0
    go_enter Try.func85, Try.ntmps85
    go_wp2_with fail
    go_ret
    exact ⟨rfl, ((Below.refl _ w).alloc (Nat.le_refl _) _).alloc (by simp) _⟩
set_option maxRecDepth 100000 in
set_option maxHeartbeats 1600000 in
theorem eqPt_any {lo hi lo2 hi2 : Nat} (va vb : Value) (f g : List Pt) (w : World) (hn : totPt f ≤ 1048576) (ha : GPt w lo hi va f) (hb : GPt w lo2 hi2 vb g) :
    Calls Try.prog 82 #[va, vb] w fun e w' => e = .returned (.bool (decide (f = g))) ∧ Below w.heap.size w w' := by
  have HVa := Lib.hid ha
  have HVb := Lib.hid hb
  obtain ⟨a, capa, rfl, hcapa, hma⟩ := Rws.slice ha
  obtain ⟨b, capb, rfl, hcapb, hmb⟩ := Rws.slice hb
  unfold maxLen at hma hmb
  clear ha hb
  unfold totPt at hn
  have hln : f.length ≤ 1048576 := by omega
  have Hwt : Hid (∀ i, i < f.length → wtPt (gnth pt0 f i) ≤ 1048576) := Lib.hid (fun i hi => by
    have h : wtPt (gnth pt0 f i) ≤ _ := sumTo_le (fun i => wtPt (gnth pt0 f i)) hi
    omega)
  clear hn
  by_cases hl : f.length = g.length
  · obtain ⟨n, hxn⟩ : ∃ n, n = f.length := ⟨_, rfl⟩
    rw [← hxn] at hl
    rw [← hl] at hcapb HVb ⊢
    rw [← hxn] at hcapa HVa hln ⊢
    have Hxn := Lib.hid hxn; clear hxn
    have Hyn := Lib.hid hl; clear hl
    go_enter Try.func82, Try.ntmps82
    go_wp2_with fail
    go_loopw [5] (fun si wr => ∃ k : Nat, k ≤ n ∧ si = .int .i64 k ∧ Hid (f.take k = g.take k) ∧ Below w.heap.size w wr) (fun si _ => n - (intOf si).toNat)
    case atStart => exact ⟨0, Nat.zero_le _, rfl, Lib.hid rfl, Below.refl _ _⟩
    case round =>
      obtain ⟨k, hk, rfl, heq, hbl⟩ := hrel
      by_cases hlt : k < n
      · have hkf : k < f.length := by rw [← Hxn.out]; exact hlt
        have hkg : k < g.length := by rw [← Hyn.out]; exact hlt
        obtain ⟨ba, oa, rfl, hba, g0, g1, g2, ga3, gc3, g3, gG3⟩ := GPt.cells HVa.out hkf
        obtain ⟨bb, ob, rfl, hbb, h0, h1, h2, ha3, hc3, h3, hG3⟩ := GPt.cells HVb.out hkg
        have a0 := (hbl.drew.cell (by exact hba)).trans g0
        have a1 := (hbl.drew.cell (by exact hba)).trans g1
        have a2 := (hbl.drew.cell (by exact hba)).trans g2
        have a3 := (hbl.drew.cell (by exact hba)).trans g3
        have c0 := (hbl.drew.cell (by exact hbb)).trans h0
        have c1 := (hbl.drew.cell (by exact hbb)).trans h1
        have c2 := (hbl.drew.cell (by exact hbb)).trans h2
        have c3 := (hbl.drew.cell (by exact hbb)).trans h3
        obtain ⟨Y, hY⟩ : ∃ Y, Y = gnth pt0 f k := ⟨_, rfl⟩
        obtain ⟨Z, hZ⟩ : ∃ Z, Z = gnth pt0 g k := ⟨_, rfl⟩
        have hwk := Hwt.out k hkf
        rw [← hY] at hwk a0 a1 a2 a3 gG3
        rw [← hZ] at c0 c1 c2 c3 hG3
        have HgG3 := Lib.hid gG3
        clear gG3
        have HhG3 := Lib.hid hG3
        clear hG3
        have HY := Lib.hid hY
        have HZ := Lib.hid hZ
        have hbd := hbl.drew
        clear hY hZ g0 g1 g2 g3 h0 h1 h2 h3
        have hkm : k < maxLen := by unfold maxLen; omega
        have HN : Hid (Y = Z → f.take (k + 1) = g.take (k + 1)) := Lib.hid (fun e => by rw [take_gnth pt0 f k hkf, take_gnth pt0 g k hkg, heq.out, ← HY.out, ← HZ.out, e])
        have HF : Hid (Y ≠ Z → decide (f = g) = false) := Lib.hid (fun e => decide_eq_false fun h => e (by rw [HY.out, HZ.out, h]))
        go_wp2_with fail
        refine wp_region_still_tail 8 (by kernel_rfl) (by kernel_rfl) ?_
        simp only [List.take_succ_cons, List.take_zero, List.drop_succ_cons, List.drop_zero]
        change wpStill _ _ wr.drew (fun a' => wpList _ _ _ _ a' wr.drew) _ _
        generalize wr.drew = w2 at *
        repeat still_step
        refine wpStill_nil ?_
        go_wp2_with fail
        refine (eqPte_any Y Z _ hwk (HgG3.out.keep (Keep.of_below _ _ hbd)) (HhG3.out.keep (Keep.of_below _ _ hbd))).mono ?_
        by_cases e : Y = Z
        · have HN2 := Lib.hid (HN.out e)
          rw [decide_eq_true e]
          rintro e w3 ⟨rfl, hb3⟩
          clear HN HF e hbl
          go_wp2_with fail
          go_roundw
          case rel => exact ⟨k + 1, by omega, by go_num, HN2, below_trans' hbd hb3⟩
          case measure => simp [intOf]; omega
        · have HF2 := Lib.hid (HF.out e)
          rw [decide_eq_false e]
          rintro e w3 ⟨rfl, hb3⟩
          clear HN HF e hbl
          go_wp2_with fail
          go_ret
          exact ⟨by rw [HF2.out]; rfl, below_trans' hbd hb3⟩
      · obtain rfl : k = n := by omega
        have HE : Hid (decide (f = g) = true) := Lib.hid (by
          have h := heq.out
          rw [List.take_of_length_le (by rw [Hxn.out]; exact Nat.le_refl _), List.take_of_length_le (by rw [Hyn.out]; exact Nat.le_refl _)] at h
          exact decide_eq_true h)
        go_wp2_with fail
        go_ret
        exact ⟨by rw [HE.out]; rfl, hbl⟩
  · have hne : decide (f = g) = false := decide_eq_false fun e => hl (by rw [e])
    rw [hne]
    have h1 : ((f.length : Int) != (g.length : Int)) = true := by simp; omega
    go_enter Try.func82, Try.ntmps82
    go_wp2_with fail
    go_ret
    exact ⟨rfl, Below.refl _ _⟩
set_option maxRecDepth 100000 in
set_option maxHeartbeats 800000 in
theorem eqDfe_any {lo hi lo2 hi2 : Nat} (a b : Df) {sa2 : Option Addr} {sc2 : Nat} {ta2 : Option Addr} {tc2 : Nat} (w : World) (hn : wtDf a ≤ 1048576) (hs2 : GPt w lo hi (.slice sa2 a.body.length sc2) a.body) (ht2 : GPt w lo2 hi2 (.slice ta2 b.body.length tc2) b.body) :
    Calls Try.prog 74 #[.agg #[.string a.name, .int .i64 a.par, .slice sa2 a.body.length sc2], .agg #[.string b.name, .int .i64 b.par, .slice ta2 b.body.length tc2]] w fun e w' => e = .returned (.bool (decide (a = b))) ∧ Below w.heap.size w w' := by
  have hlt : ∀ x y : ByteArray, (x.toList == y.toList) = decide (x = y) := beq_txt
  unfold wtDf at hn
  by_cases c0 : a.name = b.name
  · by_cases c1 : a.par = b.par
    · by_cases c2 : a.body = b.body
      · have HF : Hid (decide (a = b) = true) := Lib.hid (by
          cases a
          cases b
          simp only [decide_eq_true_eq]
          simp_all)
        have n0 : (a.name.toList == b.name.toList) = true := by rw [hlt]; exact decide_eq_true c0
        have n1 : (a.par != b.par) = false := by simpa using c1
        rw [HF.out]
        clear HF hlt
        have C2 : Hid (decide (a.body = b.body) = true) := Lib.hid (decide_eq_true c2)
        clear c0 c1 c2
        go_enter Try.func74, Try.ntmps74
        go_wp2_with fail
        refine (eqPt_any _ _ _ _ _ (by omega) (hs2.keep (Keep.of_below _ _ (((Below.refl _ w).alloc (Nat.le_refl _) _).alloc (by simp) _))) (ht2.keep (Keep.of_below _ _ (((Below.refl _ w).alloc (Nat.le_refl _) _).alloc (by simp) _)))).mono ?_
        rw [C2.out]
        rintro e w3 ⟨rfl, hb2⟩
        go_wp2_with fail
        go_ret
        exact ⟨rfl, (((Below.refl _ w).alloc (Nat.le_refl _) _).alloc (by simp) _).trans (hb2.mono (by simp; omega))⟩
      · have HF : Hid (decide (a = b) = false) := Lib.hid (decide_eq_false fun h => c2 (by rw [h]))
        have n0 : (a.name.toList == b.name.toList) = true := by rw [hlt]; exact decide_eq_true c0
        have n1 : (a.par != b.par) = false := by simpa using c1
        rw [HF.out]
        clear HF hlt
        have C2 : Hid (decide (a.body = b.body) = false) := Lib.hid (decide_eq_false c2)
        clear c0 c1 c2
        go_enter Try.func74, Try.ntmps74
        go_wp2_with fail
        refine (eqPt_any _ _ _ _ _ (by omega) (hs2.keep (Keep.of_below _ _ (((Below.refl _ w).alloc (Nat.le_refl _) _).alloc (by simp) _))) (ht2.keep (Keep.of_below _ _ (((Below.refl _ w).alloc (Nat.le_refl _) _).alloc (by simp) _)))).mono ?_
        rw [C2.out]
        rintro e w3 ⟨rfl, hb2⟩
        go_wp2_with fail
        go_ret
        exact ⟨rfl, (((Below.refl _ w).alloc (Nat.le_refl _) _).alloc (by simp) _).trans (hb2.mono (by simp; omega))⟩
    · have HF : Hid (decide (a = b) = false) := Lib.hid (decide_eq_false fun h => c1 (by rw [h]))
      have n0 : (a.name.toList == b.name.toList) = true := by rw [hlt]; exact decide_eq_true c0
      have n1 : (a.par != b.par) = true := by simpa using c1
      rw [HF.out]
      clear HF hlt
      clear c0 c1
      go_enter Try.func74, Try.ntmps74
      go_wp2_with fail
      go_ret
      exact ⟨rfl, ((Below.refl _ w).alloc (Nat.le_refl _) _).alloc (by simp) _⟩
  · have HF : Hid (decide (a = b) = false) := Lib.hid (decide_eq_false fun h => c0 (by rw [h]))
    have n0 : (a.name.toList == b.name.toList) = false := by rw [hlt]; exact decide_eq_false c0
    rw [HF.out]
    clear HF hlt
    clear c0
    go_enter Try.func74, Try.ntmps74
    go_wp2_with fail
    go_ret
    exact ⟨rfl, ((Below.refl _ w).alloc (Nat.le_refl _) _).alloc (by simp) _⟩
set_option maxRecDepth 100000 in
set_option maxHeartbeats 1600000 in
theorem eqDf_any {lo hi lo2 hi2 : Nat} (va vb : Value) (f g : List Df) (w : World) (hn : totDf f ≤ 1048576) (ha : GDf w lo hi va f) (hb : GDf w lo2 hi2 vb g) :
    Calls Try.prog 50 #[va, vb] w fun e w' => e = .returned (.bool (decide (f = g))) ∧ Below w.heap.size w w' := by
  have HVa := Lib.hid ha
  have HVb := Lib.hid hb
  obtain ⟨a, capa, rfl, hcapa, hma⟩ := Rws.slice ha
  obtain ⟨b, capb, rfl, hcapb, hmb⟩ := Rws.slice hb
  unfold maxLen at hma hmb
  clear ha hb
  unfold totDf at hn
  have hln : f.length ≤ 1048576 := by omega
  have Hwt : Hid (∀ i, i < f.length → wtDf (gnth df0 f i) ≤ 1048576) := Lib.hid (fun i hi => by
    have h : wtDf (gnth df0 f i) ≤ _ := sumTo_le (fun i => wtDf (gnth df0 f i)) hi
    omega)
  clear hn
  by_cases hl : f.length = g.length
  · obtain ⟨n, hxn⟩ : ∃ n, n = f.length := ⟨_, rfl⟩
    rw [← hxn] at hl
    rw [← hl] at hcapb HVb ⊢
    rw [← hxn] at hcapa HVa hln ⊢
    have Hxn := Lib.hid hxn; clear hxn
    have Hyn := Lib.hid hl; clear hl
    go_enter Try.func50, Try.ntmps50
    go_wp2_with fail
    go_loopw [5] (fun si wr => ∃ k : Nat, k ≤ n ∧ si = .int .i64 k ∧ Hid (f.take k = g.take k) ∧ Below w.heap.size w wr) (fun si _ => n - (intOf si).toNat)
    case atStart => exact ⟨0, Nat.zero_le _, rfl, Lib.hid rfl, Below.refl _ _⟩
    case round =>
      obtain ⟨k, hk, rfl, heq, hbl⟩ := hrel
      by_cases hlt : k < n
      · have hkf : k < f.length := by rw [← Hxn.out]; exact hlt
        have hkg : k < g.length := by rw [← Hyn.out]; exact hlt
        obtain ⟨ba, oa, rfl, hba, g0, g1, ga2, gc2, g2, gG2⟩ := GDf.cells HVa.out hkf
        obtain ⟨bb, ob, rfl, hbb, h0, h1, ha2, hc2, h2, hG2⟩ := GDf.cells HVb.out hkg
        have a0 := (hbl.drew.cell (by exact hba)).trans g0
        have a1 := (hbl.drew.cell (by exact hba)).trans g1
        have a2 := (hbl.drew.cell (by exact hba)).trans g2
        have c0 := (hbl.drew.cell (by exact hbb)).trans h0
        have c1 := (hbl.drew.cell (by exact hbb)).trans h1
        have c2 := (hbl.drew.cell (by exact hbb)).trans h2
        obtain ⟨Y, hY⟩ : ∃ Y, Y = gnth df0 f k := ⟨_, rfl⟩
        obtain ⟨Z, hZ⟩ : ∃ Z, Z = gnth df0 g k := ⟨_, rfl⟩
        have hwk := Hwt.out k hkf
        rw [← hY] at hwk a0 a1 a2 gG2
        rw [← hZ] at c0 c1 c2 hG2
        have HgG2 := Lib.hid gG2
        clear gG2
        have HhG2 := Lib.hid hG2
        clear hG2
        have HY := Lib.hid hY
        have HZ := Lib.hid hZ
        have hbd := hbl.drew
        clear hY hZ g0 g1 g2 h0 h1 h2
        have hkm : k < maxLen := by unfold maxLen; omega
        have HN : Hid (Y = Z → f.take (k + 1) = g.take (k + 1)) := Lib.hid (fun e => by rw [take_gnth df0 f k hkf, take_gnth df0 g k hkg, heq.out, ← HY.out, ← HZ.out, e])
        have HF : Hid (Y ≠ Z → decide (f = g) = false) := Lib.hid (fun e => decide_eq_false fun h => e (by rw [HY.out, HZ.out, h]))
        go_wp2_with fail
        refine wp_region_still_tail 8 (by kernel_rfl) (by kernel_rfl) ?_
        simp only [List.take_succ_cons, List.take_zero, List.drop_succ_cons, List.drop_zero]
        change wpStill _ _ wr.drew (fun a' => wpList _ _ _ _ a' wr.drew) _ _
        generalize wr.drew = w2 at *
        repeat still_step
        refine wpStill_nil ?_
        go_wp2_with fail
        refine (eqDfe_any Y Z _ hwk (HgG2.out.keep (Keep.of_below _ _ hbd)) (HhG2.out.keep (Keep.of_below _ _ hbd))).mono ?_
        by_cases e : Y = Z
        · have HN2 := Lib.hid (HN.out e)
          rw [decide_eq_true e]
          rintro e w3 ⟨rfl, hb3⟩
          clear HN HF e hbl
          go_wp2_with fail
          go_roundw
          case rel => exact ⟨k + 1, by omega, by go_num, HN2, below_trans' hbd hb3⟩
          case measure => simp [intOf]; omega
        · have HF2 := Lib.hid (HF.out e)
          rw [decide_eq_false e]
          rintro e w3 ⟨rfl, hb3⟩
          clear HN HF e hbl
          go_wp2_with fail
          go_ret
          exact ⟨by rw [HF2.out]; rfl, below_trans' hbd hb3⟩
      · obtain rfl : k = n := by omega
        have HE : Hid (decide (f = g) = true) := Lib.hid (by
          have h := heq.out
          rw [List.take_of_length_le (by rw [Hxn.out]; exact Nat.le_refl _), List.take_of_length_le (by rw [Hyn.out]; exact Nat.le_refl _)] at h
          exact decide_eq_true h)
        go_wp2_with fail
        go_ret
        exact ⟨by rw [HE.out]; rfl, hbl⟩
  · have hne : decide (f = g) = false := decide_eq_false fun e => hl (by rw [e])
    rw [hne]
    have h1 : ((f.length : Int) != (g.length : Int)) = true := by simp; omega
    go_enter Try.func50, Try.ntmps50
    go_wp2_with fail
    go_ret
    exact ⟨rfl, Below.refl _ _⟩
set_option maxRecDepth 100000 in
set_option maxHeartbeats 800000 in
theorem eqCpe_any {lo hi lo2 hi2 : Nat} (a b : Cp) {sa1 : Option Addr} {sc1 : Nat} {ta1 : Option Addr} {tc1 : Nat} (w : World) (hn : wtCp a ≤ 1048576) (hs1 : GI w lo hi (.slice sa1 a.vals.length sc1) a.vals) (ht1 : GI w lo2 hi2 (.slice ta1 b.vals.length tc1) b.vals) :
    Calls Try.prog 75 #[.agg #[.int .i64 a.dfn, .slice sa1 a.vals.length sc1], .agg #[.int .i64 b.dfn, .slice ta1 b.vals.length tc1]] w fun e w' => e = .returned (.bool (decide (a = b))) ∧ Below w.heap.size w w' := by
  have hlt : ∀ x y : ByteArray, (x.toList == y.toList) = decide (x = y) := beq_txt
  unfold wtCp at hn
  by_cases c0 : a.dfn = b.dfn
  · by_cases c1 : a.vals = b.vals
    · have HF : Hid (decide (a = b) = true) := Lib.hid (by
        cases a
        cases b
        simp only [decide_eq_true_eq]
        simp_all)
      have n0 : (a.dfn != b.dfn) = false := by simpa using c0
      rw [HF.out]
      clear HF hlt
      have C1 : Hid (decide (a.vals = b.vals) = true) := Lib.hid (decide_eq_true c1)
      clear c0 c1
      go_enter Try.func75, Try.ntmps75
      go_wp2_with fail
      refine (eqI_any _ _ _ _ _ (by omega) (hs1.keep (Keep.of_below _ _ (((Below.refl _ w).alloc (Nat.le_refl _) _).alloc (by simp) _))) (ht1.keep (Keep.of_below _ _ (((Below.refl _ w).alloc (Nat.le_refl _) _).alloc (by simp) _)))).mono ?_
      rw [C1.out]
      rintro e w2 ⟨rfl, hb1⟩
      go_wp2_with fail
      go_ret
      exact ⟨rfl, (((Below.refl _ w).alloc (Nat.le_refl _) _).alloc (by simp) _).trans (hb1.mono (by simp; omega))⟩
    · have HF : Hid (decide (a = b) = false) := Lib.hid (decide_eq_false fun h => c1 (by rw [h]))
      have n0 : (a.dfn != b.dfn) = false := by simpa using c0
      rw [HF.out]
      clear HF hlt
      have C1 : Hid (decide (a.vals = b.vals) = false) := Lib.hid (decide_eq_false c1)
      clear c0 c1
      go_enter Try.func75, Try.ntmps75
      go_wp2_with fail
      refine (eqI_any _ _ _ _ _ (by omega) (hs1.keep (Keep.of_below _ _ (((Below.refl _ w).alloc (Nat.le_refl _) _).alloc (by simp) _))) (ht1.keep (Keep.of_below _ _ (((Below.refl _ w).alloc (Nat.le_refl _) _).alloc (by simp) _)))).mono ?_
      rw [C1.out]
      rintro e w2 ⟨rfl, hb1⟩
      go_wp2_with fail
      go_ret
      exact ⟨rfl, (((Below.refl _ w).alloc (Nat.le_refl _) _).alloc (by simp) _).trans (hb1.mono (by simp; omega))⟩
  · have HF : Hid (decide (a = b) = false) := Lib.hid (decide_eq_false fun h => c0 (by rw [h]))
    have n0 : (a.dfn != b.dfn) = true := by simpa using c0
    rw [HF.out]
    clear HF hlt
    clear c0
    go_enter Try.func75, Try.ntmps75
    go_wp2_with fail
    go_ret
    exact ⟨rfl, ((Below.refl _ w).alloc (Nat.le_refl _) _).alloc (by simp) _⟩
set_option maxRecDepth 100000 in
set_option maxHeartbeats 1600000 in
theorem eqCp_any {lo hi lo2 hi2 : Nat} (va vb : Value) (f g : List Cp) (w : World) (hn : totCp f ≤ 1048576) (ha : GCp w lo hi va f) (hb : GCp w lo2 hi2 vb g) :
    Calls Try.prog 51 #[va, vb] w fun e w' => e = .returned (.bool (decide (f = g))) ∧ Below w.heap.size w w' := by
  have HVa := Lib.hid ha
  have HVb := Lib.hid hb
  obtain ⟨a, capa, rfl, hcapa, hma⟩ := Rws.slice ha
  obtain ⟨b, capb, rfl, hcapb, hmb⟩ := Rws.slice hb
  unfold maxLen at hma hmb
  clear ha hb
  unfold totCp at hn
  have hln : f.length ≤ 1048576 := by omega
  have Hwt : Hid (∀ i, i < f.length → wtCp (gnth cp0 f i) ≤ 1048576) := Lib.hid (fun i hi => by
    have h : wtCp (gnth cp0 f i) ≤ _ := sumTo_le (fun i => wtCp (gnth cp0 f i)) hi
    omega)
  clear hn
  by_cases hl : f.length = g.length
  · obtain ⟨n, hxn⟩ : ∃ n, n = f.length := ⟨_, rfl⟩
    rw [← hxn] at hl
    rw [← hl] at hcapb HVb ⊢
    rw [← hxn] at hcapa HVa hln ⊢
    have Hxn := Lib.hid hxn; clear hxn
    have Hyn := Lib.hid hl; clear hl
    go_enter Try.func51, Try.ntmps51
    go_wp2_with fail
    go_loopw [5] (fun si wr => ∃ k : Nat, k ≤ n ∧ si = .int .i64 k ∧ Hid (f.take k = g.take k) ∧ Below w.heap.size w wr) (fun si _ => n - (intOf si).toNat)
    case atStart => exact ⟨0, Nat.zero_le _, rfl, Lib.hid rfl, Below.refl _ _⟩
    case round =>
      obtain ⟨k, hk, rfl, heq, hbl⟩ := hrel
      by_cases hlt : k < n
      · have hkf : k < f.length := by rw [← Hxn.out]; exact hlt
        have hkg : k < g.length := by rw [← Hyn.out]; exact hlt
        obtain ⟨ba, oa, rfl, hba, g0, ga1, gc1, g1, gG1⟩ := GCp.cells HVa.out hkf
        obtain ⟨bb, ob, rfl, hbb, h0, ha1, hc1, h1, hG1⟩ := GCp.cells HVb.out hkg
        have a0 := (hbl.drew.cell (by exact hba)).trans g0
        have a1 := (hbl.drew.cell (by exact hba)).trans g1
        have c0 := (hbl.drew.cell (by exact hbb)).trans h0
        have c1 := (hbl.drew.cell (by exact hbb)).trans h1
        obtain ⟨Y, hY⟩ : ∃ Y, Y = gnth cp0 f k := ⟨_, rfl⟩
        obtain ⟨Z, hZ⟩ : ∃ Z, Z = gnth cp0 g k := ⟨_, rfl⟩
        have hwk := Hwt.out k hkf
        rw [← hY] at hwk a0 a1 gG1
        rw [← hZ] at c0 c1 hG1
        have HgG1 := Lib.hid gG1
        clear gG1
        have HhG1 := Lib.hid hG1
        clear hG1
        have HY := Lib.hid hY
        have HZ := Lib.hid hZ
        have hbd := hbl.drew
        clear hY hZ g0 g1 h0 h1
        have hkm : k < maxLen := by unfold maxLen; omega
        have HN : Hid (Y = Z → f.take (k + 1) = g.take (k + 1)) := Lib.hid (fun e => by rw [take_gnth cp0 f k hkf, take_gnth cp0 g k hkg, heq.out, ← HY.out, ← HZ.out, e])
        have HF : Hid (Y ≠ Z → decide (f = g) = false) := Lib.hid (fun e => decide_eq_false fun h => e (by rw [HY.out, HZ.out, h]))
        go_wp2_with fail
        refine wp_region_still_tail 8 (by kernel_rfl) (by kernel_rfl) ?_
        simp only [List.take_succ_cons, List.take_zero, List.drop_succ_cons, List.drop_zero]
        change wpStill _ _ wr.drew (fun a' => wpList _ _ _ _ a' wr.drew) _ _
        generalize wr.drew = w2 at *
        repeat still_step
        refine wpStill_nil ?_
        go_wp2_with fail
        refine (eqCpe_any Y Z _ hwk (HgG1.out.keep (Keep.of_below _ _ hbd)) (HhG1.out.keep (Keep.of_below _ _ hbd))).mono ?_
        by_cases e : Y = Z
        · have HN2 := Lib.hid (HN.out e)
          rw [decide_eq_true e]
          rintro e w3 ⟨rfl, hb3⟩
          clear HN HF e hbl
          go_wp2_with fail
          go_roundw
          case rel => exact ⟨k + 1, by omega, by go_num, HN2, below_trans' hbd hb3⟩
          case measure => simp [intOf]; omega
        · have HF2 := Lib.hid (HF.out e)
          rw [decide_eq_false e]
          rintro e w3 ⟨rfl, hb3⟩
          clear HN HF e hbl
          go_wp2_with fail
          go_ret
          exact ⟨by rw [HF2.out]; rfl, below_trans' hbd hb3⟩
      · obtain rfl : k = n := by omega
        have HE : Hid (decide (f = g) = true) := Lib.hid (by
          have h := heq.out
          rw [List.take_of_length_le (by rw [Hxn.out]; exact Nat.le_refl _), List.take_of_length_le (by rw [Hyn.out]; exact Nat.le_refl _)] at h
          exact decide_eq_true h)
        go_wp2_with fail
        go_ret
        exact ⟨by rw [HE.out]; rfl, hbl⟩
  · have hne : decide (f = g) = false := decide_eq_false fun e => hl (by rw [e])
    rw [hne]
    have h1 : ((f.length : Int) != (g.length : Int)) = true := by simp; omega
    go_enter Try.func51, Try.ntmps51
    go_wp2_with fail
    go_ret
    exact ⟨rfl, Below.refl _ _⟩
set_option maxRecDepth 100000 in
set_option maxHeartbeats 800000 in
theorem eqMte_any {lo hi lo2 hi2 : Nat} (a b : Mt) (w : World) (hn : wtMt a ≤ 1048576) :
    Calls Try.prog 76 #[.agg #[.string a.left, .string a.right, .string a.res], .agg #[.string b.left, .string b.right, .string b.res]] w fun e w' => e = .returned (.bool (decide (a = b))) ∧ Below w.heap.size w w' := by
  have hlt : ∀ x y : ByteArray, (x.toList == y.toList) = decide (x = y) := beq_txt
  unfold wtMt at hn
  by_cases c0 : a.left = b.left
  · by_cases c1 : a.right = b.right
    · by_cases c2 : a.res = b.res
      · have HF : Hid (decide (a = b) = true) := Lib.hid (by
          cases a
          cases b
          simp only [decide_eq_true_eq]
          simp_all)
        have n0 : (a.left.toList == b.left.toList) = true := by rw [hlt]; exact decide_eq_true c0
        have n1 : (a.right.toList == b.right.toList) = true := by rw [hlt]; exact decide_eq_true c1
        have n2 : (a.res.toList == b.res.toList) = true := by rw [hlt]; exact decide_eq_true c2
        rw [HF.out]
        clear HF hlt
        clear c0 c1 c2
        go_enter Try.func76, Try.ntmps76
        go_wp2_with fail
        go_ret
        exact ⟨rfl, ((Below.refl _ w).alloc (Nat.le_refl _) _).alloc (by simp) _⟩
      · have HF : Hid (decide (a = b) = false) := Lib.hid (decide_eq_false fun h => c2 (by rw [h]))
        have n0 : (a.left.toList == b.left.toList) = true := by rw [hlt]; exact decide_eq_true c0
        have n1 : (a.right.toList == b.right.toList) = true := by rw [hlt]; exact decide_eq_true c1
        have n2 : (a.res.toList == b.res.toList) = false := by rw [hlt]; exact decide_eq_false c2
        rw [HF.out]
        clear HF hlt
        clear c0 c1 c2
        go_enter Try.func76, Try.ntmps76
        go_wp2_with fail
        go_ret
        exact ⟨rfl, ((Below.refl _ w).alloc (Nat.le_refl _) _).alloc (by simp) _⟩
    · have HF : Hid (decide (a = b) = false) := Lib.hid (decide_eq_false fun h => c1 (by rw [h]))
      have n0 : (a.left.toList == b.left.toList) = true := by rw [hlt]; exact decide_eq_true c0
      have n1 : (a.right.toList == b.right.toList) = false := by rw [hlt]; exact decide_eq_false c1
      rw [HF.out]
      clear HF hlt
      clear c0 c1
      go_enter Try.func76, Try.ntmps76
      go_wp2_with fail
      go_ret
      exact ⟨rfl, ((Below.refl _ w).alloc (Nat.le_refl _) _).alloc (by simp) _⟩
  · have HF : Hid (decide (a = b) = false) := Lib.hid (decide_eq_false fun h => c0 (by rw [h]))
    have n0 : (a.left.toList == b.left.toList) = false := by rw [hlt]; exact decide_eq_false c0
    rw [HF.out]
    clear HF hlt
    clear c0
    go_enter Try.func76, Try.ntmps76
    go_wp2_with fail
    go_ret
    exact ⟨rfl, ((Below.refl _ w).alloc (Nat.le_refl _) _).alloc (by simp) _⟩
set_option maxRecDepth 100000 in
set_option maxHeartbeats 1600000 in
theorem eqMt_any {lo hi lo2 hi2 : Nat} (va vb : Value) (f g : List Mt) (w : World) (hn : totMt f ≤ 1048576) (ha : GMt w lo hi va f) (hb : GMt w lo2 hi2 vb g) :
    Calls Try.prog 52 #[va, vb] w fun e w' => e = .returned (.bool (decide (f = g))) ∧ Below w.heap.size w w' := by
  have HVa := Lib.hid ha
  have HVb := Lib.hid hb
  obtain ⟨a, capa, rfl, hcapa, hma⟩ := Rws.slice ha
  obtain ⟨b, capb, rfl, hcapb, hmb⟩ := Rws.slice hb
  unfold maxLen at hma hmb
  clear ha hb
  unfold totMt at hn
  have hln : f.length ≤ 1048576 := by omega
  have Hwt : Hid (∀ i, i < f.length → wtMt (gnth mt0 f i) ≤ 1048576) := Lib.hid (fun i hi => by
    have h : wtMt (gnth mt0 f i) ≤ _ := sumTo_le (fun i => wtMt (gnth mt0 f i)) hi
    omega)
  clear hn
  by_cases hl : f.length = g.length
  · obtain ⟨n, hxn⟩ : ∃ n, n = f.length := ⟨_, rfl⟩
    rw [← hxn] at hl
    rw [← hl] at hcapb HVb ⊢
    rw [← hxn] at hcapa HVa hln ⊢
    have Hxn := Lib.hid hxn; clear hxn
    have Hyn := Lib.hid hl; clear hl
    go_enter Try.func52, Try.ntmps52
    go_wp2_with fail
    go_loopw [5] (fun si wr => ∃ k : Nat, k ≤ n ∧ si = .int .i64 k ∧ Hid (f.take k = g.take k) ∧ Below w.heap.size w wr) (fun si _ => n - (intOf si).toNat)
    case atStart => exact ⟨0, Nat.zero_le _, rfl, Lib.hid rfl, Below.refl _ _⟩
    case round =>
      obtain ⟨k, hk, rfl, heq, hbl⟩ := hrel
      by_cases hlt : k < n
      · have hkf : k < f.length := by rw [← Hxn.out]; exact hlt
        have hkg : k < g.length := by rw [← Hyn.out]; exact hlt
        obtain ⟨ba, oa, rfl, hba, g0, g1, g2⟩ := GMt.cells HVa.out hkf
        obtain ⟨bb, ob, rfl, hbb, h0, h1, h2⟩ := GMt.cells HVb.out hkg
        have a0 := (hbl.drew.cell (by exact hba)).trans g0
        have a1 := (hbl.drew.cell (by exact hba)).trans g1
        have a2 := (hbl.drew.cell (by exact hba)).trans g2
        have c0 := (hbl.drew.cell (by exact hbb)).trans h0
        have c1 := (hbl.drew.cell (by exact hbb)).trans h1
        have c2 := (hbl.drew.cell (by exact hbb)).trans h2
        obtain ⟨Y, hY⟩ : ∃ Y, Y = gnth mt0 f k := ⟨_, rfl⟩
        obtain ⟨Z, hZ⟩ : ∃ Z, Z = gnth mt0 g k := ⟨_, rfl⟩
        have hwk := Hwt.out k hkf
        rw [← hY] at hwk a0 a1 a2
        rw [← hZ] at c0 c1 c2
        have HY := Lib.hid hY
        have HZ := Lib.hid hZ
        have hbd := hbl.drew
        clear hY hZ g0 g1 g2 h0 h1 h2
        have hkm : k < maxLen := by unfold maxLen; omega
        have HN : Hid (Y = Z → f.take (k + 1) = g.take (k + 1)) := Lib.hid (fun e => by rw [take_gnth mt0 f k hkf, take_gnth mt0 g k hkg, heq.out, ← HY.out, ← HZ.out, e])
        have HF : Hid (Y ≠ Z → decide (f = g) = false) := Lib.hid (fun e => decide_eq_false fun h => e (by rw [HY.out, HZ.out, h]))
        go_wp2_with fail
        refine wp_region_still_tail 8 (by kernel_rfl) (by kernel_rfl) ?_
        simp only [List.take_succ_cons, List.take_zero, List.drop_succ_cons, List.drop_zero]
        change wpStill _ _ wr.drew (fun a' => wpList _ _ _ _ a' wr.drew) _ _
        generalize wr.drew = w2 at *
        repeat still_step
        refine wpStill_nil ?_
        go_wp2_with fail
        refine (eqMte_any (lo := 0) (hi := 0) (lo2 := 0) (hi2 := 0) Y Z _ hwk).mono ?_
        by_cases e : Y = Z
        · have HN2 := Lib.hid (HN.out e)
          rw [decide_eq_true e]
          rintro e w3 ⟨rfl, hb3⟩
          clear HN HF e hbl
          go_wp2_with fail
          go_roundw
          case rel => exact ⟨k + 1, by omega, by go_num, HN2, below_trans' hbd hb3⟩
          case measure => simp [intOf]; omega
        · have HF2 := Lib.hid (HF.out e)
          rw [decide_eq_false e]
          rintro e w3 ⟨rfl, hb3⟩
          clear HN HF e hbl
          go_wp2_with fail
          go_ret
          exact ⟨by rw [HF2.out]; rfl, below_trans' hbd hb3⟩
      · obtain rfl : k = n := by omega
        have HE : Hid (decide (f = g) = true) := Lib.hid (by
          have h := heq.out
          rw [List.take_of_length_le (by rw [Hxn.out]; exact Nat.le_refl _), List.take_of_length_le (by rw [Hyn.out]; exact Nat.le_refl _)] at h
          exact decide_eq_true h)
        go_wp2_with fail
        go_ret
        exact ⟨by rw [HE.out]; rfl, hbl⟩
  · have hne : decide (f = g) = false := decide_eq_false fun e => hl (by rw [e])
    rw [hne]
    have h1 : ((f.length : Int) != (g.length : Int)) = true := by simp; omega
    go_enter Try.func52, Try.ntmps52
    go_wp2_with fail
    go_ret
    exact ⟨rfl, Below.refl _ _⟩
set_option maxRecDepth 100000 in
set_option maxHeartbeats 1600000 in
theorem eqLte_any {lo hi lo2 hi2 : Nat} (a b : Lt) {sa2 sa3 : Option Addr} {sc2 sc3 : Nat} {ta2 ta3 : Option Addr} {tc2 tc3 : Nat} (w : World) (hn : wtLt a ≤ 1048576) (hs2 : GS w lo hi (.slice sa2 a.labs.length sc2) a.labs) (hs3 : GEg w lo hi (.slice sa3 a.edges.length sc3) a.edges) (ht2 : GS w lo2 hi2 (.slice ta2 b.labs.length tc2) b.labs) (ht3 : GEg w lo2 hi2 (.slice ta3 b.edges.length tc3) b.edges) :
    Calls Try.prog 15 #[.agg #[.int .i64 a.st, .int .i64 a.ini, .slice sa2 a.labs.length sc2, .slice sa3 a.edges.length sc3], .agg #[.int .i64 b.st, .int .i64 b.ini, .slice ta2 b.labs.length tc2, .slice ta3 b.edges.length tc3]] w fun e w' => e = .returned (.bool (decide (a = b))) ∧ Below w.heap.size w w' := by
  have hlt : ∀ x y : ByteArray, (x.toList == y.toList) = decide (x = y) := beq_txt
  unfold wtLt at hn
  by_cases c0 : a.st = b.st
  · by_cases c1 : a.ini = b.ini
    · by_cases c2 : a.labs = b.labs
      · by_cases c3 : a.edges = b.edges
        · have HF : Hid (decide (a = b) = true) := Lib.hid (by
            cases a
            cases b
            simp only [decide_eq_true_eq]
            simp_all)
          have n0 : (a.st != b.st) = false := by simpa using c0
          have n1 : (a.ini != b.ini) = false := by simpa using c1
          rw [HF.out]
          clear HF hlt
          have C2 : Hid (decide (a.labs = b.labs) = true) := Lib.hid (decide_eq_true c2)
          have C3 : Hid (decide (a.edges = b.edges) = true) := Lib.hid (decide_eq_true c3)
          clear c0 c1 c2 c3
          go_enter Try.func15, Try.ntmps15
          have hB0 : ∀ x y : Obj, Below w.heap.size w ((w.alloc x).alloc y) := fun x y => ((Below.refl _ w).alloc (Nat.le_refl _) _).alloc (by simp) _
          go_wp2_with fail
          refine (eqS_any _ _ _ _ _ (by omega) (hs2.keep (Keep.of_below _ _ (hB0 _ _))) (ht2.keep (Keep.of_below _ _ (hB0 _ _)))).mono ?_
          rw [C2.out]
          rintro e w3 ⟨rfl, hb2⟩
          have e1 := box_one hb2
          have e2 := box_two hb2
          have hB3 : Below w.heap.size w w3 := (hB0 _ _).trans (hb2.mono (by simp; omega))
          have p0 : w3.cell? ⟨w.heap.size, 0, none⟩ = some (.int .i64 a.st) := by simp [World.cell?, e1]
          have q0 : w3.cell? ⟨w.heap.size + 1, 0, none⟩ = some (.int .i64 b.st) := by simp [World.cell?, e2]
          have p1 : w3.cell? ⟨w.heap.size, 1, none⟩ = some (.int .i64 a.ini) := by simp [World.cell?, e1]
          have q1 : w3.cell? ⟨w.heap.size + 1, 1, none⟩ = some (.int .i64 b.ini) := by simp [World.cell?, e2]
          have p2 : w3.cell? ⟨w.heap.size, 2, none⟩ = some (.slice sa2 a.labs.length sc2) := by simp [World.cell?, e1]
          have q2 : w3.cell? ⟨w.heap.size + 1, 2, none⟩ = some (.slice ta2 b.labs.length tc2) := by simp [World.cell?, e2]
          have p3 : w3.cell? ⟨w.heap.size, 3, none⟩ = some (.slice sa3 a.edges.length sc3) := by simp [World.cell?, e1]
          have q3 : w3.cell? ⟨w.heap.size + 1, 3, none⟩ = some (.slice ta3 b.edges.length tc3) := by simp [World.cell?, e2]
          go_wp2_with fail
          refine (eqEg_any _ _ _ _ _ (by omega) (hs3.keep (Keep.of_below _ _ hB3)) (ht3.keep (Keep.of_below _ _ hB3))).mono ?_
          rw [C3.out]
          rintro e w4 ⟨rfl, hb3⟩
          have e1 := (hb3.block _ (lt_of_some e1)).trans e1
          have e2 := (hb3.block _ (lt_of_some e2)).trans e2
          have hB4 : Below w.heap.size w w4 := hB3.trans (hb3.mono hB3.size)
          have p0 : w4.cell? ⟨w.heap.size, 0, none⟩ = some (.int .i64 a.st) := by simp [World.cell?, e1]
          have q0 : w4.cell? ⟨w.heap.size + 1, 0, none⟩ = some (.int .i64 b.st) := by simp [World.cell?, e2]
          have p1 : w4.cell? ⟨w.heap.size, 1, none⟩ = some (.int .i64 a.ini) := by simp [World.cell?, e1]
          have q1 : w4.cell? ⟨w.heap.size + 1, 1, none⟩ = some (.int .i64 b.ini) := by simp [World.cell?, e2]
          have p2 : w4.cell? ⟨w.heap.size, 2, none⟩ = some (.slice sa2 a.labs.length sc2) := by simp [World.cell?, e1]
          have q2 : w4.cell? ⟨w.heap.size + 1, 2, none⟩ = some (.slice ta2 b.labs.length tc2) := by simp [World.cell?, e2]
          have p3 : w4.cell? ⟨w.heap.size, 3, none⟩ = some (.slice sa3 a.edges.length sc3) := by simp [World.cell?, e1]
          have q3 : w4.cell? ⟨w.heap.size + 1, 3, none⟩ = some (.slice ta3 b.edges.length tc3) := by simp [World.cell?, e2]
          go_wp2_with fail
          go_ret
          exact ⟨rfl, hB4⟩
        · have HF : Hid (decide (a = b) = false) := Lib.hid (decide_eq_false fun h => c3 (by rw [h]))
          have n0 : (a.st != b.st) = false := by simpa using c0
          have n1 : (a.ini != b.ini) = false := by simpa using c1
          rw [HF.out]
          clear HF hlt
          have C2 : Hid (decide (a.labs = b.labs) = true) := Lib.hid (decide_eq_true c2)
          have C3 : Hid (decide (a.edges = b.edges) = false) := Lib.hid (decide_eq_false c3)
          clear c0 c1 c2 c3
          go_enter Try.func15, Try.ntmps15
          have hB0 : ∀ x y : Obj, Below w.heap.size w ((w.alloc x).alloc y) := fun x y => ((Below.refl _ w).alloc (Nat.le_refl _) _).alloc (by simp) _
          go_wp2_with fail
          refine (eqS_any _ _ _ _ _ (by omega) (hs2.keep (Keep.of_below _ _ (hB0 _ _))) (ht2.keep (Keep.of_below _ _ (hB0 _ _)))).mono ?_
          rw [C2.out]
          rintro e w3 ⟨rfl, hb2⟩
          have e1 := box_one hb2
          have e2 := box_two hb2
          have hB3 : Below w.heap.size w w3 := (hB0 _ _).trans (hb2.mono (by simp; omega))
          have p0 : w3.cell? ⟨w.heap.size, 0, none⟩ = some (.int .i64 a.st) := by simp [World.cell?, e1]
          have q0 : w3.cell? ⟨w.heap.size + 1, 0, none⟩ = some (.int .i64 b.st) := by simp [World.cell?, e2]
          have p1 : w3.cell? ⟨w.heap.size, 1, none⟩ = some (.int .i64 a.ini) := by simp [World.cell?, e1]
          have q1 : w3.cell? ⟨w.heap.size + 1, 1, none⟩ = some (.int .i64 b.ini) := by simp [World.cell?, e2]
          have p2 : w3.cell? ⟨w.heap.size, 2, none⟩ = some (.slice sa2 a.labs.length sc2) := by simp [World.cell?, e1]
          have q2 : w3.cell? ⟨w.heap.size + 1, 2, none⟩ = some (.slice ta2 b.labs.length tc2) := by simp [World.cell?, e2]
          have p3 : w3.cell? ⟨w.heap.size, 3, none⟩ = some (.slice sa3 a.edges.length sc3) := by simp [World.cell?, e1]
          have q3 : w3.cell? ⟨w.heap.size + 1, 3, none⟩ = some (.slice ta3 b.edges.length tc3) := by simp [World.cell?, e2]
          go_wp2_with fail
          refine (eqEg_any _ _ _ _ _ (by omega) (hs3.keep (Keep.of_below _ _ hB3)) (ht3.keep (Keep.of_below _ _ hB3))).mono ?_
          rw [C3.out]
          rintro e w4 ⟨rfl, hb3⟩
          have e1 := (hb3.block _ (lt_of_some e1)).trans e1
          have e2 := (hb3.block _ (lt_of_some e2)).trans e2
          have hB4 : Below w.heap.size w w4 := hB3.trans (hb3.mono hB3.size)
          have p0 : w4.cell? ⟨w.heap.size, 0, none⟩ = some (.int .i64 a.st) := by simp [World.cell?, e1]
          have q0 : w4.cell? ⟨w.heap.size + 1, 0, none⟩ = some (.int .i64 b.st) := by simp [World.cell?, e2]
          have p1 : w4.cell? ⟨w.heap.size, 1, none⟩ = some (.int .i64 a.ini) := by simp [World.cell?, e1]
          have q1 : w4.cell? ⟨w.heap.size + 1, 1, none⟩ = some (.int .i64 b.ini) := by simp [World.cell?, e2]
          have p2 : w4.cell? ⟨w.heap.size, 2, none⟩ = some (.slice sa2 a.labs.length sc2) := by simp [World.cell?, e1]
          have q2 : w4.cell? ⟨w.heap.size + 1, 2, none⟩ = some (.slice ta2 b.labs.length tc2) := by simp [World.cell?, e2]
          have p3 : w4.cell? ⟨w.heap.size, 3, none⟩ = some (.slice sa3 a.edges.length sc3) := by simp [World.cell?, e1]
          have q3 : w4.cell? ⟨w.heap.size + 1, 3, none⟩ = some (.slice ta3 b.edges.length tc3) := by simp [World.cell?, e2]
          go_wp2_with fail
          go_ret
          exact ⟨rfl, hB4⟩
      · have HF : Hid (decide (a = b) = false) := Lib.hid (decide_eq_false fun h => c2 (by rw [h]))
        have n0 : (a.st != b.st) = false := by simpa using c0
        have n1 : (a.ini != b.ini) = false := by simpa using c1
        rw [HF.out]
        clear HF hlt
        have C2 : Hid (decide (a.labs = b.labs) = false) := Lib.hid (decide_eq_false c2)
        clear c0 c1 c2
        go_enter Try.func15, Try.ntmps15
        have hB0 : ∀ x y : Obj, Below w.heap.size w ((w.alloc x).alloc y) := fun x y => ((Below.refl _ w).alloc (Nat.le_refl _) _).alloc (by simp) _
        go_wp2_with fail
        refine (eqS_any _ _ _ _ _ (by omega) (hs2.keep (Keep.of_below _ _ (hB0 _ _))) (ht2.keep (Keep.of_below _ _ (hB0 _ _)))).mono ?_
        rw [C2.out]
        rintro e w3 ⟨rfl, hb2⟩
        have e1 := box_one hb2
        have e2 := box_two hb2
        have hB3 : Below w.heap.size w w3 := (hB0 _ _).trans (hb2.mono (by simp; omega))
        have p0 : w3.cell? ⟨w.heap.size, 0, none⟩ = some (.int .i64 a.st) := by simp [World.cell?, e1]
        have q0 : w3.cell? ⟨w.heap.size + 1, 0, none⟩ = some (.int .i64 b.st) := by simp [World.cell?, e2]
        have p1 : w3.cell? ⟨w.heap.size, 1, none⟩ = some (.int .i64 a.ini) := by simp [World.cell?, e1]
        have q1 : w3.cell? ⟨w.heap.size + 1, 1, none⟩ = some (.int .i64 b.ini) := by simp [World.cell?, e2]
        have p2 : w3.cell? ⟨w.heap.size, 2, none⟩ = some (.slice sa2 a.labs.length sc2) := by simp [World.cell?, e1]
        have q2 : w3.cell? ⟨w.heap.size + 1, 2, none⟩ = some (.slice ta2 b.labs.length tc2) := by simp [World.cell?, e2]
        have p3 : w3.cell? ⟨w.heap.size, 3, none⟩ = some (.slice sa3 a.edges.length sc3) := by simp [World.cell?, e1]
        have q3 : w3.cell? ⟨w.heap.size + 1, 3, none⟩ = some (.slice ta3 b.edges.length tc3) := by simp [World.cell?, e2]
        go_wp2_with fail
        go_ret
        exact ⟨rfl, hB3⟩
    · have HF : Hid (decide (a = b) = false) := Lib.hid (decide_eq_false fun h => c1 (by rw [h]))
      have n0 : (a.st != b.st) = false := by simpa using c0
      have n1 : (a.ini != b.ini) = true := by simpa using c1
      rw [HF.out]
      clear HF hlt
      clear c0 c1
      go_enter Try.func15, Try.ntmps15
      have hB0 : ∀ x y : Obj, Below w.heap.size w ((w.alloc x).alloc y) := fun x y => ((Below.refl _ w).alloc (Nat.le_refl _) _).alloc (by simp) _
      go_wp2_with fail
      go_ret
      exact ⟨rfl, (hB0 _ _)⟩
  · have HF : Hid (decide (a = b) = false) := Lib.hid (decide_eq_false fun h => c0 (by rw [h]))
    have n0 : (a.st != b.st) = true := by simpa using c0
    rw [HF.out]
    clear HF hlt
    clear c0
    go_enter Try.func15, Try.ntmps15
    have hB0 : ∀ x y : Obj, Below w.heap.size w ((w.alloc x).alloc y) := fun x y => ((Below.refl _ w).alloc (Nat.le_refl _) _).alloc (by simp) _
    go_wp2_with fail
    go_ret
    exact ⟨rfl, (hB0 _ _)⟩
set_option maxRecDepth 100000 in
set_option maxHeartbeats 1600000 in
theorem eqSye_any {lo hi lo2 hi2 : Nat} (a b : Sy) {sa0 sa1 sa2 sa3 sa4 : Option Addr} {sc0 sc1 sc2 sc3 sc4 : Nat} {ta0 ta1 ta2 ta3 ta4 : Option Addr} {tc0 tc1 tc2 tc3 tc4 : Nat} (w : World) (hn : wtSy a ≤ 1048576) (hs0 : GDf w lo hi (.slice sa0 a.defs.length sc0) a.defs) (hs1 : GCp w lo hi (.slice sa1 a.comps.length sc1) a.comps) (hs2 : GMt w lo hi (.slice sa2 a.meets.length sc2) a.meets) (hs3 : GS w lo hi (.slice sa3 a.allow.length sc3) a.allow) (hs4 : GS w lo hi (.slice sa4 a.hide.length sc4) a.hide) (ht0 : GDf w lo2 hi2 (.slice ta0 b.defs.length tc0) b.defs) (ht1 : GCp w lo2 hi2 (.slice ta1 b.comps.length tc1) b.comps) (ht2 : GMt w lo2 hi2 (.slice ta2 b.meets.length tc2) b.meets) (ht3 : GS w lo2 hi2 (.slice ta3 b.allow.length tc3) b.allow) (ht4 : GS w lo2 hi2 (.slice ta4 b.hide.length tc4) b.hide) :
    Calls Try.prog 20 #[.agg #[.slice sa0 a.defs.length sc0, .slice sa1 a.comps.length sc1, .slice sa2 a.meets.length sc2, .slice sa3 a.allow.length sc3, .slice sa4 a.hide.length sc4], .agg #[.slice ta0 b.defs.length tc0, .slice ta1 b.comps.length tc1, .slice ta2 b.meets.length tc2, .slice ta3 b.allow.length tc3, .slice ta4 b.hide.length tc4]] w fun e w' => e = .returned (.bool (decide (a = b))) ∧ Below w.heap.size w w' := by
  have hlt : ∀ x y : ByteArray, (x.toList == y.toList) = decide (x = y) := beq_txt
  unfold wtSy at hn
  by_cases c0 : a.defs = b.defs
  · by_cases c1 : a.comps = b.comps
    · by_cases c2 : a.meets = b.meets
      · by_cases c3 : a.allow = b.allow
        · by_cases c4 : a.hide = b.hide
          · have HF : Hid (decide (a = b) = true) := Lib.hid (by
              cases a
              cases b
              simp only [decide_eq_true_eq]
              simp_all)
            rw [HF.out]
            clear HF hlt
            have C0 : Hid (decide (a.defs = b.defs) = true) := Lib.hid (decide_eq_true c0)
            have C1 : Hid (decide (a.comps = b.comps) = true) := Lib.hid (decide_eq_true c1)
            have C2 : Hid (decide (a.meets = b.meets) = true) := Lib.hid (decide_eq_true c2)
            have C3 : Hid (decide (a.allow = b.allow) = true) := Lib.hid (decide_eq_true c3)
            have C4 : Hid (decide (a.hide = b.hide) = true) := Lib.hid (decide_eq_true c4)
            clear c0 c1 c2 c3 c4
            go_enter Try.func20, Try.ntmps20
            have hB0 : ∀ x y : Obj, Below w.heap.size w ((w.alloc x).alloc y) := fun x y => ((Below.refl _ w).alloc (Nat.le_refl _) _).alloc (by simp) _
            go_wp2_with fail
            refine (eqDf_any _ _ _ _ _ (by omega) (hs0.keep (Keep.of_below _ _ (hB0 _ _))) (ht0.keep (Keep.of_below _ _ (hB0 _ _)))).mono ?_
            rw [C0.out]
            rintro e w1 ⟨rfl, hb0⟩
            have e1 := box_one hb0
            have e2 := box_two hb0
            have hB1 : Below w.heap.size w w1 := (hB0 _ _).trans (hb0.mono (by simp; omega))
            have p0 : w1.cell? ⟨w.heap.size, 0, none⟩ = some (.slice sa0 a.defs.length sc0) := by simp [World.cell?, e1]
            have q0 : w1.cell? ⟨w.heap.size + 1, 0, none⟩ = some (.slice ta0 b.defs.length tc0) := by simp [World.cell?, e2]
            have p1 : w1.cell? ⟨w.heap.size, 1, none⟩ = some (.slice sa1 a.comps.length sc1) := by simp [World.cell?, e1]
            have q1 : w1.cell? ⟨w.heap.size + 1, 1, none⟩ = some (.slice ta1 b.comps.length tc1) := by simp [World.cell?, e2]
            have p2 : w1.cell? ⟨w.heap.size, 2, none⟩ = some (.slice sa2 a.meets.length sc2) := by simp [World.cell?, e1]
            have q2 : w1.cell? ⟨w.heap.size + 1, 2, none⟩ = some (.slice ta2 b.meets.length tc2) := by simp [World.cell?, e2]
            have p3 : w1.cell? ⟨w.heap.size, 3, none⟩ = some (.slice sa3 a.allow.length sc3) := by simp [World.cell?, e1]
            have q3 : w1.cell? ⟨w.heap.size + 1, 3, none⟩ = some (.slice ta3 b.allow.length tc3) := by simp [World.cell?, e2]
            have p4 : w1.cell? ⟨w.heap.size, 4, none⟩ = some (.slice sa4 a.hide.length sc4) := by simp [World.cell?, e1]
            have q4 : w1.cell? ⟨w.heap.size + 1, 4, none⟩ = some (.slice ta4 b.hide.length tc4) := by simp [World.cell?, e2]
            go_wp2_with fail
            refine (eqCp_any _ _ _ _ _ (by omega) (hs1.keep (Keep.of_below _ _ hB1)) (ht1.keep (Keep.of_below _ _ hB1))).mono ?_
            rw [C1.out]
            rintro e w2 ⟨rfl, hb1⟩
            have e1 := (hb1.block _ (lt_of_some e1)).trans e1
            have e2 := (hb1.block _ (lt_of_some e2)).trans e2
            have hB2 : Below w.heap.size w w2 := hB1.trans (hb1.mono hB1.size)
            have p0 : w2.cell? ⟨w.heap.size, 0, none⟩ = some (.slice sa0 a.defs.length sc0) := by simp [World.cell?, e1]
            have q0 : w2.cell? ⟨w.heap.size + 1, 0, none⟩ = some (.slice ta0 b.defs.length tc0) := by simp [World.cell?, e2]
            have p1 : w2.cell? ⟨w.heap.size, 1, none⟩ = some (.slice sa1 a.comps.length sc1) := by simp [World.cell?, e1]
            have q1 : w2.cell? ⟨w.heap.size + 1, 1, none⟩ = some (.slice ta1 b.comps.length tc1) := by simp [World.cell?, e2]
            have p2 : w2.cell? ⟨w.heap.size, 2, none⟩ = some (.slice sa2 a.meets.length sc2) := by simp [World.cell?, e1]
            have q2 : w2.cell? ⟨w.heap.size + 1, 2, none⟩ = some (.slice ta2 b.meets.length tc2) := by simp [World.cell?, e2]
            have p3 : w2.cell? ⟨w.heap.size, 3, none⟩ = some (.slice sa3 a.allow.length sc3) := by simp [World.cell?, e1]
            have q3 : w2.cell? ⟨w.heap.size + 1, 3, none⟩ = some (.slice ta3 b.allow.length tc3) := by simp [World.cell?, e2]
            have p4 : w2.cell? ⟨w.heap.size, 4, none⟩ = some (.slice sa4 a.hide.length sc4) := by simp [World.cell?, e1]
            have q4 : w2.cell? ⟨w.heap.size + 1, 4, none⟩ = some (.slice ta4 b.hide.length tc4) := by simp [World.cell?, e2]
            go_wp2_with fail
            refine (eqMt_any _ _ _ _ _ (by omega) (hs2.keep (Keep.of_below _ _ hB2)) (ht2.keep (Keep.of_below _ _ hB2))).mono ?_
            rw [C2.out]
            rintro e w3 ⟨rfl, hb2⟩
            have e1 := (hb2.block _ (lt_of_some e1)).trans e1
            have e2 := (hb2.block _ (lt_of_some e2)).trans e2
            have hB3 : Below w.heap.size w w3 := hB2.trans (hb2.mono hB2.size)
            have p0 : w3.cell? ⟨w.heap.size, 0, none⟩ = some (.slice sa0 a.defs.length sc0) := by simp [World.cell?, e1]
            have q0 : w3.cell? ⟨w.heap.size + 1, 0, none⟩ = some (.slice ta0 b.defs.length tc0) := by simp [World.cell?, e2]
            have p1 : w3.cell? ⟨w.heap.size, 1, none⟩ = some (.slice sa1 a.comps.length sc1) := by simp [World.cell?, e1]
            have q1 : w3.cell? ⟨w.heap.size + 1, 1, none⟩ = some (.slice ta1 b.comps.length tc1) := by simp [World.cell?, e2]
            have p2 : w3.cell? ⟨w.heap.size, 2, none⟩ = some (.slice sa2 a.meets.length sc2) := by simp [World.cell?, e1]
            have q2 : w3.cell? ⟨w.heap.size + 1, 2, none⟩ = some (.slice ta2 b.meets.length tc2) := by simp [World.cell?, e2]
            have p3 : w3.cell? ⟨w.heap.size, 3, none⟩ = some (.slice sa3 a.allow.length sc3) := by simp [World.cell?, e1]
            have q3 : w3.cell? ⟨w.heap.size + 1, 3, none⟩ = some (.slice ta3 b.allow.length tc3) := by simp [World.cell?, e2]
            have p4 : w3.cell? ⟨w.heap.size, 4, none⟩ = some (.slice sa4 a.hide.length sc4) := by simp [World.cell?, e1]
            have q4 : w3.cell? ⟨w.heap.size + 1, 4, none⟩ = some (.slice ta4 b.hide.length tc4) := by simp [World.cell?, e2]
            go_wp2_with fail
            refine (eqS_any _ _ _ _ _ (by omega) (hs3.keep (Keep.of_below _ _ hB3)) (ht3.keep (Keep.of_below _ _ hB3))).mono ?_
            rw [C3.out]
            rintro e w4 ⟨rfl, hb3⟩
            have e1 := (hb3.block _ (lt_of_some e1)).trans e1
            have e2 := (hb3.block _ (lt_of_some e2)).trans e2
            have hB4 : Below w.heap.size w w4 := hB3.trans (hb3.mono hB3.size)
            have p0 : w4.cell? ⟨w.heap.size, 0, none⟩ = some (.slice sa0 a.defs.length sc0) := by simp [World.cell?, e1]
            have q0 : w4.cell? ⟨w.heap.size + 1, 0, none⟩ = some (.slice ta0 b.defs.length tc0) := by simp [World.cell?, e2]
            have p1 : w4.cell? ⟨w.heap.size, 1, none⟩ = some (.slice sa1 a.comps.length sc1) := by simp [World.cell?, e1]
            have q1 : w4.cell? ⟨w.heap.size + 1, 1, none⟩ = some (.slice ta1 b.comps.length tc1) := by simp [World.cell?, e2]
            have p2 : w4.cell? ⟨w.heap.size, 2, none⟩ = some (.slice sa2 a.meets.length sc2) := by simp [World.cell?, e1]
            have q2 : w4.cell? ⟨w.heap.size + 1, 2, none⟩ = some (.slice ta2 b.meets.length tc2) := by simp [World.cell?, e2]
            have p3 : w4.cell? ⟨w.heap.size, 3, none⟩ = some (.slice sa3 a.allow.length sc3) := by simp [World.cell?, e1]
            have q3 : w4.cell? ⟨w.heap.size + 1, 3, none⟩ = some (.slice ta3 b.allow.length tc3) := by simp [World.cell?, e2]
            have p4 : w4.cell? ⟨w.heap.size, 4, none⟩ = some (.slice sa4 a.hide.length sc4) := by simp [World.cell?, e1]
            have q4 : w4.cell? ⟨w.heap.size + 1, 4, none⟩ = some (.slice ta4 b.hide.length tc4) := by simp [World.cell?, e2]
            go_wp2_with fail
            refine (eqS_any _ _ _ _ _ (by omega) (hs4.keep (Keep.of_below _ _ hB4)) (ht4.keep (Keep.of_below _ _ hB4))).mono ?_
            rw [C4.out]
            rintro e w5 ⟨rfl, hb4⟩
            have e1 := (hb4.block _ (lt_of_some e1)).trans e1
            have e2 := (hb4.block _ (lt_of_some e2)).trans e2
            have hB5 : Below w.heap.size w w5 := hB4.trans (hb4.mono hB4.size)
            have p0 : w5.cell? ⟨w.heap.size, 0, none⟩ = some (.slice sa0 a.defs.length sc0) := by simp [World.cell?, e1]
            have q0 : w5.cell? ⟨w.heap.size + 1, 0, none⟩ = some (.slice ta0 b.defs.length tc0) := by simp [World.cell?, e2]
            have p1 : w5.cell? ⟨w.heap.size, 1, none⟩ = some (.slice sa1 a.comps.length sc1) := by simp [World.cell?, e1]
            have q1 : w5.cell? ⟨w.heap.size + 1, 1, none⟩ = some (.slice ta1 b.comps.length tc1) := by simp [World.cell?, e2]
            have p2 : w5.cell? ⟨w.heap.size, 2, none⟩ = some (.slice sa2 a.meets.length sc2) := by simp [World.cell?, e1]
            have q2 : w5.cell? ⟨w.heap.size + 1, 2, none⟩ = some (.slice ta2 b.meets.length tc2) := by simp [World.cell?, e2]
            have p3 : w5.cell? ⟨w.heap.size, 3, none⟩ = some (.slice sa3 a.allow.length sc3) := by simp [World.cell?, e1]
            have q3 : w5.cell? ⟨w.heap.size + 1, 3, none⟩ = some (.slice ta3 b.allow.length tc3) := by simp [World.cell?, e2]
            have p4 : w5.cell? ⟨w.heap.size, 4, none⟩ = some (.slice sa4 a.hide.length sc4) := by simp [World.cell?, e1]
            have q4 : w5.cell? ⟨w.heap.size + 1, 4, none⟩ = some (.slice ta4 b.hide.length tc4) := by simp [World.cell?, e2]
            go_wp2_with fail
            go_ret
            exact ⟨rfl, hB5⟩
          · have HF : Hid (decide (a = b) = false) := Lib.hid (decide_eq_false fun h => c4 (by rw [h]))
            rw [HF.out]
            clear HF hlt
            have C0 : Hid (decide (a.defs = b.defs) = true) := Lib.hid (decide_eq_true c0)
            have C1 : Hid (decide (a.comps = b.comps) = true) := Lib.hid (decide_eq_true c1)
            have C2 : Hid (decide (a.meets = b.meets) = true) := Lib.hid (decide_eq_true c2)
            have C3 : Hid (decide (a.allow = b.allow) = true) := Lib.hid (decide_eq_true c3)
            have C4 : Hid (decide (a.hide = b.hide) = false) := Lib.hid (decide_eq_false c4)
            clear c0 c1 c2 c3 c4
            go_enter Try.func20, Try.ntmps20
            have hB0 : ∀ x y : Obj, Below w.heap.size w ((w.alloc x).alloc y) := fun x y => ((Below.refl _ w).alloc (Nat.le_refl _) _).alloc (by simp) _
            go_wp2_with fail
            refine (eqDf_any _ _ _ _ _ (by omega) (hs0.keep (Keep.of_below _ _ (hB0 _ _))) (ht0.keep (Keep.of_below _ _ (hB0 _ _)))).mono ?_
            rw [C0.out]
            rintro e w1 ⟨rfl, hb0⟩
            have e1 := box_one hb0
            have e2 := box_two hb0
            have hB1 : Below w.heap.size w w1 := (hB0 _ _).trans (hb0.mono (by simp; omega))
            have p0 : w1.cell? ⟨w.heap.size, 0, none⟩ = some (.slice sa0 a.defs.length sc0) := by simp [World.cell?, e1]
            have q0 : w1.cell? ⟨w.heap.size + 1, 0, none⟩ = some (.slice ta0 b.defs.length tc0) := by simp [World.cell?, e2]
            have p1 : w1.cell? ⟨w.heap.size, 1, none⟩ = some (.slice sa1 a.comps.length sc1) := by simp [World.cell?, e1]
            have q1 : w1.cell? ⟨w.heap.size + 1, 1, none⟩ = some (.slice ta1 b.comps.length tc1) := by simp [World.cell?, e2]
            have p2 : w1.cell? ⟨w.heap.size, 2, none⟩ = some (.slice sa2 a.meets.length sc2) := by simp [World.cell?, e1]
            have q2 : w1.cell? ⟨w.heap.size + 1, 2, none⟩ = some (.slice ta2 b.meets.length tc2) := by simp [World.cell?, e2]
            have p3 : w1.cell? ⟨w.heap.size, 3, none⟩ = some (.slice sa3 a.allow.length sc3) := by simp [World.cell?, e1]
            have q3 : w1.cell? ⟨w.heap.size + 1, 3, none⟩ = some (.slice ta3 b.allow.length tc3) := by simp [World.cell?, e2]
            have p4 : w1.cell? ⟨w.heap.size, 4, none⟩ = some (.slice sa4 a.hide.length sc4) := by simp [World.cell?, e1]
            have q4 : w1.cell? ⟨w.heap.size + 1, 4, none⟩ = some (.slice ta4 b.hide.length tc4) := by simp [World.cell?, e2]
            go_wp2_with fail
            refine (eqCp_any _ _ _ _ _ (by omega) (hs1.keep (Keep.of_below _ _ hB1)) (ht1.keep (Keep.of_below _ _ hB1))).mono ?_
            rw [C1.out]
            rintro e w2 ⟨rfl, hb1⟩
            have e1 := (hb1.block _ (lt_of_some e1)).trans e1
            have e2 := (hb1.block _ (lt_of_some e2)).trans e2
            have hB2 : Below w.heap.size w w2 := hB1.trans (hb1.mono hB1.size)
            have p0 : w2.cell? ⟨w.heap.size, 0, none⟩ = some (.slice sa0 a.defs.length sc0) := by simp [World.cell?, e1]
            have q0 : w2.cell? ⟨w.heap.size + 1, 0, none⟩ = some (.slice ta0 b.defs.length tc0) := by simp [World.cell?, e2]
            have p1 : w2.cell? ⟨w.heap.size, 1, none⟩ = some (.slice sa1 a.comps.length sc1) := by simp [World.cell?, e1]
            have q1 : w2.cell? ⟨w.heap.size + 1, 1, none⟩ = some (.slice ta1 b.comps.length tc1) := by simp [World.cell?, e2]
            have p2 : w2.cell? ⟨w.heap.size, 2, none⟩ = some (.slice sa2 a.meets.length sc2) := by simp [World.cell?, e1]
            have q2 : w2.cell? ⟨w.heap.size + 1, 2, none⟩ = some (.slice ta2 b.meets.length tc2) := by simp [World.cell?, e2]
            have p3 : w2.cell? ⟨w.heap.size, 3, none⟩ = some (.slice sa3 a.allow.length sc3) := by simp [World.cell?, e1]
            have q3 : w2.cell? ⟨w.heap.size + 1, 3, none⟩ = some (.slice ta3 b.allow.length tc3) := by simp [World.cell?, e2]
            have p4 : w2.cell? ⟨w.heap.size, 4, none⟩ = some (.slice sa4 a.hide.length sc4) := by simp [World.cell?, e1]
            have q4 : w2.cell? ⟨w.heap.size + 1, 4, none⟩ = some (.slice ta4 b.hide.length tc4) := by simp [World.cell?, e2]
            go_wp2_with fail
            refine (eqMt_any _ _ _ _ _ (by omega) (hs2.keep (Keep.of_below _ _ hB2)) (ht2.keep (Keep.of_below _ _ hB2))).mono ?_
            rw [C2.out]
            rintro e w3 ⟨rfl, hb2⟩
            have e1 := (hb2.block _ (lt_of_some e1)).trans e1
            have e2 := (hb2.block _ (lt_of_some e2)).trans e2
            have hB3 : Below w.heap.size w w3 := hB2.trans (hb2.mono hB2.size)
            have p0 : w3.cell? ⟨w.heap.size, 0, none⟩ = some (.slice sa0 a.defs.length sc0) := by simp [World.cell?, e1]
            have q0 : w3.cell? ⟨w.heap.size + 1, 0, none⟩ = some (.slice ta0 b.defs.length tc0) := by simp [World.cell?, e2]
            have p1 : w3.cell? ⟨w.heap.size, 1, none⟩ = some (.slice sa1 a.comps.length sc1) := by simp [World.cell?, e1]
            have q1 : w3.cell? ⟨w.heap.size + 1, 1, none⟩ = some (.slice ta1 b.comps.length tc1) := by simp [World.cell?, e2]
            have p2 : w3.cell? ⟨w.heap.size, 2, none⟩ = some (.slice sa2 a.meets.length sc2) := by simp [World.cell?, e1]
            have q2 : w3.cell? ⟨w.heap.size + 1, 2, none⟩ = some (.slice ta2 b.meets.length tc2) := by simp [World.cell?, e2]
            have p3 : w3.cell? ⟨w.heap.size, 3, none⟩ = some (.slice sa3 a.allow.length sc3) := by simp [World.cell?, e1]
            have q3 : w3.cell? ⟨w.heap.size + 1, 3, none⟩ = some (.slice ta3 b.allow.length tc3) := by simp [World.cell?, e2]
            have p4 : w3.cell? ⟨w.heap.size, 4, none⟩ = some (.slice sa4 a.hide.length sc4) := by simp [World.cell?, e1]
            have q4 : w3.cell? ⟨w.heap.size + 1, 4, none⟩ = some (.slice ta4 b.hide.length tc4) := by simp [World.cell?, e2]
            go_wp2_with fail
            refine (eqS_any _ _ _ _ _ (by omega) (hs3.keep (Keep.of_below _ _ hB3)) (ht3.keep (Keep.of_below _ _ hB3))).mono ?_
            rw [C3.out]
            rintro e w4 ⟨rfl, hb3⟩
            have e1 := (hb3.block _ (lt_of_some e1)).trans e1
            have e2 := (hb3.block _ (lt_of_some e2)).trans e2
            have hB4 : Below w.heap.size w w4 := hB3.trans (hb3.mono hB3.size)
            have p0 : w4.cell? ⟨w.heap.size, 0, none⟩ = some (.slice sa0 a.defs.length sc0) := by simp [World.cell?, e1]
            have q0 : w4.cell? ⟨w.heap.size + 1, 0, none⟩ = some (.slice ta0 b.defs.length tc0) := by simp [World.cell?, e2]
            have p1 : w4.cell? ⟨w.heap.size, 1, none⟩ = some (.slice sa1 a.comps.length sc1) := by simp [World.cell?, e1]
            have q1 : w4.cell? ⟨w.heap.size + 1, 1, none⟩ = some (.slice ta1 b.comps.length tc1) := by simp [World.cell?, e2]
            have p2 : w4.cell? ⟨w.heap.size, 2, none⟩ = some (.slice sa2 a.meets.length sc2) := by simp [World.cell?, e1]
            have q2 : w4.cell? ⟨w.heap.size + 1, 2, none⟩ = some (.slice ta2 b.meets.length tc2) := by simp [World.cell?, e2]
            have p3 : w4.cell? ⟨w.heap.size, 3, none⟩ = some (.slice sa3 a.allow.length sc3) := by simp [World.cell?, e1]
            have q3 : w4.cell? ⟨w.heap.size + 1, 3, none⟩ = some (.slice ta3 b.allow.length tc3) := by simp [World.cell?, e2]
            have p4 : w4.cell? ⟨w.heap.size, 4, none⟩ = some (.slice sa4 a.hide.length sc4) := by simp [World.cell?, e1]
            have q4 : w4.cell? ⟨w.heap.size + 1, 4, none⟩ = some (.slice ta4 b.hide.length tc4) := by simp [World.cell?, e2]
            go_wp2_with fail
            refine (eqS_any _ _ _ _ _ (by omega) (hs4.keep (Keep.of_below _ _ hB4)) (ht4.keep (Keep.of_below _ _ hB4))).mono ?_
            rw [C4.out]
            rintro e w5 ⟨rfl, hb4⟩
            have e1 := (hb4.block _ (lt_of_some e1)).trans e1
            have e2 := (hb4.block _ (lt_of_some e2)).trans e2
            have hB5 : Below w.heap.size w w5 := hB4.trans (hb4.mono hB4.size)
            have p0 : w5.cell? ⟨w.heap.size, 0, none⟩ = some (.slice sa0 a.defs.length sc0) := by simp [World.cell?, e1]
            have q0 : w5.cell? ⟨w.heap.size + 1, 0, none⟩ = some (.slice ta0 b.defs.length tc0) := by simp [World.cell?, e2]
            have p1 : w5.cell? ⟨w.heap.size, 1, none⟩ = some (.slice sa1 a.comps.length sc1) := by simp [World.cell?, e1]
            have q1 : w5.cell? ⟨w.heap.size + 1, 1, none⟩ = some (.slice ta1 b.comps.length tc1) := by simp [World.cell?, e2]
            have p2 : w5.cell? ⟨w.heap.size, 2, none⟩ = some (.slice sa2 a.meets.length sc2) := by simp [World.cell?, e1]
            have q2 : w5.cell? ⟨w.heap.size + 1, 2, none⟩ = some (.slice ta2 b.meets.length tc2) := by simp [World.cell?, e2]
            have p3 : w5.cell? ⟨w.heap.size, 3, none⟩ = some (.slice sa3 a.allow.length sc3) := by simp [World.cell?, e1]
            have q3 : w5.cell? ⟨w.heap.size + 1, 3, none⟩ = some (.slice ta3 b.allow.length tc3) := by simp [World.cell?, e2]
            have p4 : w5.cell? ⟨w.heap.size, 4, none⟩ = some (.slice sa4 a.hide.length sc4) := by simp [World.cell?, e1]
            have q4 : w5.cell? ⟨w.heap.size + 1, 4, none⟩ = some (.slice ta4 b.hide.length tc4) := by simp [World.cell?, e2]
            go_wp2_with fail
            go_ret
            exact ⟨rfl, hB5⟩
        · have HF : Hid (decide (a = b) = false) := Lib.hid (decide_eq_false fun h => c3 (by rw [h]))
          rw [HF.out]
          clear HF hlt
          have C0 : Hid (decide (a.defs = b.defs) = true) := Lib.hid (decide_eq_true c0)
          have C1 : Hid (decide (a.comps = b.comps) = true) := Lib.hid (decide_eq_true c1)
          have C2 : Hid (decide (a.meets = b.meets) = true) := Lib.hid (decide_eq_true c2)
          have C3 : Hid (decide (a.allow = b.allow) = false) := Lib.hid (decide_eq_false c3)
          clear c0 c1 c2 c3
          go_enter Try.func20, Try.ntmps20
          have hB0 : ∀ x y : Obj, Below w.heap.size w ((w.alloc x).alloc y) := fun x y => ((Below.refl _ w).alloc (Nat.le_refl _) _).alloc (by simp) _
          go_wp2_with fail
          refine (eqDf_any _ _ _ _ _ (by omega) (hs0.keep (Keep.of_below _ _ (hB0 _ _))) (ht0.keep (Keep.of_below _ _ (hB0 _ _)))).mono ?_
          rw [C0.out]
          rintro e w1 ⟨rfl, hb0⟩
          have e1 := box_one hb0
          have e2 := box_two hb0
          have hB1 : Below w.heap.size w w1 := (hB0 _ _).trans (hb0.mono (by simp; omega))
          have p0 : w1.cell? ⟨w.heap.size, 0, none⟩ = some (.slice sa0 a.defs.length sc0) := by simp [World.cell?, e1]
          have q0 : w1.cell? ⟨w.heap.size + 1, 0, none⟩ = some (.slice ta0 b.defs.length tc0) := by simp [World.cell?, e2]
          have p1 : w1.cell? ⟨w.heap.size, 1, none⟩ = some (.slice sa1 a.comps.length sc1) := by simp [World.cell?, e1]
          have q1 : w1.cell? ⟨w.heap.size + 1, 1, none⟩ = some (.slice ta1 b.comps.length tc1) := by simp [World.cell?, e2]
          have p2 : w1.cell? ⟨w.heap.size, 2, none⟩ = some (.slice sa2 a.meets.length sc2) := by simp [World.cell?, e1]
          have q2 : w1.cell? ⟨w.heap.size + 1, 2, none⟩ = some (.slice ta2 b.meets.length tc2) := by simp [World.cell?, e2]
          have p3 : w1.cell? ⟨w.heap.size, 3, none⟩ = some (.slice sa3 a.allow.length sc3) := by simp [World.cell?, e1]
          have q3 : w1.cell? ⟨w.heap.size + 1, 3, none⟩ = some (.slice ta3 b.allow.length tc3) := by simp [World.cell?, e2]
          have p4 : w1.cell? ⟨w.heap.size, 4, none⟩ = some (.slice sa4 a.hide.length sc4) := by simp [World.cell?, e1]
          have q4 : w1.cell? ⟨w.heap.size + 1, 4, none⟩ = some (.slice ta4 b.hide.length tc4) := by simp [World.cell?, e2]
          go_wp2_with fail
          refine (eqCp_any _ _ _ _ _ (by omega) (hs1.keep (Keep.of_below _ _ hB1)) (ht1.keep (Keep.of_below _ _ hB1))).mono ?_
          rw [C1.out]
          rintro e w2 ⟨rfl, hb1⟩
          have e1 := (hb1.block _ (lt_of_some e1)).trans e1
          have e2 := (hb1.block _ (lt_of_some e2)).trans e2
          have hB2 : Below w.heap.size w w2 := hB1.trans (hb1.mono hB1.size)
          have p0 : w2.cell? ⟨w.heap.size, 0, none⟩ = some (.slice sa0 a.defs.length sc0) := by simp [World.cell?, e1]
          have q0 : w2.cell? ⟨w.heap.size + 1, 0, none⟩ = some (.slice ta0 b.defs.length tc0) := by simp [World.cell?, e2]
          have p1 : w2.cell? ⟨w.heap.size, 1, none⟩ = some (.slice sa1 a.comps.length sc1) := by simp [World.cell?, e1]
          have q1 : w2.cell? ⟨w.heap.size + 1, 1, none⟩ = some (.slice ta1 b.comps.length tc1) := by simp [World.cell?, e2]
          have p2 : w2.cell? ⟨w.heap.size, 2, none⟩ = some (.slice sa2 a.meets.length sc2) := by simp [World.cell?, e1]
          have q2 : w2.cell? ⟨w.heap.size + 1, 2, none⟩ = some (.slice ta2 b.meets.length tc2) := by simp [World.cell?, e2]
          have p3 : w2.cell? ⟨w.heap.size, 3, none⟩ = some (.slice sa3 a.allow.length sc3) := by simp [World.cell?, e1]
          have q3 : w2.cell? ⟨w.heap.size + 1, 3, none⟩ = some (.slice ta3 b.allow.length tc3) := by simp [World.cell?, e2]
          have p4 : w2.cell? ⟨w.heap.size, 4, none⟩ = some (.slice sa4 a.hide.length sc4) := by simp [World.cell?, e1]
          have q4 : w2.cell? ⟨w.heap.size + 1, 4, none⟩ = some (.slice ta4 b.hide.length tc4) := by simp [World.cell?, e2]
          go_wp2_with fail
          refine (eqMt_any _ _ _ _ _ (by omega) (hs2.keep (Keep.of_below _ _ hB2)) (ht2.keep (Keep.of_below _ _ hB2))).mono ?_
          rw [C2.out]
          rintro e w3 ⟨rfl, hb2⟩
          have e1 := (hb2.block _ (lt_of_some e1)).trans e1
          have e2 := (hb2.block _ (lt_of_some e2)).trans e2
          have hB3 : Below w.heap.size w w3 := hB2.trans (hb2.mono hB2.size)
          have p0 : w3.cell? ⟨w.heap.size, 0, none⟩ = some (.slice sa0 a.defs.length sc0) := by simp [World.cell?, e1]
          have q0 : w3.cell? ⟨w.heap.size + 1, 0, none⟩ = some (.slice ta0 b.defs.length tc0) := by simp [World.cell?, e2]
          have p1 : w3.cell? ⟨w.heap.size, 1, none⟩ = some (.slice sa1 a.comps.length sc1) := by simp [World.cell?, e1]
          have q1 : w3.cell? ⟨w.heap.size + 1, 1, none⟩ = some (.slice ta1 b.comps.length tc1) := by simp [World.cell?, e2]
          have p2 : w3.cell? ⟨w.heap.size, 2, none⟩ = some (.slice sa2 a.meets.length sc2) := by simp [World.cell?, e1]
          have q2 : w3.cell? ⟨w.heap.size + 1, 2, none⟩ = some (.slice ta2 b.meets.length tc2) := by simp [World.cell?, e2]
          have p3 : w3.cell? ⟨w.heap.size, 3, none⟩ = some (.slice sa3 a.allow.length sc3) := by simp [World.cell?, e1]
          have q3 : w3.cell? ⟨w.heap.size + 1, 3, none⟩ = some (.slice ta3 b.allow.length tc3) := by simp [World.cell?, e2]
          have p4 : w3.cell? ⟨w.heap.size, 4, none⟩ = some (.slice sa4 a.hide.length sc4) := by simp [World.cell?, e1]
          have q4 : w3.cell? ⟨w.heap.size + 1, 4, none⟩ = some (.slice ta4 b.hide.length tc4) := by simp [World.cell?, e2]
          go_wp2_with fail
          refine (eqS_any _ _ _ _ _ (by omega) (hs3.keep (Keep.of_below _ _ hB3)) (ht3.keep (Keep.of_below _ _ hB3))).mono ?_
          rw [C3.out]
          rintro e w4 ⟨rfl, hb3⟩
          have e1 := (hb3.block _ (lt_of_some e1)).trans e1
          have e2 := (hb3.block _ (lt_of_some e2)).trans e2
          have hB4 : Below w.heap.size w w4 := hB3.trans (hb3.mono hB3.size)
          have p0 : w4.cell? ⟨w.heap.size, 0, none⟩ = some (.slice sa0 a.defs.length sc0) := by simp [World.cell?, e1]
          have q0 : w4.cell? ⟨w.heap.size + 1, 0, none⟩ = some (.slice ta0 b.defs.length tc0) := by simp [World.cell?, e2]
          have p1 : w4.cell? ⟨w.heap.size, 1, none⟩ = some (.slice sa1 a.comps.length sc1) := by simp [World.cell?, e1]
          have q1 : w4.cell? ⟨w.heap.size + 1, 1, none⟩ = some (.slice ta1 b.comps.length tc1) := by simp [World.cell?, e2]
          have p2 : w4.cell? ⟨w.heap.size, 2, none⟩ = some (.slice sa2 a.meets.length sc2) := by simp [World.cell?, e1]
          have q2 : w4.cell? ⟨w.heap.size + 1, 2, none⟩ = some (.slice ta2 b.meets.length tc2) := by simp [World.cell?, e2]
          have p3 : w4.cell? ⟨w.heap.size, 3, none⟩ = some (.slice sa3 a.allow.length sc3) := by simp [World.cell?, e1]
          have q3 : w4.cell? ⟨w.heap.size + 1, 3, none⟩ = some (.slice ta3 b.allow.length tc3) := by simp [World.cell?, e2]
          have p4 : w4.cell? ⟨w.heap.size, 4, none⟩ = some (.slice sa4 a.hide.length sc4) := by simp [World.cell?, e1]
          have q4 : w4.cell? ⟨w.heap.size + 1, 4, none⟩ = some (.slice ta4 b.hide.length tc4) := by simp [World.cell?, e2]
          go_wp2_with fail
          go_ret
          exact ⟨rfl, hB4⟩
      · have HF : Hid (decide (a = b) = false) := Lib.hid (decide_eq_false fun h => c2 (by rw [h]))
        rw [HF.out]
        clear HF hlt
        have C0 : Hid (decide (a.defs = b.defs) = true) := Lib.hid (decide_eq_true c0)
        have C1 : Hid (decide (a.comps = b.comps) = true) := Lib.hid (decide_eq_true c1)
        have C2 : Hid (decide (a.meets = b.meets) = false) := Lib.hid (decide_eq_false c2)
        clear c0 c1 c2
        go_enter Try.func20, Try.ntmps20
        have hB0 : ∀ x y : Obj, Below w.heap.size w ((w.alloc x).alloc y) := fun x y => ((Below.refl _ w).alloc (Nat.le_refl _) _).alloc (by simp) _
        go_wp2_with fail
        refine (eqDf_any _ _ _ _ _ (by omega) (hs0.keep (Keep.of_below _ _ (hB0 _ _))) (ht0.keep (Keep.of_below _ _ (hB0 _ _)))).mono ?_
        rw [C0.out]
        rintro e w1 ⟨rfl, hb0⟩
        have e1 := box_one hb0
        have e2 := box_two hb0
        have hB1 : Below w.heap.size w w1 := (hB0 _ _).trans (hb0.mono (by simp; omega))
        have p0 : w1.cell? ⟨w.heap.size, 0, none⟩ = some (.slice sa0 a.defs.length sc0) := by simp [World.cell?, e1]
        have q0 : w1.cell? ⟨w.heap.size + 1, 0, none⟩ = some (.slice ta0 b.defs.length tc0) := by simp [World.cell?, e2]
        have p1 : w1.cell? ⟨w.heap.size, 1, none⟩ = some (.slice sa1 a.comps.length sc1) := by simp [World.cell?, e1]
        have q1 : w1.cell? ⟨w.heap.size + 1, 1, none⟩ = some (.slice ta1 b.comps.length tc1) := by simp [World.cell?, e2]
        have p2 : w1.cell? ⟨w.heap.size, 2, none⟩ = some (.slice sa2 a.meets.length sc2) := by simp [World.cell?, e1]
        have q2 : w1.cell? ⟨w.heap.size + 1, 2, none⟩ = some (.slice ta2 b.meets.length tc2) := by simp [World.cell?, e2]
        have p3 : w1.cell? ⟨w.heap.size, 3, none⟩ = some (.slice sa3 a.allow.length sc3) := by simp [World.cell?, e1]
        have q3 : w1.cell? ⟨w.heap.size + 1, 3, none⟩ = some (.slice ta3 b.allow.length tc3) := by simp [World.cell?, e2]
        have p4 : w1.cell? ⟨w.heap.size, 4, none⟩ = some (.slice sa4 a.hide.length sc4) := by simp [World.cell?, e1]
        have q4 : w1.cell? ⟨w.heap.size + 1, 4, none⟩ = some (.slice ta4 b.hide.length tc4) := by simp [World.cell?, e2]
        go_wp2_with fail
        refine (eqCp_any _ _ _ _ _ (by omega) (hs1.keep (Keep.of_below _ _ hB1)) (ht1.keep (Keep.of_below _ _ hB1))).mono ?_
        rw [C1.out]
        rintro e w2 ⟨rfl, hb1⟩
        have e1 := (hb1.block _ (lt_of_some e1)).trans e1
        have e2 := (hb1.block _ (lt_of_some e2)).trans e2
        have hB2 : Below w.heap.size w w2 := hB1.trans (hb1.mono hB1.size)
        have p0 : w2.cell? ⟨w.heap.size, 0, none⟩ = some (.slice sa0 a.defs.length sc0) := by simp [World.cell?, e1]
        have q0 : w2.cell? ⟨w.heap.size + 1, 0, none⟩ = some (.slice ta0 b.defs.length tc0) := by simp [World.cell?, e2]
        have p1 : w2.cell? ⟨w.heap.size, 1, none⟩ = some (.slice sa1 a.comps.length sc1) := by simp [World.cell?, e1]
        have q1 : w2.cell? ⟨w.heap.size + 1, 1, none⟩ = some (.slice ta1 b.comps.length tc1) := by simp [World.cell?, e2]
        have p2 : w2.cell? ⟨w.heap.size, 2, none⟩ = some (.slice sa2 a.meets.length sc2) := by simp [World.cell?, e1]
        have q2 : w2.cell? ⟨w.heap.size + 1, 2, none⟩ = some (.slice ta2 b.meets.length tc2) := by simp [World.cell?, e2]
        have p3 : w2.cell? ⟨w.heap.size, 3, none⟩ = some (.slice sa3 a.allow.length sc3) := by simp [World.cell?, e1]
        have q3 : w2.cell? ⟨w.heap.size + 1, 3, none⟩ = some (.slice ta3 b.allow.length tc3) := by simp [World.cell?, e2]
        have p4 : w2.cell? ⟨w.heap.size, 4, none⟩ = some (.slice sa4 a.hide.length sc4) := by simp [World.cell?, e1]
        have q4 : w2.cell? ⟨w.heap.size + 1, 4, none⟩ = some (.slice ta4 b.hide.length tc4) := by simp [World.cell?, e2]
        go_wp2_with fail
        refine (eqMt_any _ _ _ _ _ (by omega) (hs2.keep (Keep.of_below _ _ hB2)) (ht2.keep (Keep.of_below _ _ hB2))).mono ?_
        rw [C2.out]
        rintro e w3 ⟨rfl, hb2⟩
        have e1 := (hb2.block _ (lt_of_some e1)).trans e1
        have e2 := (hb2.block _ (lt_of_some e2)).trans e2
        have hB3 : Below w.heap.size w w3 := hB2.trans (hb2.mono hB2.size)
        have p0 : w3.cell? ⟨w.heap.size, 0, none⟩ = some (.slice sa0 a.defs.length sc0) := by simp [World.cell?, e1]
        have q0 : w3.cell? ⟨w.heap.size + 1, 0, none⟩ = some (.slice ta0 b.defs.length tc0) := by simp [World.cell?, e2]
        have p1 : w3.cell? ⟨w.heap.size, 1, none⟩ = some (.slice sa1 a.comps.length sc1) := by simp [World.cell?, e1]
        have q1 : w3.cell? ⟨w.heap.size + 1, 1, none⟩ = some (.slice ta1 b.comps.length tc1) := by simp [World.cell?, e2]
        have p2 : w3.cell? ⟨w.heap.size, 2, none⟩ = some (.slice sa2 a.meets.length sc2) := by simp [World.cell?, e1]
        have q2 : w3.cell? ⟨w.heap.size + 1, 2, none⟩ = some (.slice ta2 b.meets.length tc2) := by simp [World.cell?, e2]
        have p3 : w3.cell? ⟨w.heap.size, 3, none⟩ = some (.slice sa3 a.allow.length sc3) := by simp [World.cell?, e1]
        have q3 : w3.cell? ⟨w.heap.size + 1, 3, none⟩ = some (.slice ta3 b.allow.length tc3) := by simp [World.cell?, e2]
        have p4 : w3.cell? ⟨w.heap.size, 4, none⟩ = some (.slice sa4 a.hide.length sc4) := by simp [World.cell?, e1]
        have q4 : w3.cell? ⟨w.heap.size + 1, 4, none⟩ = some (.slice ta4 b.hide.length tc4) := by simp [World.cell?, e2]
        go_wp2_with fail
        go_ret
        exact ⟨rfl, hB3⟩
    · have HF : Hid (decide (a = b) = false) := Lib.hid (decide_eq_false fun h => c1 (by rw [h]))
      rw [HF.out]
      clear HF hlt
      have C0 : Hid (decide (a.defs = b.defs) = true) := Lib.hid (decide_eq_true c0)
      have C1 : Hid (decide (a.comps = b.comps) = false) := Lib.hid (decide_eq_false c1)
      clear c0 c1
      go_enter Try.func20, Try.ntmps20
      have hB0 : ∀ x y : Obj, Below w.heap.size w ((w.alloc x).alloc y) := fun x y => ((Below.refl _ w).alloc (Nat.le_refl _) _).alloc (by simp) _
      go_wp2_with fail
      refine (eqDf_any _ _ _ _ _ (by omega) (hs0.keep (Keep.of_below _ _ (hB0 _ _))) (ht0.keep (Keep.of_below _ _ (hB0 _ _)))).mono ?_
      rw [C0.out]
      rintro e w1 ⟨rfl, hb0⟩
      have e1 := box_one hb0
      have e2 := box_two hb0
      have hB1 : Below w.heap.size w w1 := (hB0 _ _).trans (hb0.mono (by simp; omega))
      have p0 : w1.cell? ⟨w.heap.size, 0, none⟩ = some (.slice sa0 a.defs.length sc0) := by simp [World.cell?, e1]
      have q0 : w1.cell? ⟨w.heap.size + 1, 0, none⟩ = some (.slice ta0 b.defs.length tc0) := by simp [World.cell?, e2]
      have p1 : w1.cell? ⟨w.heap.size, 1, none⟩ = some (.slice sa1 a.comps.length sc1) := by simp [World.cell?, e1]
      have q1 : w1.cell? ⟨w.heap.size + 1, 1, none⟩ = some (.slice ta1 b.comps.length tc1) := by simp [World.cell?, e2]
      have p2 : w1.cell? ⟨w.heap.size, 2, none⟩ = some (.slice sa2 a.meets.length sc2) := by simp [World.cell?, e1]
      have q2 : w1.cell? ⟨w.heap.size + 1, 2, none⟩ = some (.slice ta2 b.meets.length tc2) := by simp [World.cell?, e2]
      have p3 : w1.cell? ⟨w.heap.size, 3, none⟩ = some (.slice sa3 a.allow.length sc3) := by simp [World.cell?, e1]
      have q3 : w1.cell? ⟨w.heap.size + 1, 3, none⟩ = some (.slice ta3 b.allow.length tc3) := by simp [World.cell?, e2]
      have p4 : w1.cell? ⟨w.heap.size, 4, none⟩ = some (.slice sa4 a.hide.length sc4) := by simp [World.cell?, e1]
      have q4 : w1.cell? ⟨w.heap.size + 1, 4, none⟩ = some (.slice ta4 b.hide.length tc4) := by simp [World.cell?, e2]
      go_wp2_with fail
      refine (eqCp_any _ _ _ _ _ (by omega) (hs1.keep (Keep.of_below _ _ hB1)) (ht1.keep (Keep.of_below _ _ hB1))).mono ?_
      rw [C1.out]
      rintro e w2 ⟨rfl, hb1⟩
      have e1 := (hb1.block _ (lt_of_some e1)).trans e1
      have e2 := (hb1.block _ (lt_of_some e2)).trans e2
      have hB2 : Below w.heap.size w w2 := hB1.trans (hb1.mono hB1.size)
      have p0 : w2.cell? ⟨w.heap.size, 0, none⟩ = some (.slice sa0 a.defs.length sc0) := by simp [World.cell?, e1]
      have q0 : w2.cell? ⟨w.heap.size + 1, 0, none⟩ = some (.slice ta0 b.defs.length tc0) := by simp [World.cell?, e2]
      have p1 : w2.cell? ⟨w.heap.size, 1, none⟩ = some (.slice sa1 a.comps.length sc1) := by simp [World.cell?, e1]
      have q1 : w2.cell? ⟨w.heap.size + 1, 1, none⟩ = some (.slice ta1 b.comps.length tc1) := by simp [World.cell?, e2]
      have p2 : w2.cell? ⟨w.heap.size, 2, none⟩ = some (.slice sa2 a.meets.length sc2) := by simp [World.cell?, e1]
      have q2 : w2.cell? ⟨w.heap.size + 1, 2, none⟩ = some (.slice ta2 b.meets.length tc2) := by simp [World.cell?, e2]
      have p3 : w2.cell? ⟨w.heap.size, 3, none⟩ = some (.slice sa3 a.allow.length sc3) := by simp [World.cell?, e1]
      have q3 : w2.cell? ⟨w.heap.size + 1, 3, none⟩ = some (.slice ta3 b.allow.length tc3) := by simp [World.cell?, e2]
      have p4 : w2.cell? ⟨w.heap.size, 4, none⟩ = some (.slice sa4 a.hide.length sc4) := by simp [World.cell?, e1]
      have q4 : w2.cell? ⟨w.heap.size + 1, 4, none⟩ = some (.slice ta4 b.hide.length tc4) := by simp [World.cell?, e2]
      go_wp2_with fail
      go_ret
      exact ⟨rfl, hB2⟩
  · have HF : Hid (decide (a = b) = false) := Lib.hid (decide_eq_false fun h => c0 (by rw [h]))
    rw [HF.out]
    clear HF hlt
    have C0 : Hid (decide (a.defs = b.defs) = false) := Lib.hid (decide_eq_false c0)
    clear c0
    go_enter Try.func20, Try.ntmps20
    have hB0 : ∀ x y : Obj, Below w.heap.size w ((w.alloc x).alloc y) := fun x y => ((Below.refl _ w).alloc (Nat.le_refl _) _).alloc (by simp) _
    go_wp2_with fail
    refine (eqDf_any _ _ _ _ _ (by omega) (hs0.keep (Keep.of_below _ _ (hB0 _ _))) (ht0.keep (Keep.of_below _ _ (hB0 _ _)))).mono ?_
    rw [C0.out]
    rintro e w1 ⟨rfl, hb0⟩
    have e1 := box_one hb0
    have e2 := box_two hb0
    have hB1 : Below w.heap.size w w1 := (hB0 _ _).trans (hb0.mono (by simp; omega))
    have p0 : w1.cell? ⟨w.heap.size, 0, none⟩ = some (.slice sa0 a.defs.length sc0) := by simp [World.cell?, e1]
    have q0 : w1.cell? ⟨w.heap.size + 1, 0, none⟩ = some (.slice ta0 b.defs.length tc0) := by simp [World.cell?, e2]
    have p1 : w1.cell? ⟨w.heap.size, 1, none⟩ = some (.slice sa1 a.comps.length sc1) := by simp [World.cell?, e1]
    have q1 : w1.cell? ⟨w.heap.size + 1, 1, none⟩ = some (.slice ta1 b.comps.length tc1) := by simp [World.cell?, e2]
    have p2 : w1.cell? ⟨w.heap.size, 2, none⟩ = some (.slice sa2 a.meets.length sc2) := by simp [World.cell?, e1]
    have q2 : w1.cell? ⟨w.heap.size + 1, 2, none⟩ = some (.slice ta2 b.meets.length tc2) := by simp [World.cell?, e2]
    have p3 : w1.cell? ⟨w.heap.size, 3, none⟩ = some (.slice sa3 a.allow.length sc3) := by simp [World.cell?, e1]
    have q3 : w1.cell? ⟨w.heap.size + 1, 3, none⟩ = some (.slice ta3 b.allow.length tc3) := by simp [World.cell?, e2]
    have p4 : w1.cell? ⟨w.heap.size, 4, none⟩ = some (.slice sa4 a.hide.length sc4) := by simp [World.cell?, e1]
    have q4 : w1.cell? ⟨w.heap.size + 1, 4, none⟩ = some (.slice ta4 b.hide.length tc4) := by simp [World.cell?, e2]
    go_wp2_with fail
    go_ret
    exact ⟨rfl, hB1⟩
end Go.Proofs.Ytdlldgenkmngiaa
