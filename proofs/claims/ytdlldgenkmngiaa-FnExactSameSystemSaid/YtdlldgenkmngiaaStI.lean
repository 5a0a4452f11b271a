/- Systems held against each other, by the program; arguments that are structs. -/
import Derived.Test.YtdlldgenkmngiaaProg
import Derived.Test.YtdlldgenkmngiaaMem
import Derived.Test.YtdlldgenkmngiaaMath
import Derived.Test.YtdlldgenkmngiaaBasics
import Derived.Test.YtdlldgenkmngiaaOpenI
import Derived.Test.YtdlldgenkmngiaaHelpI
import Derived.Test.YtdlldgenkmngiaaGrid
import Derived.Test.YtdlldgenkmngiaaRows2
import Derived.Test.YtdlldgenkmngiaaSt
import Derived.Test.YtdlldgenkmngiaaStCmp
import Derived.Test.YtdlldgenkmngiaaStEq
import Derived.Test.YtdlldgenkmngiaaOpenG
import Derived.Test.YtdlldgenkmngiaaRows
import Derived.Lib.LaidTab
import Derived.DataElems
import Derived.DataReads
import Derived.ProofKit
import Derived.OpenShut
import Derived.ShutString
import Derived.ChangeOld
import Derived.Below
import Derived.Laws.StructEq
import Derived.WalkKit
import Derived.BigQuiet
import Derived.BigRegion
import Derived.StillTailTactics
import Derived.Deep.QuietTactic
import Derived.Laws.ResultCell
import Derived.Laws.OwnMore
import Derived.Lib.Hide
import Derived.Outline
set_option linter.unusedVariables false
set_option linter.unusedSimpArgs false
namespace Go.Proofs.Ytdlldgenkmngiaa
open Go.ChangeShapes Go.WideShapes Go.ChangeAt Go.RowKit

set_option maxRecDepth 100000 in
theorem openLts {H : Type} {enc : TypeId × Value → H} {W : World} {base lo : Nat} {v : Value} {d : DataW H} {p : List MemPlace} {sp : Nat → Bool} {held : Bool}
    (hv : Value.okWide Try.prog W .any base 32 v) (h : DataW.Trod enc Try.prog W lo sp held 32 v d p) (lt : ∀ x ∈ p, x.block < W.heap.size) : ∃ n, AtLt W v n := by
  obtain ⟨cs, rfl, hsz⟩ := okWide_struct Try.underlying32 hv
  have hsz : cs.size = 4 := hsz.trans (by kernel_rfl)
  obtain ⟨c0, c1, c2, c3, rfl⟩ : ∃ c0 c1 c2 c3, cs = #[c0, c1, c2, c3] := by
    obtain ⟨l⟩ := cs
    match l, hsz with
    | [c0, c1, c2, c3], _ => exact ⟨c0, c1, c2, c3, rfl⟩
  obtain ⟨fuel, hy⟩ := h
  change DataW.trod enc Try.prog W lo sp held fuel 32 [c0, c1, c2, c3] = some (d, p) at hy
  obtain ⟨ys, n', _, _, _, hl, hg⟩ := DataW.trod_struct Try.underlying32 hy
  have h0 := (hg 0 _ rfl).trans (List.getElem?_eq_getElem (show 0 < ys.length by rw [hl]; decide))
  have h1 := (hg 1 _ rfl).trans (List.getElem?_eq_getElem (show 1 < ys.length by rw [hl]; decide))
  have h2 := (hg 2 _ rfl).trans (List.getElem?_eq_getElem (show 2 < ys.length by rw [hl]; decide))
  have h3 := (hg 3 _ rfl).trans (List.getElem?_eq_getElem (show 3 < ys.length by rw [hl]; decide))
  have t0 : List.take (Try.prog.cellsOf 2) (List.drop 0 [c0, c1, c2, c3]) = [c0] := by
    rw [show Try.prog.cellsOf 2 = 1 by kernel_rfl]; rfl
  have t1 : List.take (Try.prog.cellsOf 2) (List.drop 1 [c0, c1, c2, c3]) = [c1] := by
    rw [show Try.prog.cellsOf 2 = 1 by kernel_rfl]; rfl
  have t2 : List.take (Try.prog.cellsOf 29) (List.drop 2 [c0, c1, c2, c3]) = [c2] := by
    rw [show Try.prog.cellsOf 29 = 1 by kernel_rfl]; rfl
  have t3 : List.take (Try.prog.cellsOf 30) (List.drop 3 [c0, c1, c2, c3]) = [c3] := by
    rw [show Try.prog.cellsOf 30 = 1 by kernel_rfl]; rfl
  obtain ⟨x0, e0, _, w0⟩ := DataW.trod_int Try.underlying2 h0
  have f0 := t0.symm.trans e0
  simp only [List.cons.injEq, and_true] at f0
  subst f0
  obtain ⟨x1, e1, _, w1⟩ := DataW.trod_int Try.underlying2 h1
  have f1 := t1.symm.trans e1
  simp only [List.cons.injEq, and_true] at f1
  subst f1
  obtain ⟨y2, k2⟩ : ∃ y, DataW.trod enc Try.prog W lo sp held n' 29 [c2] = some y := ⟨_, (congrArg (DataW.trod enc Try.prog W lo sp held n' 29) t2).symm.trans h2⟩
  obtain ⟨x2, f2, w2⟩ := openS_cell k2
  replace f2 := f2.gs
  obtain ⟨sa2, sc2, rfl, _⟩ := Rws.slice f2
  obtain ⟨y3, k3⟩ : ∃ y, DataW.trod enc Try.prog W lo sp held n' 30 [c3] = some y := ⟨_, (congrArg (DataW.trod enc Try.prog W lo sp held n' 30) t3).symm.trans h3⟩
  obtain ⟨x3, f3, w3⟩ := openC_Eg k3
  obtain ⟨sa3, sc3, rfl, _⟩ := Rws.slice f3
  exact ⟨⟨x0, x1, x2, x3⟩, sa2, sa3, sc2, sc3, rfl, f2, f3, ⟨w2, w3⟩⟩
set_option maxRecDepth 100000 in
theorem openSystem {H : Type} {enc : TypeId × Value → H} {W : World} {base lo : Nat} {v : Value} {d : DataW H} {p : List MemPlace} {sp : Nat → Bool} {held : Bool}
    (hv : Value.okWide Try.prog W .any base 44 v) (h : DataW.Trod enc Try.prog W lo sp held 44 v d p) (lt : ∀ x ∈ p, x.block < W.heap.size) : ∃ n, AtSy W v n := by
  obtain ⟨cs, rfl, hsz⟩ := okWide_struct Try.underlying44 hv
  have hsz : cs.size = 5 := hsz.trans (by kernel_rfl)
  obtain ⟨c0, c1, c2, c3, c4, rfl⟩ : ∃ c0 c1 c2 c3 c4, cs = #[c0, c1, c2, c3, c4] := by
    obtain ⟨l⟩ := cs
    match l, hsz with
    | [c0, c1, c2, c3, c4], _ => exact ⟨c0, c1, c2, c3, c4, rfl⟩
  obtain ⟨fuel, hy⟩ := h
  change DataW.trod enc Try.prog W lo sp held fuel 44 [c0, c1, c2, c3, c4] = some (d, p) at hy
  obtain ⟨ys, n', _, _, _, hl, hg⟩ := DataW.trod_struct Try.underlying44 hy
  have h0 := (hg 0 _ rfl).trans (List.getElem?_eq_getElem (show 0 < ys.length by rw [hl]; decide))
  have h1 := (hg 1 _ rfl).trans (List.getElem?_eq_getElem (show 1 < ys.length by rw [hl]; decide))
  have h2 := (hg 2 _ rfl).trans (List.getElem?_eq_getElem (show 2 < ys.length by rw [hl]; decide))
  have h3 := (hg 3 _ rfl).trans (List.getElem?_eq_getElem (show 3 < ys.length by rw [hl]; decide))
  have h4 := (hg 4 _ rfl).trans (List.getElem?_eq_getElem (show 4 < ys.length by rw [hl]; decide))
  have t0 : List.take (Try.prog.cellsOf 40) (List.drop 0 [c0, c1, c2, c3, c4]) = [c0] := by
    rw [show Try.prog.cellsOf 40 = 1 by kernel_rfl]; rfl
  have t1 : List.take (Try.prog.cellsOf 41) (List.drop 1 [c0, c1, c2, c3, c4]) = [c1] := by
    rw [show Try.prog.cellsOf 41 = 1 by kernel_rfl]; rfl
  have t2 : List.take (Try.prog.cellsOf 42) (List.drop 2 [c0, c1, c2, c3, c4]) = [c2] := by
    rw [show Try.prog.cellsOf 42 = 1 by kernel_rfl]; rfl
  have t3 : List.take (Try.prog.cellsOf 29) (List.drop 3 [c0, c1, c2, c3, c4]) = [c3] := by
    rw [show Try.prog.cellsOf 29 = 1 by kernel_rfl]; rfl
  have t4 : List.take (Try.prog.cellsOf 29) (List.drop 4 [c0, c1, c2, c3, c4]) = [c4] := by
    rw [show Try.prog.cellsOf 29 = 1 by kernel_rfl]; rfl
  obtain ⟨y0, k0⟩ : ∃ y, DataW.trod enc Try.prog W lo sp held n' 40 [c0] = some y := ⟨_, (congrArg (DataW.trod enc Try.prog W lo sp held n' 40) t0).symm.trans h0⟩
  obtain ⟨x0, f0, w0⟩ := openC_Df k0
  obtain ⟨sa0, sc0, rfl, _⟩ := Rws.slice f0
  obtain ⟨y1, k1⟩ : ∃ y, DataW.trod enc Try.prog W lo sp held n' 41 [c1] = some y := ⟨_, (congrArg (DataW.trod enc Try.prog W lo sp held n' 41) t1).symm.trans h1⟩
  obtain ⟨x1, f1, w1⟩ := openC_Cp k1
  obtain ⟨sa1, sc1, rfl, _⟩ := Rws.slice f1
  obtain ⟨y2, k2⟩ : ∃ y, DataW.trod enc Try.prog W lo sp held n' 42 [c2] = some y := ⟨_, (congrArg (DataW.trod enc Try.prog W lo sp held n' 42) t2).symm.trans h2⟩
  obtain ⟨x2, f2, w2⟩ := openC_Mt k2
  obtain ⟨sa2, sc2, rfl, _⟩ := Rws.slice f2
  obtain ⟨y3, k3⟩ : ∃ y, DataW.trod enc Try.prog W lo sp held n' 29 [c3] = some y := ⟨_, (congrArg (DataW.trod enc Try.prog W lo sp held n' 29) t3).symm.trans h3⟩
  obtain ⟨x3, f3, w3⟩ := openS_cell k3
  replace f3 := f3.gs
  obtain ⟨sa3, sc3, rfl, _⟩ := Rws.slice f3
  obtain ⟨y4, k4⟩ : ∃ y, DataW.trod enc Try.prog W lo sp held n' 29 [c4] = some y := ⟨_, (congrArg (DataW.trod enc Try.prog W lo sp held n' 29) t4).symm.trans h4⟩
  obtain ⟨x4, f4, w4⟩ := openS_cell k4
  replace f4 := f4.gs
  obtain ⟨sa4, sc4, rfl, _⟩ := Rws.slice f4
  exact ⟨⟨x0, x1, x2, x3, x4⟩, sa0, sa1, sa2, sa3, sa4, sc0, sc1, sc2, sc3, sc4, rfl, f0, f1, f2, f3, f4, ⟨w0, w1, w2, w3, w4⟩⟩
set_option maxRecDepth 100000 in
theorem openVertex {H : Type} {enc : TypeId × Value → H} {W : World} {base lo : Nat} {v : Value} {d : DataW H} {p : List MemPlace} {sp : Nat → Bool} {held : Bool}
    (hv : Value.okWide Try.prog W .any base 22 v) (h : DataW.Trod enc Try.prog W lo sp held 22 v d p) (lt : ∀ x ∈ p, x.block < W.heap.size) : ∃ f, GVx W 0 W.heap.size v f ∧ okVx f := by
  obtain ⟨a, len, cap, rfl⟩ := okWide_slice Try.underlying22 hv
  obtain ⟨fuel, hf⟩ := h
  exact openC_Vx (v := .slice a len cap) hf
set_option maxRecDepth 100000 in
set_option maxHeartbeats 1600000 in
theorem eqFuncTmS_any {lo hi lo2 hi2 : Nat} (va vb : Value) (f g : List (List Tm)) (w : World) (hn : totTmS f ≤ 1048576) (ha : GTmS w lo hi va f) (hb : GTmS w lo2 hi2 vb g) :
    Calls Try.prog 80 #[va, vb, .func (.func 81) #[] #[]] w fun e w' => e = .returned (.bool (decide (f = g))) ∧ Below w.heap.size w w' := by
  have HVa := Lib.hid ha
  have HVb := Lib.hid hb
  obtain ⟨a, capa, rfl, hcapa, hma⟩ := Rws.slice ha
  obtain ⟨b, capb, rfl, hcapb, hmb⟩ := Rws.slice hb
  unfold maxLen at hma hmb
  clear ha hb
  unfold totTmS at hn
  have hln : f.length ≤ 1048576 := by omega
  have Hwt : Hid (∀ i, i < f.length → totTm (gnth tms0 f i) ≤ 1048576) := Lib.hid (fun i hi => by
    have h : totTm (gnth tms0 f i) ≤ _ := sumTo_le (fun i => totTm (gnth tms0 f i)) hi
    omega)
  clear hn
  by_cases hl : f.length = g.length
  · obtain ⟨n, hxn⟩ : ∃ n, n = f.length := ⟨_, rfl⟩
    rw [← hxn] at hl
    rw [← hl] at hcapb HVb ⊢
    rw [← hxn] at hcapa HVa hln ⊢
    have Hxn := Lib.hid hxn; clear hxn
    have Hyn := Lib.hid hl; clear hl
    go_enter Try.func80, Try.ntmps80
    go_wp2_with fail
    go_loopw [17] (fun si wr => ∃ k : Nat, k ≤ n ∧ si = .int .i64 k ∧ Hid (f.take k = g.take k) ∧ Below w.heap.size w wr) (fun si _ => n - (intOf si).toNat)
    case atStart => exact ⟨0, Nat.zero_le _, rfl, Lib.hid rfl, Below.refl _ _⟩
    case round =>
      obtain ⟨k, hk, rfl, heq, hbl⟩ := hrel
      by_cases hlt : k < n
      · have hkf : k < f.length := by rw [← Hxn.out]; exact hlt
        have hkg : k < g.length := by rw [← Hyn.out]; exact hlt
        obtain ⟨ba, oa, rfl, hba, pa0, pc0, p0, pG0⟩ := GTmS.cells HVa.out hkf
        obtain ⟨bb, ob, rfl, hbb, qa0, qc0, q0, qG0⟩ := GTmS.cells HVb.out hkg
        have a0 := (hbl.cell (by exact hba)).trans p0
        have c0 := (hbl.cell (by exact hbb)).trans q0
        obtain ⟨Y, hY⟩ : ∃ Y, Y = gnth tms0 f k := ⟨_, rfl⟩
        obtain ⟨Z, hZ⟩ : ∃ Z, Z = gnth tms0 g k := ⟨_, rfl⟩
        have hwk := Hwt.out k hkf
        rw [← hY] at hwk a0 pG0
        rw [← hZ] at c0 qG0
        have HpG0 := Lib.hid (pG0.keep (Keep.of_below _ _ hbl))
        clear pG0
        have HqG0 := Lib.hid (qG0.keep (Keep.of_below _ _ hbl))
        clear qG0
        have HY := Lib.hid hY
        have HZ := Lib.hid hZ
        clear hY hZ p0 q0
        have HN : Hid (Y = Z → f.take (k + 1) = g.take (k + 1)) := Lib.hid (fun e => by rw [take_gnth tms0 f k hkf, take_gnth tms0 g k hkg, heq.out, ← HY.out, ← HZ.out, e])
        have HF : Hid (Y ≠ Z → decide (f = g) = false) := Lib.hid (fun e => decide_eq_false fun h => e (by rw [HY.out, HZ.out, h]))
        go_wp2_with fail
        refine (calls_below (sEqTm_q _ _ Y Z _ (by unfold totTm at hwk; omega) HpG0.out HqG0.out)).mono ?_
        by_cases e : Y = Z
        · have HN2 := Lib.hid (HN.out e)
          rw [decide_eq_true e]
          rintro e w3 ⟨rfl, hb3⟩
          clear HN HF e
          go_wp2_with fail
          go_roundw
          case rel => exact ⟨k + 1, by omega, by go_num, HN2, (below_trans' hbl hb3)⟩
          case measure => simp [intOf]; omega
        · have HF2 := Lib.hid (HF.out e)
          rw [decide_eq_false e]
          rintro e w3 ⟨rfl, hb3⟩
          clear HN HF e
          go_wp2_with fail
          go_ret
          exact ⟨by rw [HF2.out]; rfl, (below_trans' hbl hb3)⟩
      · obtain rfl : k = n := by omega
        have HE : Hid (decide (f = g) = true) := Lib.hid (by
          have h := heq.out
          rw [List.take_of_length_le (by rw [Hxn.out]; exact Nat.le_refl _), List.take_of_length_le (by rw [Hyn.out]; exact Nat.le_refl _)] at h
          exact decide_eq_true h)
        go_wp2_with fail
        go_ret
        exact ⟨by rw [HE.out]; rfl, hbl⟩
  · have hne : decide (f = g) = false := decide_eq_false fun e => hl (by rw [e])
    rw [hne]
    have h1 : ((f.length : Int) != (g.length : Int)) = true := by simp; omega
    clear hne hl
    go_enter Try.func80, Try.ntmps80
    go_wp2_with fail
    go_ret
    exact ⟨rfl, Below.refl _ _⟩
set_option maxRecDepth 100000 in
set_option maxHeartbeats 1600000 in
theorem samePart_any {lo hi lo2 hi2 : Nat} (a b : Pt) {sa3 : Option Addr} {sc3 : Nat} {ta3 : Option Addr} {tc3 : Nat} (w : World) (hn : wtPt a ≤ 1048576) (hs3 : GTmS w lo hi (.slice sa3 a.args.length sc3) a.args) (ht3 : GTmS w lo2 hi2 (.slice ta3 b.args.length tc3) b.args) :
    Calls Try.prog 72 #[.agg #[.int .i64 a.kind, .int .i64 a.num, .string a.name, .slice sa3 a.args.length sc3], .agg #[.int .i64 b.kind, .int .i64 b.num, .string b.name, .slice ta3 b.args.length tc3]] w fun e w' => e = .returned (.bool (decide (a = b))) ∧ Below w.heap.size w w' := by
  have hlt : ∀ x y : ByteArray, (x.toList == y.toList) = decide (x = y) := beq_txt
  unfold wtPt at hn
  by_cases c0 : a.kind = b.kind
  · by_cases c1 : a.num = b.num
    · by_cases c2 : a.name = b.name
      · by_cases c3 : a.args = b.args
        · have HF : Hid (decide (a = b) = true) := Lib.hid (by
            cases a
            cases b
            simp only [decide_eq_true_eq]
            simp_all)
          have n0 : (a.kind == b.kind) = true := by simpa using c0
          have n1 : (a.num == b.num) = true := by simpa using c1
          have n2 : (a.name.toList == b.name.toList) = true := by rw [hlt]; exact decide_eq_true c2
          rw [HF.out]
          clear HF hlt
          have C3 : Hid (decide (a.args = b.args) = true) := Lib.hid (decide_eq_true c3)
          clear c0 c1 c2 c3
          go_enter Try.func72, Try.ntmps72
          have hB0 : ∀ x y : Obj, Below w.heap.size w ((w.alloc x).alloc y) := fun x y => ((Below.refl _ w).alloc (Nat.le_refl _) _).alloc (by simp) _
          go_wp2_with fail
          refine (eqFuncTmS_any _ _ _ _ _ (by omega) (hs3.keep (Keep.of_below _ _ (hB0 _ _))) (ht3.keep (Keep.of_below _ _ (hB0 _ _)))).mono ?_
          rw [C3.out]
          rintro e w4 ⟨rfl, hb3⟩
          have e1 := box_one hb3
          have e2 := box_two hb3
          have hB4 : Below w.heap.size w w4 := (hB0 _ _).trans (hb3.mono (by simp; omega))
          have p0 : w4.cell? ⟨w.heap.size, 0, none⟩ = some (.int .i64 a.kind) := by simp [World.cell?, e1]
          have q0 : w4.cell? ⟨w.heap.size + 1, 0, none⟩ = some (.int .i64 b.kind) := by simp [World.cell?, e2]
          have p1 : w4.cell? ⟨w.heap.size, 1, none⟩ = some (.int .i64 a.num) := by simp [World.cell?, e1]
          have q1 : w4.cell? ⟨w.heap.size + 1, 1, none⟩ = some (.int .i64 b.num) := by simp [World.cell?, e2]
          have p2 : w4.cell? ⟨w.heap.size, 2, none⟩ = some (.string a.name) := by simp [World.cell?, e1]
          have q2 : w4.cell? ⟨w.heap.size + 1, 2, none⟩ = some (.string b.name) := by simp [World.cell?, e2]
          have p3 : w4.cell? ⟨w.heap.size, 3, none⟩ = some (.slice sa3 a.args.length sc3) := by simp [World.cell?, e1]
          have q3 : w4.cell? ⟨w.heap.size + 1, 3, none⟩ = some (.slice ta3 b.args.length tc3) := by simp [World.cell?, e2]
          go_wp2_with fail
          go_ret
          exact ⟨rfl, hB4⟩
        · have HF : Hid (decide (a = b) = false) := Lib.hid (decide_eq_false fun h => c3 (by rw [h]))
          have n0 : (a.kind == b.kind) = true := by simpa using c0
          have n1 : (a.num == b.num) = true := by simpa using c1
          have n2 : (a.name.toList == b.name.toList) = true := by rw [hlt]; exact decide_eq_true c2
          rw [HF.out]
          clear HF hlt
          have C3 : Hid (decide (a.args = b.args) = false) := Lib.hid (decide_eq_false c3)
          clear c0 c1 c2 c3
          go_enter Try.func72, Try.ntmps72
          have hB0 : ∀ x y : Obj, Below w.heap.size w ((w.alloc x).alloc y) := fun x y => ((Below.refl _ w).alloc (Nat.le_refl _) _).alloc (by simp) _
          go_wp2_with fail
          refine (eqFuncTmS_any _ _ _ _ _ (by omega) (hs3.keep (Keep.of_below _ _ (hB0 _ _))) (ht3.keep (Keep.of_below _ _ (hB0 _ _)))).mono ?_
          rw [C3.out]
          rintro e w4 ⟨rfl, hb3⟩
          have e1 := box_one hb3
          have e2 := box_two hb3
          have hB4 : Below w.heap.size w w4 := (hB0 _ _).trans (hb3.mono (by simp; omega))
          have p0 : w4.cell? ⟨w.heap.size, 0, none⟩ = some (.int .i64 a.kind) := by simp [World.cell?, e1]
          have q0 : w4.cell? ⟨w.heap.size + 1, 0, none⟩ = some (.int .i64 b.kind) := by simp [World.cell?, e2]
          have p1 : w4.cell? ⟨w.heap.size, 1, none⟩ = some (.int .i64 a.num) := by simp [World.cell?, e1]
          have q1 : w4.cell? ⟨w.heap.size + 1, 1, none⟩ = some (.int .i64 b.num) := by simp [World.cell?, e2]
          have p2 : w4.cell? ⟨w.heap.size, 2, none⟩ = some (.string a.name) := by simp [World.cell?, e1]
          have q2 : w4.cell? ⟨w.heap.size + 1, 2, none⟩ = some (.string b.name) := by simp [World.cell?, e2]
          have p3 : w4.cell? ⟨w.heap.size, 3, none⟩ = some (.slice sa3 a.args.length sc3) := by simp [World.cell?, e1]
          have q3 : w4.cell? ⟨w.heap.size + 1, 3, none⟩ = some (.slice ta3 b.args.length tc3) := by simp [World.cell?, e2]
          go_wp2_with fail
          go_ret
          exact ⟨rfl, hB4⟩
      · have HF : Hid (decide (a = b) = false) := Lib.hid (decide_eq_false fun h => c2 (by rw [h]))
        have n0 : (a.kind == b.kind) = true := by simpa using c0
        have n1 : (a.num == b.num) = true := by simpa using c1
        have n2 : (a.name.toList == b.name.toList) = false := by rw [hlt]; exact decide_eq_false c2
        rw [HF.out]
        clear HF hlt
        clear c0 c1 c2
        go_enter Try.func72, Try.ntmps72
        have hB0 : ∀ x y : Obj, Below w.heap.size w ((w.alloc x).alloc y) := fun x y => ((Below.refl _ w).alloc (Nat.le_refl _) _).alloc (by simp) _
        go_wp2_with fail
        go_ret
        exact ⟨rfl, (hB0 _ _)⟩
    · have HF : Hid (decide (a = b) = false) := Lib.hid (decide_eq_false fun h => c1 (by rw [h]))
      have n0 : (a.kind == b.kind) = true := by simpa using c0
      have n1 : (a.num == b.num) = false := by simpa using c1
      rw [HF.out]
      clear HF hlt
      clear c0 c1
      go_enter Try.func72, Try.ntmps72
      have hB0 : ∀ x y : Obj, Below w.heap.size w ((w.alloc x).alloc y) := fun x y => ((Below.refl _ w).alloc (Nat.le_refl _) _).alloc (by simp) _
      go_wp2_with fail
      go_ret
      exact ⟨rfl, (hB0 _ _)⟩
  · have HF : Hid (decide (a = b) = false) := Lib.hid (decide_eq_false fun h => c0 (by rw [h]))
    have n0 : (a.kind == b.kind) = false := by simpa using c0
    rw [HF.out]
    clear HF hlt
    clear c0
    go_enter Try.func72, Try.ntmps72
    have hB0 : ∀ x y : Obj, Below w.heap.size w ((w.alloc x).alloc y) := fun x y => ((Below.refl _ w).alloc (Nat.le_refl _) _).alloc (by simp) _
    go_wp2_with fail
    go_ret
    exact ⟨rfl, (hB0 _ _)⟩
set_option maxRecDepth 100000 in
set_option maxHeartbeats 1600000 in
theorem eqFuncPt_any {lo hi lo2 hi2 : Nat} (va vb : Value) (f g : List Pt) (w : World) (hn : totPt f ≤ 1048576) (ha : GPt w lo hi va f) (hb : GPt w lo2 hi2 vb g) :
    Calls Try.prog 71 #[va, vb, .func (.func 72) #[] #[]] w fun e w' => e = .returned (.bool (decide (f = g))) ∧ Below w.heap.size w w' := by
  have HVa := Lib.hid ha
  have HVb := Lib.hid hb
  obtain ⟨a, capa, rfl, hcapa, hma⟩ := Rws.slice ha
  obtain ⟨b, capb, rfl, hcapb, hmb⟩ := Rws.slice hb
  unfold maxLen at hma hmb
  clear ha hb
  unfold totPt at hn
  have hln : f.length ≤ 1048576 := by omega
  have Hwt : Hid (∀ i, i < f.length → wtPt (gnth pt0 f i) ≤ 1048576) := Lib.hid (fun i hi => by
    have h : wtPt (gnth pt0 f i) ≤ _ := sumTo_le (fun i => wtPt (gnth pt0 f i)) hi
    omega)
  clear hn
  by_cases hl : f.length = g.length
  · obtain ⟨n, hxn⟩ : ∃ n, n = f.length := ⟨_, rfl⟩
    rw [← hxn] at hl
    rw [← hl] at hcapb HVb ⊢
    rw [← hxn] at hcapa HVa hln ⊢
    have Hxn := Lib.hid hxn; clear hxn
    have Hyn := Lib.hid hl; clear hl
    go_enter Try.func71, Try.ntmps71
    go_wp2_with fail
    go_loopw [17] (fun si wr => ∃ k : Nat, k ≤ n ∧ si = .int .i64 k ∧ Hid (f.take k = g.take k) ∧ Below w.heap.size w wr) (fun si _ => n - (intOf si).toNat)
    case atStart => exact ⟨0, Nat.zero_le _, rfl, Lib.hid rfl, Below.refl _ _⟩
    case round =>
      obtain ⟨k, hk, rfl, heq, hbl⟩ := hrel
      by_cases hlt : k < n
      · have hkf : k < f.length := by rw [← Hxn.out]; exact hlt
        have hkg : k < g.length := by rw [← Hyn.out]; exact hlt
        obtain ⟨ba, oa, rfl, hba, p0, p1, p2, pa3, pc3, p3, pG3⟩ := GPt.cells HVa.out hkf
        obtain ⟨bb, ob, rfl, hbb, q0, q1, q2, qa3, qc3, q3, qG3⟩ := GPt.cells HVb.out hkg
        have a0 := (hbl.cell (by exact hba)).trans p0
        have c0 := fun o => ((hbl.alloc hbl.size o).cell (by exact hbb)).trans q0
        have a1 := (hbl.cell (by exact hba)).trans p1
        have c1 := fun o => ((hbl.alloc hbl.size o).cell (by exact hbb)).trans q1
        have a2 := (hbl.cell (by exact hba)).trans p2
        have c2 := fun o => ((hbl.alloc hbl.size o).cell (by exact hbb)).trans q2
        have a3 := (hbl.cell (by exact hba)).trans p3
        have c3 := fun o => ((hbl.alloc hbl.size o).cell (by exact hbb)).trans q3
        have hbz : ∀ x y, Below wr.heap.size wr ((wr.alloc x).alloc y) := fun x y => ((Below.refl _ _).alloc (Nat.le_refl _) _).alloc (by simp) _
        obtain ⟨Y, hY⟩ : ∃ Y, Y = gnth pt0 f k := ⟨_, rfl⟩
        obtain ⟨Z, hZ⟩ : ∃ Z, Z = gnth pt0 g k := ⟨_, rfl⟩
        have hwk := Hwt.out k hkf
        rw [← hY] at hwk a0 a1 a2 a3 pG3
        rw [← hZ] at c0 c1 c2 c3 qG3
        have HpG3 := Lib.hid (pG3.keep (Keep.of_below _ _ hbl))
        clear pG3
        have HqG3 := Lib.hid (qG3.keep (Keep.of_below _ _ hbl))
        clear qG3
        have HY := Lib.hid hY
        have HZ := Lib.hid hZ
        clear hY hZ p0 q0 p1 q1 p2 q2 p3 q3
        have HN : Hid (Y = Z → f.take (k + 1) = g.take (k + 1)) := Lib.hid (fun e => by rw [take_gnth pt0 f k hkf, take_gnth pt0 g k hkg, heq.out, ← HY.out, ← HZ.out, e])
        have HF : Hid (Y ≠ Z → decide (f = g) = false) := Lib.hid (fun e => decide_eq_false fun h => e (by rw [HY.out, HZ.out, h]))
        go_wp2_with fail
        refine (samePart_any Y Z _ hwk (HpG3.out.keep (Keep.of_below _ _ (hbz _ _))) (HqG3.out.keep (Keep.of_below _ _ (hbz _ _)))).mono ?_
        by_cases e : Y = Z
        · have HN2 := Lib.hid (HN.out e)
          rw [decide_eq_true e]
          rintro e w3 ⟨rfl, hb3⟩
          clear HN HF e
          go_wp2_with fail
          go_roundw
          case rel => exact ⟨k + 1, by omega, by go_num, HN2, (hbl.trans (((hbz _ _).trans (hb3.mono (hbz _ _).size)).mono hbl.size))⟩
          case measure => simp [intOf]; omega
        · have HF2 := Lib.hid (HF.out e)
          rw [decide_eq_false e]
          rintro e w3 ⟨rfl, hb3⟩
          clear HN HF e
          go_wp2_with fail
          go_ret
          exact ⟨by rw [HF2.out]; rfl, (hbl.trans (((hbz _ _).trans (hb3.mono (hbz _ _).size)).mono hbl.size))⟩
      · obtain rfl : k = n := by omega
        have HE : Hid (decide (f = g) = true) := Lib.hid (by
          have h := heq.out
          rw [List.take_of_length_le (by rw [Hxn.out]; exact Nat.le_refl _), List.take_of_length_le (by rw [Hyn.out]; exact Nat.le_refl _)] at h
          exact decide_eq_true h)
        go_wp2_with fail
        go_ret
        exact ⟨by rw [HE.out]; rfl, hbl⟩
  · have hne : decide (f = g) = false := decide_eq_false fun e => hl (by rw [e])
    rw [hne]
    have h1 : ((f.length : Int) != (g.length : Int)) = true := by simp; omega
    clear hne hl
    go_enter Try.func71, Try.ntmps71
    go_wp2_with fail
    go_ret
    exact ⟨rfl, Below.refl _ _⟩
set_option maxRecDepth 100000 in
set_option maxHeartbeats 1600000 in
theorem sameDefinition_any {lo hi lo2 hi2 : Nat} (a b : Df) {sa2 : Option Addr} {sc2 : Nat} {ta2 : Option Addr} {tc2 : Nat} (w : World) (hn : wtDf a ≤ 1048576) (hs2 : GPt w lo hi (.slice sa2 a.body.length sc2) a.body) (ht2 : GPt w lo2 hi2 (.slice ta2 b.body.length tc2) b.body) :
    Calls Try.prog 46 #[.agg #[.string a.name, .int .i64 a.par, .slice sa2 a.body.length sc2], .agg #[.string b.name, .int .i64 b.par, .slice ta2 b.body.length tc2]] w fun e w' => e = .returned (.bool (decide (a = b))) ∧ Below w.heap.size w w' := by
  have hlt : ∀ x y : ByteArray, (x.toList == y.toList) = decide (x = y) := beq_txt
  unfold wtDf at hn
  by_cases c0 : a.name = b.name
  · by_cases c1 : a.par = b.par
    · by_cases c2 : a.body = b.body
      · have HF : Hid (decide (a = b) = true) := Lib.hid (by
          cases a
          cases b
          simp only [decide_eq_true_eq]
          simp_all)
        have n0 : (a.name.toList == b.name.toList) = true := by rw [hlt]; exact decide_eq_true c0
        have n1 : (a.par == b.par) = true := by simpa using c1
        rw [HF.out]
        clear HF hlt
        have C2 : Hid (decide (a.body = b.body) = true) := Lib.hid (decide_eq_true c2)
        clear c0 c1 c2
        go_enter Try.func46, Try.ntmps46
        have hB0 : ∀ x y : Obj, Below w.heap.size w ((w.alloc x).alloc y) := fun x y => ((Below.refl _ w).alloc (Nat.le_refl _) _).alloc (by simp) _
        go_wp2_with fail
        refine (eqFuncPt_any _ _ _ _ _ (by omega) (hs2.keep (Keep.of_below _ _ (hB0 _ _))) (ht2.keep (Keep.of_below _ _ (hB0 _ _)))).mono ?_
        rw [C2.out]
        rintro e w3 ⟨rfl, hb2⟩
        have e1 := box_one hb2
        have e2 := box_two hb2
        have hB3 : Below w.heap.size w w3 := (hB0 _ _).trans (hb2.mono (by simp; omega))
        have p0 : w3.cell? ⟨w.heap.size, 0, none⟩ = some (.string a.name) := by simp [World.cell?, e1]
        have q0 : w3.cell? ⟨w.heap.size + 1, 0, none⟩ = some (.string b.name) := by simp [World.cell?, e2]
        have p1 : w3.cell? ⟨w.heap.size, 1, none⟩ = some (.int .i64 a.par) := by simp [World.cell?, e1]
        have q1 : w3.cell? ⟨w.heap.size + 1, 1, none⟩ = some (.int .i64 b.par) := by simp [World.cell?, e2]
        have p2 : w3.cell? ⟨w.heap.size, 2, none⟩ = some (.slice sa2 a.body.length sc2) := by simp [World.cell?, e1]
        have q2 : w3.cell? ⟨w.heap.size + 1, 2, none⟩ = some (.slice ta2 b.body.length tc2) := by simp [World.cell?, e2]
        go_wp2_with fail
        go_ret
        exact ⟨rfl, hB3⟩
      · have HF : Hid (decide (a = b) = false) := Lib.hid (decide_eq_false fun h => c2 (by rw [h]))
        have n0 : (a.name.toList == b.name.toList) = true := by rw [hlt]; exact decide_eq_true c0
        have n1 : (a.par == b.par) = true := by simpa using c1
        rw [HF.out]
        clear HF hlt
        have C2 : Hid (decide (a.body = b.body) = false) := Lib.hid (decide_eq_false c2)
        clear c0 c1 c2
        go_enter Try.func46, Try.ntmps46
        have hB0 : ∀ x y : Obj, Below w.heap.size w ((w.alloc x).alloc y) := fun x y => ((Below.refl _ w).alloc (Nat.le_refl _) _).alloc (by simp) _
        go_wp2_with fail
        refine (eqFuncPt_any _ _ _ _ _ (by omega) (hs2.keep (Keep.of_below _ _ (hB0 _ _))) (ht2.keep (Keep.of_below _ _ (hB0 _ _)))).mono ?_
        rw [C2.out]
        rintro e w3 ⟨rfl, hb2⟩
        have e1 := box_one hb2
        have e2 := box_two hb2
        have hB3 : Below w.heap.size w w3 := (hB0 _ _).trans (hb2.mono (by simp; omega))
        have p0 : w3.cell? ⟨w.heap.size, 0, none⟩ = some (.string a.name) := by simp [World.cell?, e1]
        have q0 : w3.cell? ⟨w.heap.size + 1, 0, none⟩ = some (.string b.name) := by simp [World.cell?, e2]
        have p1 : w3.cell? ⟨w.heap.size, 1, none⟩ = some (.int .i64 a.par) := by simp [World.cell?, e1]
        have q1 : w3.cell? ⟨w.heap.size + 1, 1, none⟩ = some (.int .i64 b.par) := by simp [World.cell?, e2]
        have p2 : w3.cell? ⟨w.heap.size, 2, none⟩ = some (.slice sa2 a.body.length sc2) := by simp [World.cell?, e1]
        have q2 : w3.cell? ⟨w.heap.size + 1, 2, none⟩ = some (.slice ta2 b.body.length tc2) := by simp [World.cell?, e2]
        go_wp2_with fail
        go_ret
        exact ⟨rfl, hB3⟩
    · have HF : Hid (decide (a = b) = false) := Lib.hid (decide_eq_false fun h => c1 (by rw [h]))
      have n0 : (a.name.toList == b.name.toList) = true := by rw [hlt]; exact decide_eq_true c0
      have n1 : (a.par == b.par) = false := by simpa using c1
      rw [HF.out]
      clear HF hlt
      clear c0 c1
      go_enter Try.func46, Try.ntmps46
      have hB0 : ∀ x y : Obj, Below w.heap.size w ((w.alloc x).alloc y) := fun x y => ((Below.refl _ w).alloc (Nat.le_refl _) _).alloc (by simp) _
      go_wp2_with fail
      go_ret
      exact ⟨rfl, (hB0 _ _)⟩
  · have HF : Hid (decide (a = b) = false) := Lib.hid (decide_eq_false fun h => c0 (by rw [h]))
    have n0 : (a.name.toList == b.name.toList) = false := by rw [hlt]; exact decide_eq_false c0
    rw [HF.out]
    clear HF hlt
    clear c0
    go_enter Try.func46, Try.ntmps46
    have hB0 : ∀ x y : Obj, Below w.heap.size w ((w.alloc x).alloc y) := fun x y => ((Below.refl _ w).alloc (Nat.le_refl _) _).alloc (by simp) _
    go_wp2_with fail
    go_ret
    exact ⟨rfl, (hB0 _ _)⟩
set_option maxRecDepth 100000 in
set_option maxHeartbeats 1600000 in
theorem eqFuncDf_any {lo hi lo2 hi2 : Nat} (va vb : Value) (f g : List Df) (w : World) (hn : totDf f ≤ 1048576) (ha : GDf w lo hi va f) (hb : GDf w lo2 hi2 vb g) :
    Calls Try.prog 45 #[va, vb, .func (.func 46) #[] #[]] w fun e w' => e = .returned (.bool (decide (f = g))) ∧ Below w.heap.size w w' := by
  have HVa := Lib.hid ha
  have HVb := Lib.hid hb
  obtain ⟨a, capa, rfl, hcapa, hma⟩ := Rws.slice ha
  obtain ⟨b, capb, rfl, hcapb, hmb⟩ := Rws.slice hb
  unfold maxLen at hma hmb
  clear ha hb
  unfold totDf at hn
  have hln : f.length ≤ 1048576 := by omega
  have Hwt : Hid (∀ i, i < f.length → wtDf (gnth df0 f i) ≤ 1048576) := Lib.hid (fun i hi => by
    have h : wtDf (gnth df0 f i) ≤ _ := sumTo_le (fun i => wtDf (gnth df0 f i)) hi
    omega)
  clear hn
  by_cases hl : f.length = g.length
  · obtain ⟨n, hxn⟩ : ∃ n, n = f.length := ⟨_, rfl⟩
    rw [← hxn] at hl
    rw [← hl] at hcapb HVb ⊢
    rw [← hxn] at hcapa HVa hln ⊢
    have Hxn := Lib.hid hxn; clear hxn
    have Hyn := Lib.hid hl; clear hl
    go_enter Try.func45, Try.ntmps45
    go_wp2_with fail
    go_loopw [17] (fun si wr => ∃ k : Nat, k ≤ n ∧ si = .int .i64 k ∧ Hid (f.take k = g.take k) ∧ Below w.heap.size w wr) (fun si _ => n - (intOf si).toNat)
    case atStart => exact ⟨0, Nat.zero_le _, rfl, Lib.hid rfl, Below.refl _ _⟩
    case round =>
      obtain ⟨k, hk, rfl, heq, hbl⟩ := hrel
      by_cases hlt : k < n
      · have hkf : k < f.length := by rw [← Hxn.out]; exact hlt
        have hkg : k < g.length := by rw [← Hyn.out]; exact hlt
        obtain ⟨ba, oa, rfl, hba, p0, p1, pa2, pc2, p2, pG2⟩ := GDf.cells HVa.out hkf
        obtain ⟨bb, ob, rfl, hbb, q0, q1, qa2, qc2, q2, qG2⟩ := GDf.cells HVb.out hkg
        have a0 := (hbl.cell (by exact hba)).trans p0
        have c0 := fun o => ((hbl.alloc hbl.size o).cell (by exact hbb)).trans q0
        have a1 := (hbl.cell (by exact hba)).trans p1
        have c1 := fun o => ((hbl.alloc hbl.size o).cell (by exact hbb)).trans q1
        have a2 := (hbl.cell (by exact hba)).trans p2
        have c2 := fun o => ((hbl.alloc hbl.size o).cell (by exact hbb)).trans q2
        have hbz : ∀ x y, Below wr.heap.size wr ((wr.alloc x).alloc y) := fun x y => ((Below.refl _ _).alloc (Nat.le_refl _) _).alloc (by simp) _
        obtain ⟨Y, hY⟩ : ∃ Y, Y = gnth df0 f k := ⟨_, rfl⟩
        obtain ⟨Z, hZ⟩ : ∃ Z, Z = gnth df0 g k := ⟨_, rfl⟩
        have hwk := Hwt.out k hkf
        rw [← hY] at hwk a0 a1 a2 pG2
        rw [← hZ] at c0 c1 c2 qG2
        have HpG2 := Lib.hid (pG2.keep (Keep.of_below _ _ hbl))
        clear pG2
        have HqG2 := Lib.hid (qG2.keep (Keep.of_below _ _ hbl))
        clear qG2
        have HY := Lib.hid hY
        have HZ := Lib.hid hZ
        clear hY hZ p0 q0 p1 q1 p2 q2
        have HN : Hid (Y = Z → f.take (k + 1) = g.take (k + 1)) := Lib.hid (fun e => by rw [take_gnth df0 f k hkf, take_gnth df0 g k hkg, heq.out, ← HY.out, ← HZ.out, e])
        have HF : Hid (Y ≠ Z → decide (f = g) = false) := Lib.hid (fun e => decide_eq_false fun h => e (by rw [HY.out, HZ.out, h]))
        go_wp2_with fail
        refine (sameDefinition_any Y Z _ hwk (HpG2.out.keep (Keep.of_below _ _ (hbz _ _))) (HqG2.out.keep (Keep.of_below _ _ (hbz _ _)))).mono ?_
        by_cases e : Y = Z
        · have HN2 := Lib.hid (HN.out e)
          rw [decide_eq_true e]
          rintro e w3 ⟨rfl, hb3⟩
          clear HN HF e
          go_wp2_with fail
          go_roundw
          case rel => exact ⟨k + 1, by omega, by go_num, HN2, (hbl.trans (((hbz _ _).trans (hb3.mono (hbz _ _).size)).mono hbl.size))⟩
          case measure => simp [intOf]; omega
        · have HF2 := Lib.hid (HF.out e)
          rw [decide_eq_false e]
          rintro e w3 ⟨rfl, hb3⟩
          clear HN HF e
          go_wp2_with fail
          go_ret
          exact ⟨by rw [HF2.out]; rfl, (hbl.trans (((hbz _ _).trans (hb3.mono (hbz _ _).size)).mono hbl.size))⟩
      · obtain rfl : k = n := by omega
        have HE : Hid (decide (f = g) = true) := Lib.hid (by
          have h := heq.out
          rw [List.take_of_length_le (by rw [Hxn.out]; exact Nat.le_refl _), List.take_of_length_le (by rw [Hyn.out]; exact Nat.le_refl _)] at h
          exact decide_eq_true h)
        go_wp2_with fail
        go_ret
        exact ⟨by rw [HE.out]; rfl, hbl⟩
  · have hne : decide (f = g) = false := decide_eq_false fun e => hl (by rw [e])
    rw [hne]
    have h1 : ((f.length : Int) != (g.length : Int)) = true := by simp; omega
    clear hne hl
    go_enter Try.func45, Try.ntmps45
    go_wp2_with fail
    go_ret
    exact ⟨rfl, Below.refl _ _⟩
set_option maxRecDepth 100000 in
set_option maxHeartbeats 1600000 in
theorem sameComponent_any {lo hi lo2 hi2 : Nat} (a b : Cp) {sa1 : Option Addr} {sc1 : Nat} {ta1 : Option Addr} {tc1 : Nat} (w : World) (hn : wtCp a ≤ 1048576) (hs1 : GI w lo hi (.slice sa1 a.vals.length sc1) a.vals) (ht1 : GI w lo2 hi2 (.slice ta1 b.vals.length tc1) b.vals) :
    Calls Try.prog 48 #[.agg #[.int .i64 a.dfn, .slice sa1 a.vals.length sc1], .agg #[.int .i64 b.dfn, .slice ta1 b.vals.length tc1]] w fun e w' => e = .returned (.bool (decide (a = b))) ∧ Below w.heap.size w w' := by
  have hlt : ∀ x y : ByteArray, (x.toList == y.toList) = decide (x = y) := beq_txt
  unfold wtCp at hn
  by_cases c0 : a.dfn = b.dfn
  · by_cases c1 : a.vals = b.vals
    · have HF : Hid (decide (a = b) = true) := Lib.hid (by
        cases a
        cases b
        simp only [decide_eq_true_eq]
        simp_all)
      have n0 : (a.dfn == b.dfn) = true := by simpa using c0
      rw [HF.out]
      clear HF hlt
      have C1 : Hid (decide (a.vals = b.vals) = true) := Lib.hid (decide_eq_true c1)
      clear c0 c1
      go_enter Try.func48, Try.ntmps48
      have hB0 : ∀ x y : Obj, Below w.heap.size w ((w.alloc x).alloc y) := fun x y => ((Below.refl _ w).alloc (Nat.le_refl _) _).alloc (by simp) _
      go_wp2_with fail
      refine (calls_below (sEqI_q _ _ _ _ _ (by unfold totI at hn; omega) (hs1.keep (Keep.of_below _ _ (hB0 _ _))) (ht1.keep (Keep.of_below _ _ (hB0 _ _))))).mono ?_
      rw [C1.out]
      rintro e w2 ⟨rfl, hb1⟩
      have e1 := box_one hb1
      have e2 := box_two hb1
      have hB2 : Below w.heap.size w w2 := (hB0 _ _).trans (hb1.mono (by simp; omega))
      have p0 : w2.cell? ⟨w.heap.size, 0, none⟩ = some (.int .i64 a.dfn) := by simp [World.cell?, e1]
      have q0 : w2.cell? ⟨w.heap.size + 1, 0, none⟩ = some (.int .i64 b.dfn) := by simp [World.cell?, e2]
      have p1 : w2.cell? ⟨w.heap.size, 1, none⟩ = some (.slice sa1 a.vals.length sc1) := by simp [World.cell?, e1]
      have q1 : w2.cell? ⟨w.heap.size + 1, 1, none⟩ = some (.slice ta1 b.vals.length tc1) := by simp [World.cell?, e2]
      go_wp2_with fail
      go_ret
      exact ⟨rfl, hB2⟩
    · have HF : Hid (decide (a = b) = false) := Lib.hid (decide_eq_false fun h => c1 (by rw [h]))
      have n0 : (a.dfn == b.dfn) = true := by simpa using c0
      rw [HF.out]
      clear HF hlt
      have C1 : Hid (decide (a.vals = b.vals) = false) := Lib.hid (decide_eq_false c1)
      clear c0 c1
      go_enter Try.func48, Try.ntmps48
      have hB0 : ∀ x y : Obj, Below w.heap.size w ((w.alloc x).alloc y) := fun x y => ((Below.refl _ w).alloc (Nat.le_refl _) _).alloc (by simp) _
      go_wp2_with fail
      refine (calls_below (sEqI_q _ _ _ _ _ (by unfold totI at hn; omega) (hs1.keep (Keep.of_below _ _ (hB0 _ _))) (ht1.keep (Keep.of_below _ _ (hB0 _ _))))).mono ?_
      rw [C1.out]
      rintro e w2 ⟨rfl, hb1⟩
      have e1 := box_one hb1
      have e2 := box_two hb1
      have hB2 : Below w.heap.size w w2 := (hB0 _ _).trans (hb1.mono (by simp; omega))
      have p0 : w2.cell? ⟨w.heap.size, 0, none⟩ = some (.int .i64 a.dfn) := by simp [World.cell?, e1]
      have q0 : w2.cell? ⟨w.heap.size + 1, 0, none⟩ = some (.int .i64 b.dfn) := by simp [World.cell?, e2]
      have p1 : w2.cell? ⟨w.heap.size, 1, none⟩ = some (.slice sa1 a.vals.length sc1) := by simp [World.cell?, e1]
      have q1 : w2.cell? ⟨w.heap.size + 1, 1, none⟩ = some (.slice ta1 b.vals.length tc1) := by simp [World.cell?, e2]
      go_wp2_with fail
      go_ret
      exact ⟨rfl, hB2⟩
  · have HF : Hid (decide (a = b) = false) := Lib.hid (decide_eq_false fun h => c0 (by rw [h]))
    have n0 : (a.dfn == b.dfn) = false := by simpa using c0
    rw [HF.out]
    clear HF hlt
    clear c0
    go_enter Try.func48, Try.ntmps48
    have hB0 : ∀ x y : Obj, Below w.heap.size w ((w.alloc x).alloc y) := fun x y => ((Below.refl _ w).alloc (Nat.le_refl _) _).alloc (by simp) _
    go_wp2_with fail
    go_ret
    exact ⟨rfl, (hB0 _ _)⟩
set_option maxRecDepth 100000 in
set_option maxHeartbeats 1600000 in
theorem eqFuncCp_any {lo hi lo2 hi2 : Nat} (va vb : Value) (f g : List Cp) (w : World) (hn : totCp f ≤ 1048576) (ha : GCp w lo hi va f) (hb : GCp w lo2 hi2 vb g) :
    Calls Try.prog 47 #[va, vb, .func (.func 48) #[] #[]] w fun e w' => e = .returned (.bool (decide (f = g))) ∧ Below w.heap.size w w' := by
  have HVa := Lib.hid ha
  have HVb := Lib.hid hb
  obtain ⟨a, capa, rfl, hcapa, hma⟩ := Rws.slice ha
  obtain ⟨b, capb, rfl, hcapb, hmb⟩ := Rws.slice hb
  unfold maxLen at hma hmb
  clear ha hb
  unfold totCp at hn
  have hln : f.length ≤ 1048576 := by omega
  have Hwt : Hid (∀ i, i < f.length → wtCp (gnth cp0 f i) ≤ 1048576) := Lib.hid (fun i hi => by
    have h : wtCp (gnth cp0 f i) ≤ _ := sumTo_le (fun i => wtCp (gnth cp0 f i)) hi
    omega)
  clear hn
  by_cases hl : f.length = g.length
  · obtain ⟨n, hxn⟩ : ∃ n, n = f.length := ⟨_, rfl⟩
    rw [← hxn] at hl
    rw [← hl] at hcapb HVb ⊢
    rw [← hxn] at hcapa HVa hln ⊢
    have Hxn := Lib.hid hxn; clear hxn
    have Hyn := Lib.hid hl; clear hl
    go_enter Try.func47, Try.ntmps47
    go_wp2_with fail
    go_loopw [17] (fun si wr => ∃ k : Nat, k ≤ n ∧ si = .int .i64 k ∧ Hid (f.take k = g.take k) ∧ Below w.heap.size w wr) (fun si _ => n - (intOf si).toNat)
    case atStart => exact ⟨0, Nat.zero_le _, rfl, Lib.hid rfl, Below.refl _ _⟩
    case round =>
      obtain ⟨k, hk, rfl, heq, hbl⟩ := hrel
      by_cases hlt : k < n
      · have hkf : k < f.length := by rw [← Hxn.out]; exact hlt
        have hkg : k < g.length := by rw [← Hyn.out]; exact hlt
        obtain ⟨ba, oa, rfl, hba, p0, pa1, pc1, p1, pG1⟩ := GCp.cells HVa.out hkf
        obtain ⟨bb, ob, rfl, hbb, q0, qa1, qc1, q1, qG1⟩ := GCp.cells HVb.out hkg
        have a0 := (hbl.cell (by exact hba)).trans p0
        have c0 := fun o => ((hbl.alloc hbl.size o).cell (by exact hbb)).trans q0
        have a1 := (hbl.cell (by exact hba)).trans p1
        have c1 := fun o => ((hbl.alloc hbl.size o).cell (by exact hbb)).trans q1
        have hbz : ∀ x y, Below wr.heap.size wr ((wr.alloc x).alloc y) := fun x y => ((Below.refl _ _).alloc (Nat.le_refl _) _).alloc (by simp) _
        obtain ⟨Y, hY⟩ : ∃ Y, Y = gnth cp0 f k := ⟨_, rfl⟩
        obtain ⟨Z, hZ⟩ : ∃ Z, Z = gnth cp0 g k := ⟨_, rfl⟩
        have hwk := Hwt.out k hkf
        rw [← hY] at hwk a0 a1 pG1
        rw [← hZ] at c0 c1 qG1
        have HpG1 := Lib.hid (pG1.keep (Keep.of_below _ _ hbl))
        clear pG1
        have HqG1 := Lib.hid (qG1.keep (Keep.of_below _ _ hbl))
        clear qG1
        have HY := Lib.hid hY
        have HZ := Lib.hid hZ
        clear hY hZ p0 q0 p1 q1
        have HN : Hid (Y = Z → f.take (k + 1) = g.take (k + 1)) := Lib.hid (fun e => by rw [take_gnth cp0 f k hkf, take_gnth cp0 g k hkg, heq.out, ← HY.out, ← HZ.out, e])
        have HF : Hid (Y ≠ Z → decide (f = g) = false) := Lib.hid (fun e => decide_eq_false fun h => e (by rw [HY.out, HZ.out, h]))
        go_wp2_with fail
        refine (sameComponent_any Y Z _ hwk (HpG1.out.keep (Keep.of_below _ _ (hbz _ _))) (HqG1.out.keep (Keep.of_below _ _ (hbz _ _)))).mono ?_
        by_cases e : Y = Z
        · have HN2 := Lib.hid (HN.out e)
          rw [decide_eq_true e]
          rintro e w3 ⟨rfl, hb3⟩
          clear HN HF e
          go_wp2_with fail
          go_roundw
          case rel => exact ⟨k + 1, by omega, by go_num, HN2, (hbl.trans (((hbz _ _).trans (hb3.mono (hbz _ _).size)).mono hbl.size))⟩
          case measure => simp [intOf]; omega
        · have HF2 := Lib.hid (HF.out e)
          rw [decide_eq_false e]
          rintro e w3 ⟨rfl, hb3⟩
          clear HN HF e
          go_wp2_with fail
          go_ret
          exact ⟨by rw [HF2.out]; rfl, (hbl.trans (((hbz _ _).trans (hb3.mono (hbz _ _).size)).mono hbl.size))⟩
      · obtain rfl : k = n := by omega
        have HE : Hid (decide (f = g) = true) := Lib.hid (by
          have h := heq.out
          rw [List.take_of_length_le (by rw [Hxn.out]; exact Nat.le_refl _), List.take_of_length_le (by rw [Hyn.out]; exact Nat.le_refl _)] at h
          exact decide_eq_true h)
        go_wp2_with fail
        go_ret
        exact ⟨by rw [HE.out]; rfl, hbl⟩
  · have hne : decide (f = g) = false := decide_eq_false fun e => hl (by rw [e])
    rw [hne]
    have h1 : ((f.length : Int) != (g.length : Int)) = true := by simp; omega
    clear hne hl
    go_enter Try.func47, Try.ntmps47
    go_wp2_with fail
    go_ret
    exact ⟨rfl, Below.refl _ _⟩
set_option maxRecDepth 100000 in
set_option maxHeartbeats 1600000 in
theorem SameLts_any {lo hi lo2 hi2 : Nat} (a b : Lt) {sa2 sa3 : Option Addr} {sc2 sc3 : Nat} {ta2 ta3 : Option Addr} {tc2 tc3 : Nat} (w : World) (hn : wtLt a ≤ 1048576) (hs2 : GS w lo hi (.slice sa2 a.labs.length sc2) a.labs) (hs3 : GEg w lo hi (.slice sa3 a.edges.length sc3) a.edges) (ht2 : GS w lo2 hi2 (.slice ta2 b.labs.length tc2) b.labs) (ht3 : GEg w lo2 hi2 (.slice ta3 b.edges.length tc3) b.edges) :
    Calls Try.prog 14 #[.agg #[.int .i64 a.st, .int .i64 a.ini, .slice sa2 a.labs.length sc2, .slice sa3 a.edges.length sc3], .agg #[.int .i64 b.st, .int .i64 b.ini, .slice ta2 b.labs.length tc2, .slice ta3 b.edges.length tc3]] w fun e w' => e = .returned (.bool (decide (a = b))) ∧ Below w.heap.size w w' := by
  have hlt : ∀ x y : ByteArray, (x.toList == y.toList) = decide (x = y) := beq_txt
  unfold wtLt at hn
  by_cases c0 : a.st = b.st
  · by_cases c1 : a.ini = b.ini
    · by_cases c2 : a.labs = b.labs
      · by_cases c3 : a.edges = b.edges
        · have HF : Hid (decide (a = b) = true) := Lib.hid (by
            cases a
            cases b
            simp only [decide_eq_true_eq]
            simp_all)
          have n0 : (a.st == b.st) = true := by simpa using c0
          have n1 : (a.ini == b.ini) = true := by simpa using c1
          rw [HF.out]
          clear HF hlt
          have C2 : Hid (decide (a.labs = b.labs) = true) := Lib.hid (decide_eq_true c2)
          have C3 : Hid (decide (a.edges = b.edges) = true) := Lib.hid (decide_eq_true c3)
          clear c0 c1 c2 c3
          go_enter Try.func14, Try.ntmps14
          have hB0 : ∀ x y : Obj, Below w.heap.size w ((w.alloc x).alloc y) := fun x y => ((Below.refl _ w).alloc (Nat.le_refl _) _).alloc (by simp) _
          go_wp2_with fail
          refine (calls_below (sEqS_q _ _ _ _ _ (by unfold totS at hn; omega) (hs2.keep (Keep.of_below _ _ (hB0 _ _))) (ht2.keep (Keep.of_below _ _ (hB0 _ _))))).mono ?_
          rw [C2.out]
          rintro e w3 ⟨rfl, hb2⟩
          have e1 := box_one hb2
          have e2 := box_two hb2
          have hB3 : Below w.heap.size w w3 := (hB0 _ _).trans (hb2.mono (by simp; omega))
          have p0 : w3.cell? ⟨w.heap.size, 0, none⟩ = some (.int .i64 a.st) := by simp [World.cell?, e1]
          have q0 : w3.cell? ⟨w.heap.size + 1, 0, none⟩ = some (.int .i64 b.st) := by simp [World.cell?, e2]
          have p1 : w3.cell? ⟨w.heap.size, 1, none⟩ = some (.int .i64 a.ini) := by simp [World.cell?, e1]
          have q1 : w3.cell? ⟨w.heap.size + 1, 1, none⟩ = some (.int .i64 b.ini) := by simp [World.cell?, e2]
          have p2 : w3.cell? ⟨w.heap.size, 2, none⟩ = some (.slice sa2 a.labs.length sc2) := by simp [World.cell?, e1]
          have q2 : w3.cell? ⟨w.heap.size + 1, 2, none⟩ = some (.slice ta2 b.labs.length tc2) := by simp [World.cell?, e2]
          have p3 : w3.cell? ⟨w.heap.size, 3, none⟩ = some (.slice sa3 a.edges.length sc3) := by simp [World.cell?, e1]
          have q3 : w3.cell? ⟨w.heap.size + 1, 3, none⟩ = some (.slice ta3 b.edges.length tc3) := by simp [World.cell?, e2]
          go_wp2_with fail
          refine (calls_below (sEqEg_q _ _ _ _ _ (by unfold totEg at hn; omega) (hs3.keep (Keep.of_below _ _ hB3)) (ht3.keep (Keep.of_below _ _ hB3)))).mono ?_
          rw [C3.out]
          rintro e w4 ⟨rfl, hb3⟩
          have e1 := (hb3.block _ (lt_of_some e1)).trans e1
          have e2 := (hb3.block _ (lt_of_some e2)).trans e2
          have hB4 : Below w.heap.size w w4 := hB3.trans (hb3.mono hB3.size)
          have p0 : w4.cell? ⟨w.heap.size, 0, none⟩ = some (.int .i64 a.st) := by simp [World.cell?, e1]
          have q0 : w4.cell? ⟨w.heap.size + 1, 0, none⟩ = some (.int .i64 b.st) := by simp [World.cell?, e2]
          have p1 : w4.cell? ⟨w.heap.size, 1, none⟩ = some (.int .i64 a.ini) := by simp [World.cell?, e1]
          have q1 : w4.cell? ⟨w.heap.size + 1, 1, none⟩ = some (.int .i64 b.ini) := by simp [World.cell?, e2]
          have p2 : w4.cell? ⟨w.heap.size, 2, none⟩ = some (.slice sa2 a.labs.length sc2) := by simp [World.cell?, e1]
          have q2 : w4.cell? ⟨w.heap.size + 1, 2, none⟩ = some (.slice ta2 b.labs.length tc2) := by simp [World.cell?, e2]
          have p3 : w4.cell? ⟨w.heap.size, 3, none⟩ = some (.slice sa3 a.edges.length sc3) := by simp [World.cell?, e1]
          have q3 : w4.cell? ⟨w.heap.size + 1, 3, none⟩ = some (.slice ta3 b.edges.length tc3) := by simp [World.cell?, e2]
          go_wp2_with fail
          go_ret
          exact ⟨rfl, hB4⟩
        · have HF : Hid (decide (a = b) = false) := Lib.hid (decide_eq_false fun h => c3 (by rw [h]))
          have n0 : (a.st == b.st) = true := by simpa using c0
          have n1 : (a.ini == b.ini) = true := by simpa using c1
          rw [HF.out]
          clear HF hlt
          have C2 : Hid (decide (a.labs = b.labs) = true) := Lib.hid (decide_eq_true c2)
          have C3 : Hid (decide (a.edges = b.edges) = false) := Lib.hid (decide_eq_false c3)
          clear c0 c1 c2 c3
          go_enter Try.func14, Try.ntmps14
          have hB0 : ∀ x y : Obj, Below w.heap.size w ((w.alloc x).alloc y) := fun x y => ((Below.refl _ w).alloc (Nat.le_refl _) _).alloc (by simp) _
          go_wp2_with fail
          refine (calls_below (sEqS_q _ _ _ _ _ (by unfold totS at hn; omega) (hs2.keep (Keep.of_below _ _ (hB0 _ _))) (ht2.keep (Keep.of_below _ _ (hB0 _ _))))).mono ?_
          rw [C2.out]
          rintro e w3 ⟨rfl, hb2⟩
          have e1 := box_one hb2
          have e2 := box_two hb2
          have hB3 : Below w.heap.size w w3 := (hB0 _ _).trans (hb2.mono (by simp; omega))
          have p0 : w3.cell? ⟨w.heap.size, 0, none⟩ = some (.int .i64 a.st) := by simp [World.cell?, e1]
          have q0 : w3.cell? ⟨w.heap.size + 1, 0, none⟩ = some (.int .i64 b.st) := by simp [World.cell?, e2]
          have p1 : w3.cell? ⟨w.heap.size, 1, none⟩ = some (.int .i64 a.ini) := by simp [World.cell?, e1]
          have q1 : w3.cell? ⟨w.heap.size + 1, 1, none⟩ = some (.int .i64 b.ini) := by simp [World.cell?, e2]
          have p2 : w3.cell? ⟨w.heap.size, 2, none⟩ = some (.slice sa2 a.labs.length sc2) := by simp [World.cell?, e1]
          have q2 : w3.cell? ⟨w.heap.size + 1, 2, none⟩ = some (.slice ta2 b.labs.length tc2) := by simp [World.cell?, e2]
          have p3 : w3.cell? ⟨w.heap.size, 3, none⟩ = some (.slice sa3 a.edges.length sc3) := by simp [World.cell?, e1]
          have q3 : w3.cell? ⟨w.heap.size + 1, 3, none⟩ = some (.slice ta3 b.edges.length tc3) := by simp [World.cell?, e2]
          go_wp2_with fail
          refine (calls_below (sEqEg_q _ _ _ _ _ (by unfold totEg at hn; omega) (hs3.keep (Keep.of_below _ _ hB3)) (ht3.keep (Keep.of_below _ _ hB3)))).mono ?_
          rw [C3.out]
          rintro e w4 ⟨rfl, hb3⟩
          have e1 := (hb3.block _ (lt_of_some e1)).trans e1
          have e2 := (hb3.block _ (lt_of_some e2)).trans e2
          have hB4 : Below w.heap.size w w4 := hB3.trans (hb3.mono hB3.size)
          have p0 : w4.cell? ⟨w.heap.size, 0, none⟩ = some (.int .i64 a.st) := by simp [World.cell?, e1]
          have q0 : w4.cell? ⟨w.heap.size + 1, 0, none⟩ = some (.int .i64 b.st) := by simp [World.cell?, e2]
          have p1 : w4.cell? ⟨w.heap.size, 1, none⟩ = some (.int .i64 a.ini) := by simp [World.cell?, e1]
          have q1 : w4.cell? ⟨w.heap.size + 1, 1, none⟩ = some (.int .i64 b.ini) := by simp [World.cell?, e2]
          have p2 : w4.cell? ⟨w.heap.size, 2, none⟩ = some (.slice sa2 a.labs.length sc2) := by simp [World.cell?, e1]
          have q2 : w4.cell? ⟨w.heap.size + 1, 2, none⟩ = some (.slice ta2 b.labs.length tc2) := by simp [World.cell?, e2]
          have p3 : w4.cell? ⟨w.heap.size, 3, none⟩ = some (.slice sa3 a.edges.length sc3) := by simp [World.cell?, e1]
          have q3 : w4.cell? ⟨w.heap.size + 1, 3, none⟩ = some (.slice ta3 b.edges.length tc3) := by simp [World.cell?, e2]
          go_wp2_with fail
          go_ret
          exact ⟨rfl, hB4⟩
      · have HF : Hid (decide (a = b) = false) := Lib.hid (decide_eq_false fun h => c2 (by rw [h]))
        have n0 : (a.st == b.st) = true := by simpa using c0
        have n1 : (a.ini == b.ini) = true := by simpa using c1
        rw [HF.out]
        clear HF hlt
        have C2 : Hid (decide (a.labs = b.labs) = false) := Lib.hid (decide_eq_false c2)
        clear c0 c1 c2
        go_enter Try.func14, Try.ntmps14
        have hB0 : ∀ x y : Obj, Below w.heap.size w ((w.alloc x).alloc y) := fun x y => ((Below.refl _ w).alloc (Nat.le_refl _) _).alloc (by simp) _
        go_wp2_with fail
        refine (calls_below (sEqS_q _ _ _ _ _ (by unfold totS at hn; omega) (hs2.keep (Keep.of_below _ _ (hB0 _ _))) (ht2.keep (Keep.of_below _ _ (hB0 _ _))))).mono ?_
        rw [C2.out]
        rintro e w3 ⟨rfl, hb2⟩
        have e1 := box_one hb2
        have e2 := box_two hb2
        have hB3 : Below w.heap.size w w3 := (hB0 _ _).trans (hb2.mono (by simp; omega))
        have p0 : w3.cell? ⟨w.heap.size, 0, none⟩ = some (.int .i64 a.st) := by simp [World.cell?, e1]
        have q0 : w3.cell? ⟨w.heap.size + 1, 0, none⟩ = some (.int .i64 b.st) := by simp [World.cell?, e2]
        have p1 : w3.cell? ⟨w.heap.size, 1, none⟩ = some (.int .i64 a.ini) := by simp [World.cell?, e1]
        have q1 : w3.cell? ⟨w.heap.size + 1, 1, none⟩ = some (.int .i64 b.ini) := by simp [World.cell?, e2]
        have p2 : w3.cell? ⟨w.heap.size, 2, none⟩ = some (.slice sa2 a.labs.length sc2) := by simp [World.cell?, e1]
        have q2 : w3.cell? ⟨w.heap.size + 1, 2, none⟩ = some (.slice ta2 b.labs.length tc2) := by simp [World.cell?, e2]
        have p3 : w3.cell? ⟨w.heap.size, 3, none⟩ = some (.slice sa3 a.edges.length sc3) := by simp [World.cell?, e1]
        have q3 : w3.cell? ⟨w.heap.size + 1, 3, none⟩ = some (.slice ta3 b.edges.length tc3) := by simp [World.cell?, e2]
        go_wp2_with fail
        go_ret
        exact ⟨rfl, hB3⟩
    · have HF : Hid (decide (a = b) = false) := Lib.hid (decide_eq_false fun h => c1 (by rw [h]))
      have n0 : (a.st == b.st) = true := by simpa using c0
      have n1 : (a.ini == b.ini) = false := by simpa using c1
      rw [HF.out]
      clear HF hlt
      clear c0 c1
      go_enter Try.func14, Try.ntmps14
      have hB0 : ∀ x y : Obj, Below w.heap.size w ((w.alloc x).alloc y) := fun x y => ((Below.refl _ w).alloc (Nat.le_refl _) _).alloc (by simp) _
      go_wp2_with fail
      go_ret
      exact ⟨rfl, (hB0 _ _)⟩
  · have HF : Hid (decide (a = b) = false) := Lib.hid (decide_eq_false fun h => c0 (by rw [h]))
    have n0 : (a.st == b.st) = false := by simpa using c0
    rw [HF.out]
    clear HF hlt
    clear c0
    go_enter Try.func14, Try.ntmps14
    have hB0 : ∀ x y : Obj, Below w.heap.size w ((w.alloc x).alloc y) := fun x y => ((Below.refl _ w).alloc (Nat.le_refl _) _).alloc (by simp) _
    go_wp2_with fail
    go_ret
    exact ⟨rfl, (hB0 _ _)⟩
set_option maxRecDepth 100000 in
set_option maxHeartbeats 1600000 in
theorem SameSystem_any {lo hi lo2 hi2 : Nat} (a b : Sy) {sa0 sa1 sa2 sa3 sa4 : Option Addr} {sc0 sc1 sc2 sc3 sc4 : Nat} {ta0 ta1 ta2 ta3 ta4 : Option Addr} {tc0 tc1 tc2 tc3 tc4 : Nat} (w : World) (hn : wtSy a ≤ 1048576) (hs0 : GDf w lo hi (.slice sa0 a.defs.length sc0) a.defs) (hs1 : GCp w lo hi (.slice sa1 a.comps.length sc1) a.comps) (hs2 : GMt w lo hi (.slice sa2 a.meets.length sc2) a.meets) (hs3 : GS w lo hi (.slice sa3 a.allow.length sc3) a.allow) (hs4 : GS w lo hi (.slice sa4 a.hide.length sc4) a.hide) (ht0 : GDf w lo2 hi2 (.slice ta0 b.defs.length tc0) b.defs) (ht1 : GCp w lo2 hi2 (.slice ta1 b.comps.length tc1) b.comps) (ht2 : GMt w lo2 hi2 (.slice ta2 b.meets.length tc2) b.meets) (ht3 : GS w lo2 hi2 (.slice ta3 b.allow.length tc3) b.allow) (ht4 : GS w lo2 hi2 (.slice ta4 b.hide.length tc4) b.hide) :
    Calls Try.prog 19 #[.agg #[.slice sa0 a.defs.length sc0, .slice sa1 a.comps.length sc1, .slice sa2 a.meets.length sc2, .slice sa3 a.allow.length sc3, .slice sa4 a.hide.length sc4], .agg #[.slice ta0 b.defs.length tc0, .slice ta1 b.comps.length tc1, .slice ta2 b.meets.length tc2, .slice ta3 b.allow.length tc3, .slice ta4 b.hide.length tc4]] w fun e w' => e = .returned (.bool (decide (a = b))) ∧ Below w.heap.size w w' := by
  have hlt : ∀ x y : ByteArray, (x.toList == y.toList) = decide (x = y) := beq_txt
  unfold wtSy at hn
  by_cases c0 : a.defs = b.defs
  · by_cases c1 : a.comps = b.comps
    · by_cases c2 : a.meets = b.meets
      · by_cases c3 : a.allow = b.allow
        · by_cases c4 : a.hide = b.hide
          · have HF : Hid (decide (a = b) = true) := Lib.hid (by
              cases a
              cases b
              simp only [decide_eq_true_eq]
              simp_all)
            rw [HF.out]
            clear HF hlt
            have C0 : Hid (decide (a.defs = b.defs) = true) := Lib.hid (decide_eq_true c0)
            have C1 : Hid (decide (a.comps = b.comps) = true) := Lib.hid (decide_eq_true c1)
            have C2 : Hid (decide (a.meets = b.meets) = true) := Lib.hid (decide_eq_true c2)
            have C3 : Hid (decide (a.allow = b.allow) = true) := Lib.hid (decide_eq_true c3)
            have C4 : Hid (decide (a.hide = b.hide) = true) := Lib.hid (decide_eq_true c4)
            clear c0 c1 c2 c3 c4
            go_enter Try.func19, Try.ntmps19
            have hB0 : ∀ x y : Obj, Below w.heap.size w ((w.alloc x).alloc y) := fun x y => ((Below.refl _ w).alloc (Nat.le_refl _) _).alloc (by simp) _
            go_wp2_with fail
            refine (eqFuncDf_any _ _ _ _ _ (by omega) (hs0.keep (Keep.of_below _ _ (hB0 _ _))) (ht0.keep (Keep.of_below _ _ (hB0 _ _)))).mono ?_
            rw [C0.out]
            rintro e w1 ⟨rfl, hb0⟩
            have e1 := box_one hb0
            have e2 := box_two hb0
            have hB1 : Below w.heap.size w w1 := (hB0 _ _).trans (hb0.mono (by simp; omega))
            have p0 : w1.cell? ⟨w.heap.size, 0, none⟩ = some (.slice sa0 a.defs.length sc0) := by simp [World.cell?, e1]
            have q0 : w1.cell? ⟨w.heap.size + 1, 0, none⟩ = some (.slice ta0 b.defs.length tc0) := by simp [World.cell?, e2]
            have p1 : w1.cell? ⟨w.heap.size, 1, none⟩ = some (.slice sa1 a.comps.length sc1) := by simp [World.cell?, e1]
            have q1 : w1.cell? ⟨w.heap.size + 1, 1, none⟩ = some (.slice ta1 b.comps.length tc1) := by simp [World.cell?, e2]
            have p2 : w1.cell? ⟨w.heap.size, 2, none⟩ = some (.slice sa2 a.meets.length sc2) := by simp [World.cell?, e1]
            have q2 : w1.cell? ⟨w.heap.size + 1, 2, none⟩ = some (.slice ta2 b.meets.length tc2) := by simp [World.cell?, e2]
            have p3 : w1.cell? ⟨w.heap.size, 3, none⟩ = some (.slice sa3 a.allow.length sc3) := by simp [World.cell?, e1]
            have q3 : w1.cell? ⟨w.heap.size + 1, 3, none⟩ = some (.slice ta3 b.allow.length tc3) := by simp [World.cell?, e2]
            have p4 : w1.cell? ⟨w.heap.size, 4, none⟩ = some (.slice sa4 a.hide.length sc4) := by simp [World.cell?, e1]
            have q4 : w1.cell? ⟨w.heap.size + 1, 4, none⟩ = some (.slice ta4 b.hide.length tc4) := by simp [World.cell?, e2]
            go_wp2_with fail
            refine (eqFuncCp_any _ _ _ _ _ (by omega) (hs1.keep (Keep.of_below _ _ hB1)) (ht1.keep (Keep.of_below _ _ hB1))).mono ?_
            rw [C1.out]
            rintro e w2 ⟨rfl, hb1⟩
            have e1 := (hb1.block _ (lt_of_some e1)).trans e1
            have e2 := (hb1.block _ (lt_of_some e2)).trans e2
            have hB2 : Below w.heap.size w w2 := hB1.trans (hb1.mono hB1.size)
            have p0 : w2.cell? ⟨w.heap.size, 0, none⟩ = some (.slice sa0 a.defs.length sc0) := by simp [World.cell?, e1]
            have q0 : w2.cell? ⟨w.heap.size + 1, 0, none⟩ = some (.slice ta0 b.defs.length tc0) := by simp [World.cell?, e2]
            have p1 : w2.cell? ⟨w.heap.size, 1, none⟩ = some (.slice sa1 a.comps.length sc1) := by simp [World.cell?, e1]
            have q1 : w2.cell? ⟨w.heap.size + 1, 1, none⟩ = some (.slice ta1 b.comps.length tc1) := by simp [World.cell?, e2]
            have p2 : w2.cell? ⟨w.heap.size, 2, none⟩ = some (.slice sa2 a.meets.length sc2) := by simp [World.cell?, e1]
            have q2 : w2.cell? ⟨w.heap.size + 1, 2, none⟩ = some (.slice ta2 b.meets.length tc2) := by simp [World.cell?, e2]
            have p3 : w2.cell? ⟨w.heap.size, 3, none⟩ = some (.slice sa3 a.allow.length sc3) := by simp [World.cell?, e1]
            have q3 : w2.cell? ⟨w.heap.size + 1, 3, none⟩ = some (.slice ta3 b.allow.length tc3) := by simp [World.cell?, e2]
            have p4 : w2.cell? ⟨w.heap.size, 4, none⟩ = some (.slice sa4 a.hide.length sc4) := by simp [World.cell?, e1]
            have q4 : w2.cell? ⟨w.heap.size + 1, 4, none⟩ = some (.slice ta4 b.hide.length tc4) := by simp [World.cell?, e2]
            go_wp2_with fail
            refine (calls_below (sEqMt_q _ _ _ _ _ (by unfold totMt at hn; omega) (hs2.keep (Keep.of_below _ _ hB2)) (ht2.keep (Keep.of_below _ _ hB2)))).mono ?_
            rw [C2.out]
            rintro e w3 ⟨rfl, hb2⟩
            have e1 := (hb2.block _ (lt_of_some e1)).trans e1
            have e2 := (hb2.block _ (lt_of_some e2)).trans e2
            have hB3 : Below w.heap.size w w3 := hB2.trans (hb2.mono hB2.size)
            have p0 : w3.cell? ⟨w.heap.size, 0, none⟩ = some (.slice sa0 a.defs.length sc0) := by simp [World.cell?, e1]
            have q0 : w3.cell? ⟨w.heap.size + 1, 0, none⟩ = some (.slice ta0 b.defs.length tc0) := by simp [World.cell?, e2]
            have p1 : w3.cell? ⟨w.heap.size, 1, none⟩ = some (.slice sa1 a.comps.length sc1) := by simp [World.cell?, e1]
            have q1 : w3.cell? ⟨w.heap.size + 1, 1, none⟩ = some (.slice ta1 b.comps.length tc1) := by simp [World.cell?, e2]
            have p2 : w3.cell? ⟨w.heap.size, 2, none⟩ = some (.slice sa2 a.meets.length sc2) := by simp [World.cell?, e1]
            have q2 : w3.cell? ⟨w.heap.size + 1, 2, none⟩ = some (.slice ta2 b.meets.length tc2) := by simp [World.cell?, e2]
            have p3 : w3.cell? ⟨w.heap.size, 3, none⟩ = some (.slice sa3 a.allow.length sc3) := by simp [World.cell?, e1]
            have q3 : w3.cell? ⟨w.heap.size + 1, 3, none⟩ = some (.slice ta3 b.allow.length tc3) := by simp [World.cell?, e2]
            have p4 : w3.cell? ⟨w.heap.size, 4, none⟩ = some (.slice sa4 a.hide.length sc4) := by simp [World.cell?, e1]
            have q4 : w3.cell? ⟨w.heap.size + 1, 4, none⟩ = some (.slice ta4 b.hide.length tc4) := by simp [World.cell?, e2]
            go_wp2_with fail
            refine (calls_below (sEqS_q _ _ _ _ _ (by unfold totS at hn; omega) (hs3.keep (Keep.of_below _ _ hB3)) (ht3.keep (Keep.of_below _ _ hB3)))).mono ?_
            rw [C3.out]
            rintro e w4 ⟨rfl, hb3⟩
            have e1 := (hb3.block _ (lt_of_some e1)).trans e1
            have e2 := (hb3.block _ (lt_of_some e2)).trans e2
            have hB4 : Below w.heap.size w w4 := hB3.trans (hb3.mono hB3.size)
            have p0 : w4.cell? ⟨w.heap.size, 0, none⟩ = some (.slice sa0 a.defs.length sc0) := by simp [World.cell?, e1]
            have q0 : w4.cell? ⟨w.heap.size + 1, 0, none⟩ = some (.slice ta0 b.defs.length tc0) := by simp [World.cell?, e2]
            have p1 : w4.cell? ⟨w.heap.size, 1, none⟩ = some (.slice sa1 a.comps.length sc1) := by simp [World.cell?, e1]
            have q1 : w4.cell? ⟨w.heap.size + 1, 1, none⟩ = some (.slice ta1 b.comps.length tc1) := by simp [World.cell?, e2]
            have p2 : w4.cell? ⟨w.heap.size, 2, none⟩ = some (.slice sa2 a.meets.length sc2) := by simp [World.cell?, e1]
            have q2 : w4.cell? ⟨w.heap.size + 1, 2, none⟩ = some (.slice ta2 b.meets.length tc2) := by simp [World.cell?, e2]
            have p3 : w4.cell? ⟨w.heap.size, 3, none⟩ = some (.slice sa3 a.allow.length sc3) := by simp [World.cell?, e1]
            have q3 : w4.cell? ⟨w.heap.size + 1, 3, none⟩ = some (.slice ta3 b.allow.length tc3) := by simp [World.cell?, e2]
            have p4 : w4.cell? ⟨w.heap.size, 4, none⟩ = some (.slice sa4 a.hide.length sc4) := by simp [World.cell?, e1]
            have q4 : w4.cell? ⟨w.heap.size + 1, 4, none⟩ = some (.slice ta4 b.hide.length tc4) := by simp [World.cell?, e2]
            go_wp2_with fail
            refine (calls_below (sEqS_q _ _ _ _ _ (by unfold totS at hn; omega) (hs4.keep (Keep.of_below _ _ hB4)) (ht4.keep (Keep.of_below _ _ hB4)))).mono ?_
            rw [C4.out]
            rintro e w5 ⟨rfl, hb4⟩
            have e1 := (hb4.block _ (lt_of_some e1)).trans e1
            have e2 := (hb4.block _ (lt_of_some e2)).trans e2
            have hB5 : Below w.heap.size w w5 := hB4.trans (hb4.mono hB4.size)
            have p0 : w5.cell? ⟨w.heap.size, 0, none⟩ = some (.slice sa0 a.defs.length sc0) := by simp [World.cell?, e1]
            have q0 : w5.cell? ⟨w.heap.size + 1, 0, none⟩ = some (.slice ta0 b.defs.length tc0) := by simp [World.cell?, e2]
            have p1 : w5.cell? ⟨w.heap.size, 1, none⟩ = some (.slice sa1 a.comps.length sc1) := by simp [World.cell?, e1]
            have q1 : w5.cell? ⟨w.heap.size + 1, 1, none⟩ = some (.slice ta1 b.comps.length tc1) := by simp [World.cell?, e2]
            have p2 : w5.cell? ⟨w.heap.size, 2, none⟩ = some (.slice sa2 a.meets.length sc2) := by simp [World.cell?, e1]
            have q2 : w5.cell? ⟨w.heap.size + 1, 2, none⟩ = some (.slice ta2 b.meets.length tc2) := by simp [World.cell?, e2]
            have p3 : w5.cell? ⟨w.heap.size, 3, none⟩ = some (.slice sa3 a.allow.length sc3) := by simp [World.cell?, e1]
            have q3 : w5.cell? ⟨w.heap.size + 1, 3, none⟩ = some (.slice ta3 b.allow.length tc3) := by simp [World.cell?, e2]
            have p4 : w5.cell? ⟨w.heap.size, 4, none⟩ = some (.slice sa4 a.hide.length sc4) := by simp [World.cell?, e1]
            have q4 : w5.cell? ⟨w.heap.size + 1, 4, none⟩ = some (.slice ta4 b.hide.length tc4) := by simp [World.cell?, e2]
            go_wp2_with fail
            go_ret
            exact ⟨rfl, hB5⟩
          · have HF : Hid (decide (a = b) = false) := Lib.hid (decide_eq_false fun h => c4 (by rw [h]))
            rw [HF.out]
            clear HF hlt
            have C0 : Hid (decide (a.defs = b.defs) = true) := Lib.hid (decide_eq_true c0)
            have C1 : Hid (decide (a.comps = b.comps) = true) := Lib.hid (decide_eq_true c1)
            have C2 : Hid (decide (a.meets = b.meets) = true) := Lib.hid (decide_eq_true c2)
            have C3 : Hid (decide (a.allow = b.allow) = true) := Lib.hid (decide_eq_true c3)
            have C4 : Hid (decide (a.hide = b.hide) = false) := Lib.hid (decide_eq_false c4)
            clear c0 c1 c2 c3 c4
            go_enter Try.func19, Try.ntmps19
            have hB0 : ∀ x y : Obj, Below w.heap.size w ((w.alloc x).alloc y) := fun x y => ((Below.refl _ w).alloc (Nat.le_refl _) _).alloc (by simp) _
            go_wp2_with fail
            refine (eqFuncDf_any _ _ _ _ _ (by omega) (hs0.keep (Keep.of_below _ _ (hB0 _ _))) (ht0.keep (Keep.of_below _ _ (hB0 _ _)))).mono ?_
            rw [C0.out]
            rintro e w1 ⟨rfl, hb0⟩
            have e1 := box_one hb0
            have e2 := box_two hb0
            have hB1 : Below w.heap.size w w1 := (hB0 _ _).trans (hb0.mono (by simp; omega))
            have p0 : w1.cell? ⟨w.heap.size, 0, none⟩ = some (.slice sa0 a.defs.length sc0) := by simp [World.cell?, e1]
            have q0 : w1.cell? ⟨w.heap.size + 1, 0, none⟩ = some (.slice ta0 b.defs.length tc0) := by simp [World.cell?, e2]
            have p1 : w1.cell? ⟨w.heap.size, 1, none⟩ = some (.slice sa1 a.comps.length sc1) := by simp [World.cell?, e1]
            have q1 : w1.cell? ⟨w.heap.size + 1, 1, none⟩ = some (.slice ta1 b.comps.length tc1) := by simp [World.cell?, e2]
            have p2 : w1.cell? ⟨w.heap.size, 2, none⟩ = some (.slice sa2 a.meets.length sc2) := by simp [World.cell?, e1]
            have q2 : w1.cell? ⟨w.heap.size + 1, 2, none⟩ = some (.slice ta2 b.meets.length tc2) := by simp [World.cell?, e2]
            have p3 : w1.cell? ⟨w.heap.size, 3, none⟩ = some (.slice sa3 a.allow.length sc3) := by simp [World.cell?, e1]
            have q3 : w1.cell? ⟨w.heap.size + 1, 3, none⟩ = some (.slice ta3 b.allow.length tc3) := by simp [World.cell?, e2]
            have p4 : w1.cell? ⟨w.heap.size, 4, none⟩ = some (.slice sa4 a.hide.length sc4) := by simp [World.cell?, e1]
            have q4 : w1.cell? ⟨w.heap.size + 1, 4, none⟩ = some (.slice ta4 b.hide.length tc4) := by simp [World.cell?, e2]
            go_wp2_with fail
            refine (eqFuncCp_any _ _ _ _ _ (by omega) (hs1.keep (Keep.of_below _ _ hB1)) (ht1.keep (Keep.of_below _ _ hB1))).mono ?_
            rw [C1.out]
            rintro e w2 ⟨rfl, hb1⟩
            have e1 := (hb1.block _ (lt_of_some e1)).trans e1
            have e2 := (hb1.block _ (lt_of_some e2)).trans e2
            have hB2 : Below w.heap.size w w2 := hB1.trans (hb1.mono hB1.size)
            have p0 : w2.cell? ⟨w.heap.size, 0, none⟩ = some (.slice sa0 a.defs.length sc0) := by simp [World.cell?, e1]
            have q0 : w2.cell? ⟨w.heap.size + 1, 0, none⟩ = some (.slice ta0 b.defs.length tc0) := by simp [World.cell?, e2]
            have p1 : w2.cell? ⟨w.heap.size, 1, none⟩ = some (.slice sa1 a.comps.length sc1) := by simp [World.cell?, e1]
            have q1 : w2.cell? ⟨w.heap.size + 1, 1, none⟩ = some (.slice ta1 b.comps.length tc1) := by simp [World.cell?, e2]
            have p2 : w2.cell? ⟨w.heap.size, 2, none⟩ = some (.slice sa2 a.meets.length sc2) := by simp [World.cell?, e1]
            have q2 : w2.cell? ⟨w.heap.size + 1, 2, none⟩ = some (.slice ta2 b.meets.length tc2) := by simp [World.cell?, e2]
            have p3 : w2.cell? ⟨w.heap.size, 3, none⟩ = some (.slice sa3 a.allow.length sc3) := by simp [World.cell?, e1]
            have q3 : w2.cell? ⟨w.heap.size + 1, 3, none⟩ = some (.slice ta3 b.allow.length tc3) := by simp [World.cell?, e2]
            have p4 : w2.cell? ⟨w.heap.size, 4, none⟩ = some (.slice sa4 a.hide.length sc4) := by simp [World.cell?, e1]
            have q4 : w2.cell? ⟨w.heap.size + 1, 4, none⟩ = some (.slice ta4 b.hide.length tc4) := by simp [World.cell?, e2]
            go_wp2_with fail
            refine (calls_below (sEqMt_q _ _ _ _ _ (by unfold totMt at hn; omega) (hs2.keep (Keep.of_below _ _ hB2)) (ht2.keep (Keep.of_below _ _ hB2)))).mono ?_
            rw [C2.out]
            rintro e w3 ⟨rfl, hb2⟩
            have e1 := (hb2.block _ (lt_of_some e1)).trans e1
            have e2 := (hb2.block _ (lt_of_some e2)).trans e2
            have hB3 : Below w.heap.size w w3 := hB2.trans (hb2.mono hB2.size)
            have p0 : w3.cell? ⟨w.heap.size, 0, none⟩ = some (.slice sa0 a.defs.length sc0) := by simp [World.cell?, e1]
            have q0 : w3.cell? ⟨w.heap.size + 1, 0, none⟩ = some (.slice ta0 b.defs.length tc0) := by simp [World.cell?, e2]
            have p1 : w3.cell? ⟨w.heap.size, 1, none⟩ = some (.slice sa1 a.comps.length sc1) := by simp [World.cell?, e1]
            have q1 : w3.cell? ⟨w.heap.size + 1, 1, none⟩ = some (.slice ta1 b.comps.length tc1) := by simp [World.cell?, e2]
            have p2 : w3.cell? ⟨w.heap.size, 2, none⟩ = some (.slice sa2 a.meets.length sc2) := by simp [World.cell?, e1]
            have q2 : w3.cell? ⟨w.heap.size + 1, 2, none⟩ = some (.slice ta2 b.meets.length tc2) := by simp [World.cell?, e2]
            have p3 : w3.cell? ⟨w.heap.size, 3, none⟩ = some (.slice sa3 a.allow.length sc3) := by simp [World.cell?, e1]
            have q3 : w3.cell? ⟨w.heap.size + 1, 3, none⟩ = some (.slice ta3 b.allow.length tc3) := by simp [World.cell?, e2]
            have p4 : w3.cell? ⟨w.heap.size, 4, none⟩ = some (.slice sa4 a.hide.length sc4) := by simp [World.cell?, e1]
            have q4 : w3.cell? ⟨w.heap.size + 1, 4, none⟩ = some (.slice ta4 b.hide.length tc4) := by simp [World.cell?, e2]
            go_wp2_with fail
            refine (calls_below (sEqS_q _ _ _ _ _ (by unfold totS at hn; omega) (hs3.keep (Keep.of_below _ _ hB3)) (ht3.keep (Keep.of_below _ _ hB3)))).mono ?_
            rw [C3.out]
            rintro e w4 ⟨rfl, hb3⟩
            have e1 := (hb3.block _ (lt_of_some e1)).trans e1
            have e2 := (hb3.block _ (lt_of_some e2)).trans e2
            have hB4 : Below w.heap.size w w4 := hB3.trans (hb3.mono hB3.size)
            have p0 : w4.cell? ⟨w.heap.size, 0, none⟩ = some (.slice sa0 a.defs.length sc0) := by simp [World.cell?, e1]
            have q0 : w4.cell? ⟨w.heap.size + 1, 0, none⟩ = some (.slice ta0 b.defs.length tc0) := by simp [World.cell?, e2]
            have p1 : w4.cell? ⟨w.heap.size, 1, none⟩ = some (.slice sa1 a.comps.length sc1) := by simp [World.cell?, e1]
            have q1 : w4.cell? ⟨w.heap.size + 1, 1, none⟩ = some (.slice ta1 b.comps.length tc1) := by simp [World.cell?, e2]
            have p2 : w4.cell? ⟨w.heap.size, 2, none⟩ = some (.slice sa2 a.meets.length sc2) := by simp [World.cell?, e1]
            have q2 : w4.cell? ⟨w.heap.size + 1, 2, none⟩ = some (.slice ta2 b.meets.length tc2) := by simp [World.cell?, e2]
            have p3 : w4.cell? ⟨w.heap.size, 3, none⟩ = some (.slice sa3 a.allow.length sc3) := by simp [World.cell?, e1]
            have q3 : w4.cell? ⟨w.heap.size + 1, 3, none⟩ = some (.slice ta3 b.allow.length tc3) := by simp [World.cell?, e2]
            have p4 : w4.cell? ⟨w.heap.size, 4, none⟩ = some (.slice sa4 a.hide.length sc4) := by simp [World.cell?, e1]
            have q4 : w4.cell? ⟨w.heap.size + 1, 4, none⟩ = some (.slice ta4 b.hide.length tc4) := by simp [World.cell?, e2]
            go_wp2_with fail
            refine (calls_below (sEqS_q _ _ _ _ _ (by unfold totS at hn; omega) (hs4.keep (Keep.of_below _ _ hB4)) (ht4.keep (Keep.of_below _ _ hB4)))).mono ?_
            rw [C4.out]
            rintro e w5 ⟨rfl, hb4⟩
            have e1 := (hb4.block _ (lt_of_some e1)).trans e1
            have e2 := (hb4.block _ (lt_of_some e2)).trans e2
            have hB5 : Below w.heap.size w w5 := hB4.trans (hb4.mono hB4.size)
            have p0 : w5.cell? ⟨w.heap.size, 0, none⟩ = some (.slice sa0 a.defs.length sc0) := by simp [World.cell?, e1]
            have q0 : w5.cell? ⟨w.heap.size + 1, 0, none⟩ = some (.slice ta0 b.defs.length tc0) := by simp [World.cell?, e2]
            have p1 : w5.cell? ⟨w.heap.size, 1, none⟩ = some (.slice sa1 a.comps.length sc1) := by simp [World.cell?, e1]
            have q1 : w5.cell? ⟨w.heap.size + 1, 1, none⟩ = some (.slice ta1 b.comps.length tc1) := by simp [World.cell?, e2]
            have p2 : w5.cell? ⟨w.heap.size, 2, none⟩ = some (.slice sa2 a.meets.length sc2) := by simp [World.cell?, e1]
            have q2 : w5.cell? ⟨w.heap.size + 1, 2, none⟩ = some (.slice ta2 b.meets.length tc2) := by simp [World.cell?, e2]
            have p3 : w5.cell? ⟨w.heap.size, 3, none⟩ = some (.slice sa3 a.allow.length sc3) := by simp [World.cell?, e1]
            have q3 : w5.cell? ⟨w.heap.size + 1, 3, none⟩ = some (.slice ta3 b.allow.length tc3) := by simp [World.cell?, e2]
            have p4 : w5.cell? ⟨w.heap.size, 4, none⟩ = some (.slice sa4 a.hide.length sc4) := by simp [World.cell?, e1]
            have q4 : w5.cell? ⟨w.heap.size + 1, 4, none⟩ = some (.slice ta4 b.hide.length tc4) := by simp [World.cell?, e2]
            go_wp2_with fail
            go_ret
            exact ⟨rfl, hB5⟩
        · have HF : Hid (decide (a = b) = false) := Lib.hid (decide_eq_false fun h => c3 (by rw [h]))
          rw [HF.out]
          clear HF hlt
          have C0 : Hid (decide (a.defs = b.defs) = true) := Lib.hid (decide_eq_true c0)
          have C1 : Hid (decide (a.comps = b.comps) = true) := Lib.hid (decide_eq_true c1)
          have C2 : Hid (decide (a.meets = b.meets) = true) := Lib.hid (decide_eq_true c2)
          have C3 : Hid (decide (a.allow = b.allow) = false) := Lib.hid (decide_eq_false c3)
          clear c0 c1 c2 c3
          go_enter Try.func19, Try.ntmps19
          have hB0 : ∀ x y : Obj, Below w.heap.size w ((w.alloc x).alloc y) := fun x y => ((Below.refl _ w).alloc (Nat.le_refl _) _).alloc (by simp) _
          go_wp2_with fail
          refine (eqFuncDf_any _ _ _ _ _ (by omega) (hs0.keep (Keep.of_below _ _ (hB0 _ _))) (ht0.keep (Keep.of_below _ _ (hB0 _ _)))).mono ?_
          rw [C0.out]
          rintro e w1 ⟨rfl, hb0⟩
          have e1 := box_one hb0
          have e2 := box_two hb0
          have hB1 : Below w.heap.size w w1 := (hB0 _ _).trans (hb0.mono (by simp; omega))
          have p0 : w1.cell? ⟨w.heap.size, 0, none⟩ = some (.slice sa0 a.defs.length sc0) := by simp [World.cell?, e1]
          have q0 : w1.cell? ⟨w.heap.size + 1, 0, none⟩ = some (.slice ta0 b.defs.length tc0) := by simp [World.cell?, e2]
          have p1 : w1.cell? ⟨w.heap.size, 1, none⟩ = some (.slice sa1 a.comps.length sc1) := by simp [World.cell?, e1]
          have q1 : w1.cell? ⟨w.heap.size + 1, 1, none⟩ = some (.slice ta1 b.comps.length tc1) := by simp [World.cell?, e2]
          have p2 : w1.cell? ⟨w.heap.size, 2, none⟩ = some (.slice sa2 a.meets.length sc2) := by simp [World.cell?, e1]
          have q2 : w1.cell? ⟨w.heap.size + 1, 2, none⟩ = some (.slice ta2 b.meets.length tc2) := by simp [World.cell?, e2]
          have p3 : w1.cell? ⟨w.heap.size, 3, none⟩ = some (.slice sa3 a.allow.length sc3) := by simp [World.cell?, e1]
          have q3 : w1.cell? ⟨w.heap.size + 1, 3, none⟩ = some (.slice ta3 b.allow.length tc3) := by simp [World.cell?, e2]
          have p4 : w1.cell? ⟨w.heap.size, 4, none⟩ = some (.slice sa4 a.hide.length sc4) := by simp [World.cell?, e1]
          have q4 : w1.cell? ⟨w.heap.size + 1, 4, none⟩ = some (.slice ta4 b.hide.length tc4) := by simp [World.cell?, e2]
          go_wp2_with fail
          refine (eqFuncCp_any _ _ _ _ _ (by omega) (hs1.keep (Keep.of_below _ _ hB1)) (ht1.keep (Keep.of_below _ _ hB1))).mono ?_
          rw [C1.out]
          rintro e w2 ⟨rfl, hb1⟩
          have e1 := (hb1.block _ (lt_of_some e1)).trans e1
          have e2 := (hb1.block _ (lt_of_some e2)).trans e2
          have hB2 : Below w.heap.size w w2 := hB1.trans (hb1.mono hB1.size)
          have p0 : w2.cell? ⟨w.heap.size, 0, none⟩ = some (.slice sa0 a.defs.length sc0) := by simp [World.cell?, e1]
          have q0 : w2.cell? ⟨w.heap.size + 1, 0, none⟩ = some (.slice ta0 b.defs.length tc0) := by simp [World.cell?, e2]
          have p1 : w2.cell? ⟨w.heap.size, 1, none⟩ = some (.slice sa1 a.comps.length sc1) := by simp [World.cell?, e1]
          have q1 : w2.cell? ⟨w.heap.size + 1, 1, none⟩ = some (.slice ta1 b.comps.length tc1) := by simp [World.cell?, e2]
          have p2 : w2.cell? ⟨w.heap.size, 2, none⟩ = some (.slice sa2 a.meets.length sc2) := by simp [World.cell?, e1]
          have q2 : w2.cell? ⟨w.heap.size + 1, 2, none⟩ = some (.slice ta2 b.meets.length tc2) := by simp [World.cell?, e2]
          have p3 : w2.cell? ⟨w.heap.size, 3, none⟩ = some (.slice sa3 a.allow.length sc3) := by simp [World.cell?, e1]
          have q3 : w2.cell? ⟨w.heap.size + 1, 3, none⟩ = some (.slice ta3 b.allow.length tc3) := by simp [World.cell?, e2]
          have p4 : w2.cell? ⟨w.heap.size, 4, none⟩ = some (.slice sa4 a.hide.length sc4) := by simp [World.cell?, e1]
          have q4 : w2.cell? ⟨w.heap.size + 1, 4, none⟩ = some (.slice ta4 b.hide.length tc4) := by simp [World.cell?, e2]
          go_wp2_with fail
          refine (calls_below (sEqMt_q _ _ _ _ _ (by unfold totMt at hn; omega) (hs2.keep (Keep.of_below _ _ hB2)) (ht2.keep (Keep.of_below _ _ hB2)))).mono ?_
          rw [C2.out]
          rintro e w3 ⟨rfl, hb2⟩
          have e1 := (hb2.block _ (lt_of_some e1)).trans e1
          have e2 := (hb2.block _ (lt_of_some e2)).trans e2
          have hB3 : Below w.heap.size w w3 := hB2.trans (hb2.mono hB2.size)
          have p0 : w3.cell? ⟨w.heap.size, 0, none⟩ = some (.slice sa0 a.defs.length sc0) := by simp [World.cell?, e1]
          have q0 : w3.cell? ⟨w.heap.size + 1, 0, none⟩ = some (.slice ta0 b.defs.length tc0) := by simp [World.cell?, e2]
          have p1 : w3.cell? ⟨w.heap.size, 1, none⟩ = some (.slice sa1 a.comps.length sc1) := by simp [World.cell?, e1]
          have q1 : w3.cell? ⟨w.heap.size + 1, 1, none⟩ = some (.slice ta1 b.comps.length tc1) := by simp [World.cell?, e2]
          have p2 : w3.cell? ⟨w.heap.size, 2, none⟩ = some (.slice sa2 a.meets.length sc2) := by simp [World.cell?, e1]
          have q2 : w3.cell? ⟨w.heap.size + 1, 2, none⟩ = some (.slice ta2 b.meets.length tc2) := by simp [World.cell?, e2]
          have p3 : w3.cell? ⟨w.heap.size, 3, none⟩ = some (.slice sa3 a.allow.length sc3) := by simp [World.cell?, e1]
          have q3 : w3.cell? ⟨w.heap.size + 1, 3, none⟩ = some (.slice ta3 b.allow.length tc3) := by simp [World.cell?, e2]
          have p4 : w3.cell? ⟨w.heap.size, 4, none⟩ = some (.slice sa4 a.hide.length sc4) := by simp [World.cell?, e1]
          have q4 : w3.cell? ⟨w.heap.size + 1, 4, none⟩ = some (.slice ta4 b.hide.length tc4) := by simp [World.cell?, e2]
          go_wp2_with fail
          refine (calls_below (sEqS_q _ _ _ _ _ (by unfold totS at hn; omega) (hs3.keep (Keep.of_below _ _ hB3)) (ht3.keep (Keep.of_below _ _ hB3)))).mono ?_
          rw [C3.out]
          rintro e w4 ⟨rfl, hb3⟩
          have e1 := (hb3.block _ (lt_of_some e1)).trans e1
          have e2 := (hb3.block _ (lt_of_some e2)).trans e2
          have hB4 : Below w.heap.size w w4 := hB3.trans (hb3.mono hB3.size)
          have p0 : w4.cell? ⟨w.heap.size, 0, none⟩ = some (.slice sa0 a.defs.length sc0) := by simp [World.cell?, e1]
          have q0 : w4.cell? ⟨w.heap.size + 1, 0, none⟩ = some (.slice ta0 b.defs.length tc0) := by simp [World.cell?, e2]
          have p1 : w4.cell? ⟨w.heap.size, 1, none⟩ = some (.slice sa1 a.comps.length sc1) := by simp [World.cell?, e1]
          have q1 : w4.cell? ⟨w.heap.size + 1, 1, none⟩ = some (.slice ta1 b.comps.length tc1) := by simp [World.cell?, e2]
          have p2 : w4.cell? ⟨w.heap.size, 2, none⟩ = some (.slice sa2 a.meets.length sc2) := by simp [World.cell?, e1]
          have q2 : w4.cell? ⟨w.heap.size + 1, 2, none⟩ = some (.slice ta2 b.meets.length tc2) := by simp [World.cell?, e2]
          have p3 : w4.cell? ⟨w.heap.size, 3, none⟩ = some (.slice sa3 a.allow.length sc3) := by simp [World.cell?, e1]
          have q3 : w4.cell? ⟨w.heap.size + 1, 3, none⟩ = some (.slice ta3 b.allow.length tc3) := by simp [World.cell?, e2]
          have p4 : w4.cell? ⟨w.heap.size, 4, none⟩ = some (.slice sa4 a.hide.length sc4) := by simp [World.cell?, e1]
          have q4 : w4.cell? ⟨w.heap.size + 1, 4, none⟩ = some (.slice ta4 b.hide.length tc4) := by simp [World.cell?, e2]
          go_wp2_with fail
          go_ret
          exact ⟨rfl, hB4⟩
      · have HF : Hid (decide (a = b) = false) := Lib.hid (decide_eq_false fun h => c2 (by rw [h]))
        rw [HF.out]
        clear HF hlt
        have C0 : Hid (decide (a.defs = b.defs) = true) := Lib.hid (decide_eq_true c0)
        have C1 : Hid (decide (a.comps = b.comps) = true) := Lib.hid (decide_eq_true c1)
        have C2 : Hid (decide (a.meets = b.meets) = false) := Lib.hid (decide_eq_false c2)
        clear c0 c1 c2
        go_enter Try.func19, Try.ntmps19
        have hB0 : ∀ x y : Obj, Below w.heap.size w ((w.alloc x).alloc y) := fun x y => ((Below.refl _ w).alloc (Nat.le_refl _) _).alloc (by simp) _
        go_wp2_with fail
        refine (eqFuncDf_any _ _ _ _ _ (by omega) (hs0.keep (Keep.of_below _ _ (hB0 _ _))) (ht0.keep (Keep.of_below _ _ (hB0 _ _)))).mono ?_
        rw [C0.out]
        rintro e w1 ⟨rfl, hb0⟩
        have e1 := box_one hb0
        have e2 := box_two hb0
        have hB1 : Below w.heap.size w w1 := (hB0 _ _).trans (hb0.mono (by simp; omega))
        have p0 : w1.cell? ⟨w.heap.size, 0, none⟩ = some (.slice sa0 a.defs.length sc0) := by simp [World.cell?, e1]
        have q0 : w1.cell? ⟨w.heap.size + 1, 0, none⟩ = some (.slice ta0 b.defs.length tc0) := by simp [World.cell?, e2]
        have p1 : w1.cell? ⟨w.heap.size, 1, none⟩ = some (.slice sa1 a.comps.length sc1) := by simp [World.cell?, e1]
        have q1 : w1.cell? ⟨w.heap.size + 1, 1, none⟩ = some (.slice ta1 b.comps.length tc1) := by simp [World.cell?, e2]
        have p2 : w1.cell? ⟨w.heap.size, 2, none⟩ = some (.slice sa2 a.meets.length sc2) := by simp [World.cell?, e1]
        have q2 : w1.cell? ⟨w.heap.size + 1, 2, none⟩ = some (.slice ta2 b.meets.length tc2) := by simp [World.cell?, e2]
        have p3 : w1.cell? ⟨w.heap.size, 3, none⟩ = some (.slice sa3 a.allow.length sc3) := by simp [World.cell?, e1]
        have q3 : w1.cell? ⟨w.heap.size + 1, 3, none⟩ = some (.slice ta3 b.allow.length tc3) := by simp [World.cell?, e2]
        have p4 : w1.cell? ⟨w.heap.size, 4, none⟩ = some (.slice sa4 a.hide.length sc4) := by simp [World.cell?, e1]
        have q4 : w1.cell? ⟨w.heap.size + 1, 4, none⟩ = some (.slice ta4 b.hide.length tc4) := by simp [World.cell?, e2]
        go_wp2_with fail
        refine (eqFuncCp_any _ _ _ _ _ (by omega) (hs1.keep (Keep.of_below _ _ hB1)) (ht1.keep (Keep.of_below _ _ hB1))).mono ?_
        rw [C1.out]
        rintro e w2 ⟨rfl, hb1⟩
        have e1 := (hb1.block _ (lt_of_some e1)).trans e1
        have e2 := (hb1.block _ (lt_of_some e2)).trans e2
        have hB2 : Below w.heap.size w w2 := hB1.trans (hb1.mono hB1.size)
        have p0 : w2.cell? ⟨w.heap.size, 0, none⟩ = some (.slice sa0 a.defs.length sc0) := by simp [World.cell?, e1]
        have q0 : w2.cell? ⟨w.heap.size + 1, 0, none⟩ = some (.slice ta0 b.defs.length tc0) := by simp [World.cell?, e2]
        have p1 : w2.cell? ⟨w.heap.size, 1, none⟩ = some (.slice sa1 a.comps.length sc1) := by simp [World.cell?, e1]
        have q1 : w2.cell? ⟨w.heap.size + 1, 1, none⟩ = some (.slice ta1 b.comps.length tc1) := by simp [World.cell?, e2]
        have p2 : w2.cell? ⟨w.heap.size, 2, none⟩ = some (.slice sa2 a.meets.length sc2) := by simp [World.cell?, e1]
        have q2 : w2.cell? ⟨w.heap.size + 1, 2, none⟩ = some (.slice ta2 b.meets.length tc2) := by simp [World.cell?, e2]
        have p3 : w2.cell? ⟨w.heap.size, 3, none⟩ = some (.slice sa3 a.allow.length sc3) := by simp [World.cell?, e1]
        have q3 : w2.cell? ⟨w.heap.size + 1, 3, none⟩ = some (.slice ta3 b.allow.length tc3) := by simp [World.cell?, e2]
        have p4 : w2.cell? ⟨w.heap.size, 4, none⟩ = some (.slice sa4 a.hide.length sc4) := by simp [World.cell?, e1]
        have q4 : w2.cell? ⟨w.heap.size + 1, 4, none⟩ = some (.slice ta4 b.hide.length tc4) := by simp [World.cell?, e2]
        go_wp2_with fail
        refine (calls_below (sEqMt_q _ _ _ _ _ (by unfold totMt at hn; omega) (hs2.keep (Keep.of_below _ _ hB2)) (ht2.keep (Keep.of_below _ _ hB2)))).mono ?_
        rw [C2.out]
        rintro e w3 ⟨rfl, hb2⟩
        have e1 := (hb2.block _ (lt_of_some e1)).trans e1
        have e2 := (hb2.block _ (lt_of_some e2)).trans e2
        have hB3 : Below w.heap.size w w3 := hB2.trans (hb2.mono hB2.size)
        have p0 : w3.cell? ⟨w.heap.size, 0, none⟩ = some (.slice sa0 a.defs.length sc0) := by simp [World.cell?, e1]
        have q0 : w3.cell? ⟨w.heap.size + 1, 0, none⟩ = some (.slice ta0 b.defs.length tc0) := by simp [World.cell?, e2]
        have p1 : w3.cell? ⟨w.heap.size, 1, none⟩ = some (.slice sa1 a.comps.length sc1) := by simp [World.cell?, e1]
        have q1 : w3.cell? ⟨w.heap.size + 1, 1, none⟩ = some (.slice ta1 b.comps.length tc1) := by simp [World.cell?, e2]
        have p2 : w3.cell? ⟨w.heap.size, 2, none⟩ = some (.slice sa2 a.meets.length sc2) := by simp [World.cell?, e1]
        have q2 : w3.cell? ⟨w.heap.size + 1, 2, none⟩ = some (.slice ta2 b.meets.length tc2) := by simp [World.cell?, e2]
        have p3 : w3.cell? ⟨w.heap.size, 3, none⟩ = some (.slice sa3 a.allow.length sc3) := by simp [World.cell?, e1]
        have q3 : w3.cell? ⟨w.heap.size + 1, 3, none⟩ = some (.slice ta3 b.allow.length tc3) := by simp [World.cell?, e2]
        have p4 : w3.cell? ⟨w.heap.size, 4, none⟩ = some (.slice sa4 a.hide.length sc4) := by simp [World.cell?, e1]
        have q4 : w3.cell? ⟨w.heap.size + 1, 4, none⟩ = some (.slice ta4 b.hide.length tc4) := by simp [World.cell?, e2]
        go_wp2_with fail
        go_ret
        exact ⟨rfl, hB3⟩
    · have HF : Hid (decide (a = b) = false) := Lib.hid (decide_eq_false fun h => c1 (by rw [h]))
      rw [HF.out]
      clear HF hlt
      have C0 : Hid (decide (a.defs = b.defs) = true) := Lib.hid (decide_eq_true c0)
      have C1 : Hid (decide (a.comps = b.comps) = false) := Lib.hid (decide_eq_false c1)
      clear c0 c1
      go_enter Try.func19, Try.ntmps19
      have hB0 : ∀ x y : Obj, Below w.heap.size w ((w.alloc x).alloc y) := fun x y => ((Below.refl _ w).alloc (Nat.le_refl _) _).alloc (by simp) _
      go_wp2_with fail
      refine (eqFuncDf_any _ _ _ _ _ (by omega) (hs0.keep (Keep.of_below _ _ (hB0 _ _))) (ht0.keep (Keep.of_below _ _ (hB0 _ _)))).mono ?_
      rw [C0.out]
      rintro e w1 ⟨rfl, hb0⟩
      have e1 := box_one hb0
      have e2 := box_two hb0
      have hB1 : Below w.heap.size w w1 := (hB0 _ _).trans (hb0.mono (by simp; omega))
      have p0 : w1.cell? ⟨w.heap.size, 0, none⟩ = some (.slice sa0 a.defs.length sc0) := by simp [World.cell?, e1]
      have q0 : w1.cell? ⟨w.heap.size + 1, 0, none⟩ = some (.slice ta0 b.defs.length tc0) := by simp [World.cell?, e2]
      have p1 : w1.cell? ⟨w.heap.size, 1, none⟩ = some (.slice sa1 a.comps.length sc1) := by simp [World.cell?, e1]
      have q1 : w1.cell? ⟨w.heap.size + 1, 1, none⟩ = some (.slice ta1 b.comps.length tc1) := by simp [World.cell?, e2]
      have p2 : w1.cell? ⟨w.heap.size, 2, none⟩ = some (.slice sa2 a.meets.length sc2) := by simp [World.cell?, e1]
      have q2 : w1.cell? ⟨w.heap.size + 1, 2, none⟩ = some (.slice ta2 b.meets.length tc2) := by simp [World.cell?, e2]
      have p3 : w1.cell? ⟨w.heap.size, 3, none⟩ = some (.slice sa3 a.allow.length sc3) := by simp [World.cell?, e1]
      have q3 : w1.cell? ⟨w.heap.size + 1, 3, none⟩ = some (.slice ta3 b.allow.length tc3) := by simp [World.cell?, e2]
      have p4 : w1.cell? ⟨w.heap.size, 4, none⟩ = some (.slice sa4 a.hide.length sc4) := by simp [World.cell?, e1]
      have q4 : w1.cell? ⟨w.heap.size + 1, 4, none⟩ = some (.slice ta4 b.hide.length tc4) := by simp [World.cell?, e2]
      go_wp2_with fail
      refine (eqFuncCp_any _ _ _ _ _ (by omega) (hs1.keep (Keep.of_below _ _ hB1)) (ht1.keep (Keep.of_below _ _ hB1))).mono ?_
      rw [C1.out]
      rintro e w2 ⟨rfl, hb1⟩
      have e1 := (hb1.block _ (lt_of_some e1)).trans e1
      have e2 := (hb1.block _ (lt_of_some e2)).trans e2
      have hB2 : Below w.heap.size w w2 := hB1.trans (hb1.mono hB1.size)
      have p0 : w2.cell? ⟨w.heap.size, 0, none⟩ = some (.slice sa0 a.defs.length sc0) := by simp [World.cell?, e1]
      have q0 : w2.cell? ⟨w.heap.size + 1, 0, none⟩ = some (.slice ta0 b.defs.length tc0) := by simp [World.cell?, e2]
      have p1 : w2.cell? ⟨w.heap.size, 1, none⟩ = some (.slice sa1 a.comps.length sc1) := by simp [World.cell?, e1]
      have q1 : w2.cell? ⟨w.heap.size + 1, 1, none⟩ = some (.slice ta1 b.comps.length tc1) := by simp [World.cell?, e2]
      have p2 : w2.cell? ⟨w.heap.size, 2, none⟩ = some (.slice sa2 a.meets.length sc2) := by simp [World.cell?, e1]
      have q2 : w2.cell? ⟨w.heap.size + 1, 2, none⟩ = some (.slice ta2 b.meets.length tc2) := by simp [World.cell?, e2]
      have p3 : w2.cell? ⟨w.heap.size, 3, none⟩ = some (.slice sa3 a.allow.length sc3) := by simp [World.cell?, e1]
      have q3 : w2.cell? ⟨w.heap.size + 1, 3, none⟩ = some (.slice ta3 b.allow.length tc3) := by simp [World.cell?, e2]
      have p4 : w2.cell? ⟨w.heap.size, 4, none⟩ = some (.slice sa4 a.hide.length sc4) := by simp [World.cell?, e1]
      have q4 : w2.cell? ⟨w.heap.size + 1, 4, none⟩ = some (.slice ta4 b.hide.length tc4) := by simp [World.cell?, e2]
      go_wp2_with fail
      go_ret
      exact ⟨rfl, hB2⟩
  · have HF : Hid (decide (a = b) = false) := Lib.hid (decide_eq_false fun h => c0 (by rw [h]))
    rw [HF.out]
    clear HF hlt
    have C0 : Hid (decide (a.defs = b.defs) = false) := Lib.hid (decide_eq_false c0)
    clear c0
    go_enter Try.func19, Try.ntmps19
    have hB0 : ∀ x y : Obj, Below w.heap.size w ((w.alloc x).alloc y) := fun x y => ((Below.refl _ w).alloc (Nat.le_refl _) _).alloc (by simp) _
    go_wp2_with fail
    refine (eqFuncDf_any _ _ _ _ _ (by omega) (hs0.keep (Keep.of_below _ _ (hB0 _ _))) (ht0.keep (Keep.of_below _ _ (hB0 _ _)))).mono ?_
    rw [C0.out]
    rintro e w1 ⟨rfl, hb0⟩
    have e1 := box_one hb0
    have e2 := box_two hb0
    have hB1 : Below w.heap.size w w1 := (hB0 _ _).trans (hb0.mono (by simp; omega))
    have p0 : w1.cell? ⟨w.heap.size, 0, none⟩ = some (.slice sa0 a.defs.length sc0) := by simp [World.cell?, e1]
    have q0 : w1.cell? ⟨w.heap.size + 1, 0, none⟩ = some (.slice ta0 b.defs.length tc0) := by simp [World.cell?, e2]
    have p1 : w1.cell? ⟨w.heap.size, 1, none⟩ = some (.slice sa1 a.comps.length sc1) := by simp [World.cell?, e1]
    have q1 : w1.cell? ⟨w.heap.size + 1, 1, none⟩ = some (.slice ta1 b.comps.length tc1) := by simp [World.cell?, e2]
    have p2 : w1.cell? ⟨w.heap.size, 2, none⟩ = some (.slice sa2 a.meets.length sc2) := by simp [World.cell?, e1]
    have q2 : w1.cell? ⟨w.heap.size + 1, 2, none⟩ = some (.slice ta2 b.meets.length tc2) := by simp [World.cell?, e2]
    have p3 : w1.cell? ⟨w.heap.size, 3, none⟩ = some (.slice sa3 a.allow.length sc3) := by simp [World.cell?, e1]
    have q3 : w1.cell? ⟨w.heap.size + 1, 3, none⟩ = some (.slice ta3 b.allow.length tc3) := by simp [World.cell?, e2]
    have p4 : w1.cell? ⟨w.heap.size, 4, none⟩ = some (.slice sa4 a.hide.length sc4) := by simp [World.cell?, e1]
    have q4 : w1.cell? ⟨w.heap.size + 1, 4, none⟩ = some (.slice ta4 b.hide.length tc4) := by simp [World.cell?, e2]
    go_wp2_with fail
    go_ret
    exact ⟨rfl, hB1⟩
end Go.Proofs.Ytdlldgenkmngiaa
