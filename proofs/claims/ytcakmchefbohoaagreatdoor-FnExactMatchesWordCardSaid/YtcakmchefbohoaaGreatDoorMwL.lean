/- Lists of labels, in the laws: sizes, copies, comparisons. -/
import Derived.Test.YtcakmchefbohoaaGreatDoorProg
import Derived.Test.YtcakmchefbohoaaGreatDoorMem
import Derived.Test.YtcakmchefbohoaaGreatDoorMath
import Derived.Test.YtcakmchefbohoaaGreatDoorBasics
import Derived.Test.YtcakmchefbohoaaGreatDoorOpenI
import Derived.Test.YtcakmchefbohoaaGreatDoorOpenG
import Derived.Test.YtcakmchefbohoaaGreatDoorHelpI
import Derived.Test.YtcakmchefbohoaaGreatDoorGrid
import Derived.Test.YtcakmchefbohoaaGreatDoorLab
import Derived.Test.YtcakmchefbohoaaGreatDoorDec
import Derived.WalkKit
import Derived.BigQuiet
import Derived.BigRegion
import Derived.Deep.QuietTactic
import Derived.Laws.OwnMore
import Derived.Lib.Hide
import Derived.Outline
set_option linter.unusedVariables false
set_option linter.unusedSimpArgs false
namespace Go.Proofs.YtcakmchefbohoaaGreatDoor
open Go.RowKit

def sumTo (g : Nat → Nat) : Nat → Nat
  | 0 => 0
  | i + 1 => sumTo g i + g i
theorem sumTo_mono (g : Nat → Nat) {i j : Nat} (h : i ≤ j) : sumTo g i ≤ sumTo g j := by
  induction j with
  | zero => rw [show i = 0 by omega]; exact Nat.le_refl _
  | succ j ih =>
    by_cases e : i = j + 1
    · rw [e]; exact Nat.le_refl _
    · have := ih (by omega)
      rw [sumTo]; omega
theorem sumTo_le (g : Nat → Nat) {i n : Nat} (h : i < n) : g i ≤ sumTo g n := by
  have := sumTo_mono g (show i + 1 ≤ n by omega)
  rw [sumTo] at this; omega
def totSt (ss : List ByteArray) : Nat := ss.length + sumTo (fun i => (snth ss i).size) ss.length
def szSt (ss : List ByteArray) (l : Int) : Int := if (totSt ss : Int) ≤ l then l - (totSt ss : Int) else -1
theorem lab_leSt (ss : List ByteArray) (i : Nat) (hi : i < ss.length) : (snth ss i).size ≤ totSt ss := by
  have h : (snth ss i).size ≤ sumTo (fun i => (snth ss i).size) ss.length := sumTo_le (fun i => (snth ss i).size) hi
  unfold totSt
  omega
theorem RdS.cellsL {w : World} {n cap : Nat} {a : Option Addr} {ss : List ByteArray} (h : RdS w (.slice a n cap) ss) {i : Nat} (hi : i < ss.length) :
    ∃ b o, a = some ⟨b, o, none⟩ ∧ b < w.heap.size ∧ w.cell? ⟨b, o + i, none⟩ = some (.string (snth ss i)) := by
  obtain ⟨a', cap', e, _, _, h3⟩ := h
  cases e
  obtain ⟨b, o, rfl, hb, hc⟩ := h3 (by omega)
  exact ⟨b, o, rfl, hb, hc i (by omega)⟩
set_option maxRecDepth 100000 in
set_option maxHeartbeats 800000 in
theorem szStringSR_any (v : Value) (f : List ByteArray) (l : Int) (w : World) (h0 : 0 ≤ l) (h1 : l ≤ 1048576) (hok : Small f) (hv : RdS w v f) :
    Calls Tryz.prog 21 #[v, .int .i64 l] w fun e w' => e = .returned (.int .i64 (szSt f l)) ∧ Below w.heap.size w w' := by
  have HV := Lib.hid hv
  have Hok := Lib.hid hok
  obtain ⟨a, cap, rfl, hcap, hm, _⟩ := id hv
  unfold maxLen at hm
  obtain ⟨n, hxn⟩ : ∃ n, n = f.length := ⟨_, rfl⟩
  rw [← hxn] at hcap HV ⊢
  have Hxn := Lib.hid hxn
  clear hxn hv hok
  obtain ⟨g, hg⟩ : ∃ g : Nat → Nat, g = (fun i => (snth f i).size) := ⟨_, rfl⟩
  have Hg := Lib.hid hg
  have Ht : Hid (totSt f = n + sumTo g n) := Lib.hid (by rw [Hg.out, Hxn.out]; rfl)
  clear hg
  have Hneg : Hid (¬ ((n : Int) + (sumTo g n : Int) ≤ l) → szSt f l = -1) := Lib.hid (fun h => by unfold szSt; rw [if_neg (by rw [Ht.out]; omega)])
  by_cases hs : (n : Int) ≤ l
  · have hs0 : ¬ (l - (n : Int) < 0) := by omega
    go_enter Tryz.func21, Tryz.ntmps21
    go_wp2_with fail
    go_loopw [1, 5] (fun sl si wr => ∃ k : Nat, k ≤ n ∧ si = .int .i64 k ∧ sl = .int .i64 (l - n - (sumTo g k : Int)) ∧ 0 ≤ l - n - (sumTo g k : Int) ∧ Below w.heap.size w wr) (fun _ si _ => n - (intOf si).toNat)
    case atStart => exact ⟨0, Nat.zero_le _, rfl, by simp [sumTo], by simp [sumTo]; omega, Below.refl _ _⟩
    case round =>
      obtain ⟨k, hk, rfl, rfl, hnn, hbl⟩ := hrel
      by_cases hlt : k < n
      · have hkf : k < f.length := by rw [← Hxn.out]; exact hlt
        obtain ⟨b, o, rfl, hb, g0⟩ := HV.out.cellsL hkf
        have q0 := (hbl.cell (by exact hb)).trans g0
        clear g0
        have hYs := Hok.out k hkf
        have Ho : Hid (sumTo g (k + 1) = sumTo g k + (snth f k).size) := Lib.hid (by rw [sumTo, Hg.out])
        have hmo := sumTo_mono g (show k + 1 ≤ n by omega)
        rw [Ho.out] at hmo
        obtain ⟨Y, hY⟩ : ∃ Y, Y = snth f k := ⟨_, rfl⟩
        rw [← hY] at hmo q0 Ho hYs
        obtain ⟨L, hL⟩ : ∃ L, L = sumTo g k := ⟨_, rfl⟩
        rw [← hL] at hnn Ho hmo ⊢
        unfold maxLen at hYs
        clear hY hL
        by_cases hb0 : (Y.size : Int) ≤ l - n - (L : Int)
        · have hb1 : ¬ (l - n - (L : Int) - (Y.size : Int) < 0) := by omega
          go_wp2_with fail
          go_roundw
          case rel => exact ⟨k + 1, by omega, by go_num, by rw [Ho.out]; go_num, by rw [Ho.out]; omega, hbl⟩
          case measure => simp [intOf]; omega
        · have hb1 : l - n - (L : Int) - (Y.size : Int) < 0 := by omega
          have Hs := Lib.hid (Hneg.out (by omega))
          go_wp2_with fail
          go_ret
          exact ⟨by rw [Hs.out]; rfl, hbl⟩
      · obtain rfl : k = n := by omega
        have Hs : Hid (szSt f l = l - k - (sumTo g k : Int)) := Lib.hid (by unfold szSt; rw [if_pos (by rw [Ht.out]; omega), Ht.out]; omega)
        go_wp2_with fail
        go_ret
        exact ⟨by rw [Hs.out]; rfl, hbl⟩
  · have hs0 : l - (n : Int) < 0 := by omega
    have Hs := Lib.hid (Hneg.out (by omega))
    go_enter Tryz.func21, Tryz.ntmps21
    go_wp2_with fail
    go_ret
    exact ⟨by rw [Hs.out]; rfl, Below.refl _ _⟩
theorem infoGS : (Tryz.prog.info? 9).map (fun i => (i.zero, i.size, i.bytes)) = some (some (.string ByteArray.empty), 1, 16) := by kernel_rfl
/-- A list of labels in blocks below hi. -/
def InT (w : World) (lo hi : Nat) (v : Value) (ss : List ByteArray) : Prop := ∃ a cap, v = .slice a ss.length cap ∧ ss.length ≤ cap ∧ cap ≤ maxLen ∧ (0 < ss.length → ∃ b o, a = some ⟨b, o, none⟩ ∧ b < hi ∧ b < w.heap.size ∧ ∀ i, i < ss.length * 1 → w.cell? ⟨b, o + i, none⟩ = some (sc ss i))
def OwT (w : World) (base : Nat) (v : Value) (ss : List ByteArray) : Prop := RdS w v ss
theorem OwT.inn {w : World} {base : Nat} {v : Value} {ss : List ByteArray} (h : OwT w base v ss) : InT w base w.heap.size v ss := by
  obtain ⟨a, cap, e, h1, h2, h3⟩ := h
  refine ⟨a, cap, e, h1, h2, fun h0 => ?_⟩
  obtain ⟨b, o, e2, hb, hc⟩ := h3 h0
  exact ⟨b, o, e2, hb, hb, hc⟩
theorem InT.rd {w : World} {lo hi : Nat} {v : Value} {ss : List ByteArray} (h : InT w lo hi v ss) : RdS w v ss := by
  obtain ⟨a, cap, e, h1, h2, h3⟩ := h
  refine ⟨a, cap, e, h1, h2, fun h0 => ?_⟩
  obtain ⟨b, o, e2, _, hb, hc⟩ := h3 h0
  exact ⟨b, o, e2, hb, hc⟩
theorem InT.below {w w' : World} {lo hi B : Nat} {v : Value} {ss : List ByteArray} (h : InT w lo hi v ss) (hb : Below B w w') (hB : hi ≤ B) : InT w' lo hi v ss := by
  obtain ⟨a, cap, e, h1, h2, h3⟩ := h
  refine ⟨a, cap, e, h1, h2, fun h0 => ?_⟩
  obtain ⟨b, o, e2, hh, hbs, hc⟩ := h3 h0
  exact ⟨b, o, e2, hh, Nat.lt_of_lt_of_le hbs hb.size, fun i hi => (hb.cell (p := ⟨b, o + i, none⟩) (by show b < B; omega)).trans (hc i hi)⟩
set_option maxRecDepth 100000 in
set_option maxHeartbeats 1600000 in
theorem toStringSR_any (v : Value) (f : List ByteArray) (w : World) (hn : totSt f ≤ 1048576) (hv : RdS w v f) :
    Calls Tryz.prog 23 #[v] w fun e w' => ∃ u, e = .returned u ∧ OwT w' w.heap.size u f ∧ Below w.heap.size w w' := by
  have HV := Lib.hid hv
  obtain ⟨a, cap, rfl, hcap, _, _⟩ := id hv
  obtain ⟨i0, hi, hz0, hz1, hz2⟩ := info_parts infoGS
  unfold totSt at hn
  have hln : f.length ≤ 1048576 := by omega
  have Hwt : Hid (∀ i, i < f.length → (snth f i).size ≤ 1048576) := Lib.hid (fun i hi => by
    have h : (snth f i).size ≤ _ := sumTo_le (fun i => (snth f i).size) hi
    omega)
  obtain ⟨n, hxn⟩ : ∃ n, n = f.length := ⟨_, rfl⟩
  rw [← hxn] at hcap hln HV
  have Hxn := Lib.hid hxn
  rw [← hxn]
  clear hxn hv hn
  go_enter Tryz.func23, Tryz.ntmps23
  go_wp2_with (at_make; refine wpList_make_full _ rfl _ _ 37 rfl w.heap.size 9 i0 (.string ByteArray.empty) 1 Tryz.underlying37 hi hz0 hz1 _ _ _ _ n rfl rfl rfl rfl ?b2 ?b3 (Nat.le_refl _) ?_)
  case b2 => rw [hz2]; omega
  case b3 => unfold maxLen; omega
  intro w0 hown0 hgrow0
  obtain ⟨Z, hZ⟩ : ∃ Z : List Value, Z = (madeCells #[.string ByteArray.empty] n).toList := ⟨_, rfl⟩
  rw [← hZ] at hown0
  clear hZ
  go_wp2_with fail
  go_loopw [4] (fun si wr => ∃ (k : Nat) (X : List Value), k ≤ n ∧ si = .int .i64 k ∧ Hid (wr.ownsRow w.heap.size 9 1 (.slice (some ⟨w.heap.size, 0, none⟩) n n) n X) ∧ Hid (∀ i, i < k → X[i]? = some (.string (snth f i))) ∧ Below w.heap.size w wr)
    (fun si _ => n - (intOf si).toNat)
  case atStart => exact ⟨0, Z, Nat.zero_le _, rfl, Lib.hid hown0, Lib.hid (fun i h => absurd h (by omega)), (Below.refl _ _).grown hgrow0 (Nat.le_refl _) (fun k h => by cases h)⟩
  case round =>
    clear hown0 hgrow0
    obtain ⟨k, X, hk, rfl, HO, HX, hbl⟩ := hrel
    by_cases hlt : k < n
    · have hkf : k < f.length := by rw [← Hxn.out]; exact hlt
      obtain ⟨b, o, rfl, hb, g0⟩ := HV.out.cellsL hkf
      have q0 := (hbl.cell (by exact hb)).trans g0
      clear g0
      obtain ⟨Y, hY⟩ : ∃ Y, Y = snth f k := ⟨_, rfl⟩
      have hwk := Hwt.out k hkf
      rw [← hY] at hwk q0
      have HY := Lib.hid hY
      clear hY
      have hXl : X.length = n * 1 := HO.out.1
      have p0 : wr.cell? ⟨w.heap.size, k, none⟩ = some (X.getD k undef) := by
        rw [HO.out.cellAt k (by omega)]
        rw [List.getD_eq_getElem?_getD, List.getElem?_eq_getElem (by omega)]; rfl
      have z0 := HO.out.frozenAt k
      have HS := Lib.hid (HO.out.stored k (.string Y)).1
      have HX2 : Hid (∀ i, i < k + 1 → (X.set k (.string Y))[i]? = some (.string (snth f i))) := Lib.hid (fun i hi => by
        rw [List.getElem?_set]
        by_cases e : k = i
        · subst e; rw [if_pos rfl, if_pos (by omega), HY.out]
        · rw [if_neg e]; exact HX.out i (by omega))
      clear HO HX
      go_wp2_with fail
      go_roundw
      case rel => exact ⟨k + 1, X.set k (.string Y), by omega, by go_num, HS, HX2, hbl.setCell (Nat.le_refl _) _⟩
      case measure => simp [intOf] <;> omega
    · obtain rfl : k = n := by omega
      have HR : Hid (RdS wr (.slice (some ⟨w.heap.size, 0, none⟩) k k) f) := Lib.hid (by
        have h := (ownsRow_ow HO.out (sc f) (fun i hi => HX.out i (by omega))).rd
        unfold RdS
        rw [← Hxn.out]
        exact h)
      go_wp2_with fail
      go_ret
      exact ⟨_, rfl, HR.out, hbl⟩
set_option maxRecDepth 100000 in
theorem eqStringSR_any (va vb : Value) (ss : List ByteArray) (w : World) (ha : RdS w va ss) (hb : RdS w vb ss) :
    Calls Tryz.prog 25 #[va, vb] w fun e w' => e = .returned (.bool true) ∧ Below w.heap.size w w' := by
  obtain ⟨a, ca, rfl, hca, hma, ha⟩ := ha
  obtain ⟨b, cb, rfl, hcb, hmb, hb⟩ := hb
  unfold maxLen at hma hmb
  obtain ⟨n, hn⟩ : ∃ n, n = ss.length := ⟨_, rfl⟩
  rw [← hn] at hca hcb ha hb ⊢
  clear hn
  go_enter Tryz.func25, Tryz.ntmps25
  go_wp2_with fail
  go_loopw [5] (fun si wr => ∃ k : Nat, k ≤ n ∧ si = .int .i64 k ∧ Below w.heap.size w wr) (fun si _ => n - (intOf si).toNat)
  case atStart => exact ⟨0, Nat.zero_le _, rfl, Below.refl _ _⟩
  case round =>
    obtain ⟨k, hk, rfl, hbl⟩ := hrel
    by_cases hlt : k < n
    · obtain ⟨b1, o1, rfl, hb1, hc1⟩ := ha (by omega)
      obtain ⟨b2, o2, rfl, hb2, hc2⟩ := hb (by omega)
      have g1 : wr.cell? ⟨b1, o1 + k, none⟩ = some (.string (snth ss k)) := (hbl.cell (by exact hb1)).trans (hc1 k (by omega))
      have g2 : wr.cell? ⟨b2, o2 + k, none⟩ = some (.string (snth ss k)) := (hbl.cell (by exact hb2)).trans (hc2 k (by omega))
      obtain ⟨x, hx⟩ : ∃ x, x = snth ss k := ⟨_, rfl⟩
      rw [← hx] at g1 g2
      clear hc1 hc2 ha hb hx
      go_wp2_with fail
      first
        | go_roundw
        | (go_quiet (fail); go_wp2_with fail; go_roundw)
      case rel => exact ⟨k + 1, by omega, by go_num, by first | exact hbl | exact hbl.trans ⟨rfl, rfl, rfl, Nat.le_refl _, fun _ _ => rfl⟩⟩
      case measure => simp [intOf]; omega
    · go_wp2_with fail
      go_ret
      exact ⟨rfl, hbl⟩
end Go.Proofs.YtcakmchefbohoaaGreatDoor
