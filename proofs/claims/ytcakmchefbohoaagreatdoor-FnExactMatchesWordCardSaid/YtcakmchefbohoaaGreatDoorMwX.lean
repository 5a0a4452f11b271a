/- Contracts: words of a regular expression, by the program: a list sorted, each number once. -/
import Derived.Test.YtcakmchefbohoaaGreatDoorProg
import Derived.Test.YtcakmchefbohoaaGreatDoorMem
import Derived.Test.YtcakmchefbohoaaGreatDoorMath
import Derived.Test.YtcakmchefbohoaaGreatDoorBasics
import Derived.Test.YtcakmchefbohoaaGreatDoorOpenI
import Derived.Test.YtcakmchefbohoaaGreatDoorHelpI
import Derived.Test.YtcakmchefbohoaaGreatDoorGrid
import Derived.Test.YtcakmchefbohoaaGreatDoorLab
import Derived.Test.YtcakmchefbohoaaGreatDoorEnv
import Derived.Test.YtcakmchefbohoaaGreatDoorRLab
import Derived.Test.YtcakmchefbohoaaGreatDoorDec
import Derived.Test.YtcakmchefbohoaaGreatDoorReg
import Derived.Test.YtcakmchefbohoaaGreatDoorVReg
import Derived.Test.YtcakmchefbohoaaGreatDoorTreeR
import Derived.Test.YtcakmchefbohoaaGreatDoorConc
import Derived.Test.YtcakmchefbohoaaGreatDoorEmp
import Derived.Test.YtcakmchefbohoaaGreatDoorPart
import Derived.Test.YtcakmchefbohoaaGreatDoorSel
import Derived.Test.YtcakmchefbohoaaGreatDoorMwP
import Derived.Test.YtcakmchefbohoaaGreatDoorMwS
import Derived.Test.YtcakmchefbohoaaGreatDoorRgs
import Derived.Test.YtcakmchefbohoaaGreatDoorShelf2
import Derived.Test.YtcakmchefbohoaaGreatDoorMwI
import Derived.WalkKit
import Derived.BigQuiet
import Derived.BigRegion
import Derived.Deep.QuietTactic
import Derived.Deep.RegionHeld3
import Derived.Deep.RegionLaw
import Derived.Deep.AppendLies
import Derived.Maps.AppendAt
import Derived.Laws.OwnMore
import Derived.Lib.SliceRun
import Derived.Sort.Row
import Derived.Sort.Grow
import Derived.Lib.Hide
import Derived.Outline
set_option linter.unusedVariables false
set_option linter.unusedSimpArgs false
namespace Go.Proofs.YtcakmchefbohoaaGreatDoor
open Go.RowKit

theorem below_grow {B : Nat} {w0 w : World} {os : Array Obj} (h : Below B w0 w) (hB : B ≤ w.heap.size) : Below B w0 (Sort.grow w os) :=
  ⟨h.os, h.tape, h.output, by rw [Sort.size_grow]; have := h.size; omega, fun k hk => (Sort.heap_grow_old w os (by omega)).trans (h.block k hk)⟩
theorem below_put {B : Nat} {w0 w : World} {g q : Nat} {d : Array Int} (h : Below B w0 w) (hg : B ≤ g) : Below B w0 (Sort.putRow (Value.int .i64) (Sort.ahead w q) g 0 d) := by
  refine ⟨h.os, h.tape, h.output, by rw [Sort.size_putRow]; exact h.size, fun k hk => ?_⟩
  show ((Sort.ahead w q).heap.modify g _)[k]? = _
  rw [Array.getElem?_modify, if_neg (by omega)]
  exact h.block k hk
theorem holds_ow {w : World} {g B n cap : Nat} {l : List Int} {d : Array Int} (hH : Sort.Holds (Value.int .i64) w g 0 d) (hB : B ≤ g) (hg : g < w.heap.size) (hd : ∀ i, i < l.length → i < d.size ∧ d[i]! = nth l i) (hl : n = l.length) (hc : n ≤ cap) (hm : cap ≤ maxLen) : OwI w B (.slice (some ⟨g, 0, none⟩) n cap) l := by
  subst hl
  refine ⟨_, cap, rfl, hc, hm, fun h0 => ⟨g, 0, rfl, hB, hg, fun i hi => ?_⟩⟩
  rw [Nat.mul_one] at hi
  obtain ⟨h1, h2⟩ := hd i hi
  obtain ⟨h3, h4⟩ := hH i h1
  exact ⟨by rw [h3, h2]; rfl, h4⟩
theorem arr_nth (l : List Int) {i : Nat} (h : i < l.length) : l.toArray[i]! = nth l i := by
  rw [getElem!_pos l.toArray i (by simpa using h), nth_eq l i h]
  simp
set_option maxRecDepth 100000 in
set_option maxHeartbeats 1600000 in
theorem sortedSet_any (v : Value) (l : List Int) (m : Nat) (w : World) (hm : ∀ z ∈ l, 0 ≤ z ∧ z < m) (hn : l.length ≤ 1048576) (hv : RdI w v l) :
    Calls Tryz.prog 87 #[v] w fun e w' => ∃ u, e = .returned u ∧ OwI w' w.heap.size u (asc (setB m l)) ∧ Below w.heap.size w w' := by
  rw [← set_plain l m hm]
  obtain ⟨a, cap, rfl, hcap, hcm, hv⟩ := hv
  by_cases h0 : l = []
  · subst h0
    have HE : Hid (Lib.compact (([] : List Int).mergeSort fun x y => decide (x ≤ y)) = []) := Lib.hid (by simp [Lib.compact, Lib.compactUpTo])
    rw [HE.out]
    cases a with
    | none =>
      go_enter Tryz.func87, Tryz.ntmps87
      go_wp2_with fail
      refine (Tryz_slices_Clone_int_nil 0 cap _).mono ?_
      rintro e w1 ⟨rfl, rfl⟩
      go_wp2_with fail
      refine (Tryz_slices_Sort_int_none none 0 _).mono ?_
      rintro e w2 ⟨rfl, rfl⟩
      go_wp2_with fail
      refine (Tryz_slices_Compact_int_empty none 0 _).mono ?_
      rintro e w3 ⟨rfl, rfl⟩
      go_wp2_with fail
      go_ret
      exact ⟨_, rfl, OwI_nil _ _, Below.refl _ _⟩
    | some ad =>
      go_enter Tryz.func87, Tryz.ntmps87
      go_wp2_with fail
      refine (Tryz_slices_Clone_int_zero ad cap _).mono ?_
      rintro e w1 ⟨u, rfl, ho, _, hb1⟩
      obtain ⟨a1, c1, rfl⟩ := owned_slice ho
      have hO : Hid (OwI w1 w.heap.size (.slice a1 0 c1) []) := Lib.hid (ownsRow_owI (zs := []) ho)
      go_wp2_with fail
      refine (Tryz_slices_Sort_int_none a1 c1 _).mono ?_
      rintro e w2 ⟨rfl, rfl⟩
      go_wp2_with fail
      refine (Tryz_slices_Compact_int_empty a1 c1 _).mono ?_
      rintro e w3 ⟨rfl, rfl⟩
      go_wp2_with fail
      go_ret
      exact ⟨_, rfl, hO.out, hb1⟩
  · have hp : 0 < l.length := List.length_pos_iff.2 h0
    obtain ⟨b, o, rfl, hb, hc⟩ := hv hp
    obtain ⟨srt, hs⟩ : ∃ s, s = l.mergeSort fun x y => decide (x ≤ y) := ⟨_, rfl⟩
    have hsl : srt.length = l.length := by rw [hs, List.length_mergeSort]
    rw [← hs]
    have Hs := Lib.hid hs
    have hcl : ∀ j, j < l.length → w.cell? ⟨b, o + j, none⟩ = some (.int .i64 (l.getD j 0)) := fun j hj => hc j (by omega)
    have HCl := Lib.hid hcl
    have hcle : (Lib.compact srt).length ≤ srt.length := by
      unfold Lib.compact Lib.compactUpTo
      rw [List.length_map]
      exact Nat.le_trans (List.length_filter_le _ _) (by simp)
    clear hs hc hv h0 hm hcl
    go_enter Tryz.func87, Tryz.ntmps87
    go_wp2_with fail
    refine (Tryz_slices_Clone_int b o l.length cap l _ (Nat.le_refl _) (by omega) HCl.out).mono ?_
    rintro e w1 ⟨u, rfl, ho, _, hb1⟩
    rw [List.take_length] at ho
    obtain ⟨a1, c1, rfl⟩ := owned_slice ho
    obtain ⟨g, rfl, hg, hcg⟩ := owned_pos ho hp
    have hgl := (ho.lt g rfl).2
    have hcm1 : c1 ≤ maxLen := by
      rcases ho.2 with ⟨h, _⟩ | ⟨g', c', cu, e', _, _, _, hm', _⟩
      · cases h
      · cases e'; exact hm'
    have hH1 : Sort.Holds (Value.int .i64) w1 g 0 l.toArray := fun j hj => by
      have hj2 : j < l.length := by simpa using hj
      refine ⟨?_, ho.frozenAt _⟩
      rw [Nat.zero_add, ho.cellAt j (by omega), arr_nth l hj2, List.getElem?_map, nth_get? l j hj2]; rfl
    have HH1 := Lib.hid hH1
    clear ho hH1
    go_wp2_with fail
    refine (Tryz_slices_Sort_int g 0 c1 l _ HH1.out hgl (by omega)).mono ?_
    rintro e w2 ⟨rfl, q, os, hw2⟩
    rw [← Hs.out] at hw2
    have hH2 : Sort.Holds (Value.int .i64) w2 g 0 srt.toArray := by
      rw [hw2]
      exact Sort.holds_grow _ _ _ _ _ _ (by rw [Sort.size_putRow]; exact hgl) (Sort.holds_putRow _ _ _ _ _ _ (Sort.holds_ahead _ _ _ _ _ _ HH1.out) (by simpa using hsl))
    have hb2 : Below w.heap.size w w2 := by
      rw [hw2]
      exact below_grow (below_put hb1 hg) (by rw [Sort.size_putRow]; exact hb1.size)
    have hgl2 : g < w2.heap.size := by rw [hw2, Sort.size_grow, Sort.size_putRow]; show g < w1.heap.size + _; omega
    have HH2 := Lib.hid hH2
    clear hw2 hH2 hb1
    go_wp2_with fail
    have hC := Tryz_slices_Compact_int g 0 c1 srt w2 HH2.out (by omega) (by omega)
    rw [hsl] at hC
    refine hC.mono ?_
    rintro e w3 ⟨rfl, q3, hw3⟩
    clear hC
    have hO : Hid (OwI w3 w.heap.size (.slice (some ⟨g, 0, none⟩) (Lib.compact srt).length c1) (Lib.compact srt)) := Lib.hid (by
      refine holds_ow (d := (Lib.compact srt ++ List.replicate (srt.length - (Lib.compact srt).length) 0).toArray) ?_ hg (by rw [hw3, Sort.size_putRow]; exact hgl2) (fun i hi => ⟨by simp; omega, ?_⟩) rfl (by omega) hcm1
      · rw [hw3, ← hsl]
        exact Sort.holds_putRow _ _ _ _ _ _ (Sort.holds_ahead _ _ _ _ _ _ HH2.out) (by simp; omega)
      · rw [arr_nth _ (by simp; omega)]
        unfold nth
        rw [List.getD_eq_getElem?_getD, List.getD_eq_getElem?_getD, List.getElem?_append_left hi])
    have hb3 : Below w.heap.size w w3 := by
      rw [hw3]
      exact below_put hb2 hg
    clear hw3 hb2 HH1 HH2
    go_wp2_with fail
    go_ret
    exact ⟨_, rfl, hO.out, hb3⟩
end Go.Proofs.YtcakmchefbohoaaGreatDoor
