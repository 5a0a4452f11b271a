/- Contracts: words of a regular expression, by the program: the ends of an expression. -/
import Derived.Test.YtcakmchefbohoaaGreatDoorProg
import Derived.Test.YtcakmchefbohoaaGreatDoorMem
import Derived.Test.YtcakmchefbohoaaGreatDoorMath
import Derived.Test.YtcakmchefbohoaaGreatDoorBasics
import Derived.Test.YtcakmchefbohoaaGreatDoorOpenI
import Derived.Test.YtcakmchefbohoaaGreatDoorHelpI
import Derived.Test.YtcakmchefbohoaaGreatDoorGrid
import Derived.Test.YtcakmchefbohoaaGreatDoorLab
import Derived.Test.YtcakmchefbohoaaGreatDoorEnv
import Derived.Test.YtcakmchefbohoaaGreatDoorRLab
import Derived.Test.YtcakmchefbohoaaGreatDoorDec
import Derived.Test.YtcakmchefbohoaaGreatDoorReg
import Derived.Test.YtcakmchefbohoaaGreatDoorVReg
import Derived.Test.YtcakmchefbohoaaGreatDoorTreeR
import Derived.Test.YtcakmchefbohoaaGreatDoorConc
import Derived.Test.YtcakmchefbohoaaGreatDoorEmp
import Derived.Test.YtcakmchefbohoaaGreatDoorPart
import Derived.Test.YtcakmchefbohoaaGreatDoorSel
import Derived.Test.YtcakmchefbohoaaGreatDoorMwP
import Derived.Test.YtcakmchefbohoaaGreatDoorMwS
import Derived.Test.YtcakmchefbohoaaGreatDoorRgs
import Derived.Test.YtcakmchefbohoaaGreatDoorShelf2
import Derived.Test.YtcakmchefbohoaaGreatDoorMwI
import Derived.Test.YtcakmchefbohoaaGreatDoorMwX
import Derived.WalkKit
import Derived.BigQuiet
import Derived.BigRegion
import Derived.Deep.QuietTactic
import Derived.Deep.RegionHeld3
import Derived.Deep.RegionLaw
import Derived.Deep.AppendLies
import Derived.Maps.AppendAt
import Derived.Laws.OwnMore
import Derived.Lib.SliceRun
import Derived.Lib.Hide
import Derived.Outline
set_option linter.unusedVariables false
set_option linter.unusedSimpArgs false
namespace Go.Proofs.YtcakmchefbohoaaGreatDoor
open Go.RowKit

theorem FAtRg.leaf {w : World} {K : Nat → Prop} {x : Rg} {k : FRg} {b : Nat} (h : FAtRg w K (.cons x k .nil) [.pointer (some ⟨b, 0, none⟩)]) :
    K b ∧ b < w.heap.size ∧ w.cell? ⟨b, 0, none⟩ = some (.int .i64 x.kind) ∧ w.cell? ⟨b, 1, none⟩ = some (.string x.lab) ∧ w.cell? ⟨b, 2, none⟩ = some (.bool x.neg) := by
  obtain ⟨b', qs, v, ps', e, h1, h2, h3, _⟩ := h
  cases e
  exact ⟨h1, h2, h3 0 (by decide), h3 1 (by decide), h3 2 (by decide)⟩
theorem FAtRg.kids2 {w : World} {K : Nat → Prop} {x y1 y2 : Rg} {k1 k2 : FRg} {b : Nat} (h : FAtRg w K (.cons x (.cons y1 k1 (.cons y2 k2 .nil)) .nil) [.pointer (some ⟨b, 0, none⟩)]) :
    ∃ b2 o2 cap p1 p2, w.cell? ⟨b, 3, none⟩ = some (.slice (some ⟨b2, o2, none⟩) 2 cap) ∧ 2 ≤ cap ∧ K b2 ∧ b2 < w.heap.size ∧ w.cell? ⟨b2, o2, none⟩ = some (.pointer (some ⟨p1, 0, none⟩)) ∧ w.cell? ⟨b2, o2 + 1, none⟩ = some (.pointer (some ⟨p2, 0, none⟩)) ∧
      FAtRg w K (.cons y1 k1 .nil) [.pointer (some ⟨p1, 0, none⟩)] ∧ FAtRg w K (.cons y2 k2 .nil) [.pointer (some ⟨p2, 0, none⟩)] := by
  obtain ⟨b', qs, v, ps', e, h1, h2, h3, h4, ⟨a, cap, rfl, h5, h6, h7⟩, h8, h9⟩ := h
  cases e
  obtain ⟨q1, qs1, rfl⟩ := h8.cons_ps
  obtain ⟨f1, f2, p1, rfl⟩ := h8.head
  obtain ⟨q2, qs2, rfl⟩ := f2.cons_ps
  obtain ⟨f3, f4, p2, rfl⟩ := f2.head
  obtain rfl : qs2 = [] := f4
  obtain ⟨b2, o2, rfl, g1, g2, g3⟩ := h7 (by simp)
  exact ⟨b2, o2, cap, p1, p2, h4, h5, g1, g2, g3 0 (by simp), g3 1 (by simp), f1, f3⟩
theorem FAtRg.kids1 {w : World} {K : Nat → Prop} {x y1 : Rg} {k1 : FRg} {b : Nat} (h : FAtRg w K (.cons x (.cons y1 k1 .nil) .nil) [.pointer (some ⟨b, 0, none⟩)]) :
    ∃ b2 o2 cap p1, w.cell? ⟨b, 3, none⟩ = some (.slice (some ⟨b2, o2, none⟩) 1 cap) ∧ 1 ≤ cap ∧ K b2 ∧ b2 < w.heap.size ∧ w.cell? ⟨b2, o2, none⟩ = some (.pointer (some ⟨p1, 0, none⟩)) ∧ FAtRg w K (.cons y1 k1 .nil) [.pointer (some ⟨p1, 0, none⟩)] := by
  obtain ⟨b', qs, v, ps', e, h1, h2, h3, h4, ⟨a, cap, rfl, h5, h6, h7⟩, h8, h9⟩ := h
  cases e
  obtain ⟨q1, qs1, rfl⟩ := h8.cons_ps
  obtain ⟨f1, f2, p1, rfl⟩ := h8.head
  obtain rfl : qs1 = [] := f2
  obtain ⟨b2, o2, rfl, g1, g2, g3⟩ := h7 (by simp)
  exact ⟨b2, o2, cap, p1, h4, h5, g1, g2, g3 0 (by simp), f1⟩
theorem upM {W W' : World} {b1 o1 b2 o2 b3 o3 : Nat} {v1 v2 v3 : Value} (h : W.cell? ⟨b1, o1, none⟩ = some v1 ∧ W.cell? ⟨b2, o2, none⟩ = some v2 ∧ W.cell? ⟨b3, o3, none⟩ = some v3) (hb : Below W.heap.size W W') : W'.cell? ⟨b1, o1, none⟩ = some v1 ∧ W'.cell? ⟨b2, o2, none⟩ = some v2 ∧ W'.cell? ⟨b3, o3, none⟩ = some v3 :=
  ⟨cell_up h.1 hb, cell_up h.2.1 hb, cell_up h.2.2 hb⟩
structure LabsOk (L : List ByteArray) : Prop where
  len : L.length ≤ 64
  lab : ∀ i, i < L.length → (snth L i).size ≤ 1048576
def Ends1 (L : List ByteArray) (x : Rg) (k : FRg) : Prop := ∀ (b bn bl : Nat) (vf vl : Value) (S : List Bool) (K : Nat → Prop) (w : World),
  FAtRg w K (.cons x k .nil) [.pointer (some ⟨b, 0, none⟩)] → S.length = L.length + 1 → RdI w vf (asc S) → Capt w bn bl vl L → Env w →
  Calls Tryz.prog 50 #[.pointer (some ⟨b, 0, none⟩), vf, (.func (.func 51) #[] #[.pointer (some ⟨bn, 0, none⟩), .pointer (some ⟨bl, 0, none⟩)])] w fun e w' => ∃ u, e = .returned u ∧ OwI w' w.heap.size u (asc (opX L x (FRg.fold (opX L) k) S)) ∧ Below w.heap.size w w'
theorem asc_le (S : List Bool) : (asc S).length ≤ S.length := by rw [asc_len]; exact List.count_le_length
/-- A set of places, sorted again. -/
theorem sorted_again (v : Value) (U : List Bool) (w : World) (hn : U.length ≤ 1048576) (hv : RdI w v (asc U)) :
    Calls Tryz.prog 87 #[v] w fun e w' => ∃ u, e = .returned u ∧ OwI w' w.heap.size u (asc U) ∧ Below w.heap.size w w' := by
  have h := sortedSet_any v (asc U) U.length w asc_bd (by have := asc_le U; omega) hv
  rw [setB_asc] at h
  exact h
theorem sorted_two (v : Value) (U V : List Bool) (w : World) (hl : V.length = U.length) (hn : U.length ≤ 524288) (hv : RdI w v (asc U ++ asc V)) :
    Calls Tryz.prog 87 #[v] w fun e w' => ∃ u, e = .returned u ∧ OwI w' w.heap.size u (asc (orB U V)) ∧ Below w.heap.size w w' := by
  have h := sortedSet_any v (asc U ++ asc V) U.length w (fun z hz => by
    rcases List.mem_append.1 hz with h | h
    · exact asc_bd z h
    · have := asc_bd z h; omega) (by have := asc_le U; have := asc_le V; rw [List.length_append]; omega) hv
  rw [setB_append] at h
  exact h
theorem rd_vals {w : World} {v : Value} {l : List Int} (h : RdI w v l) : Rd w 1 v (l.map (Value.int .i64)).length (vnth (l.map (Value.int .i64))) := by
  obtain ⟨a, cap, rfl, h1, h2, h3⟩ := h
  refine ⟨a, cap, by rw [List.length_map], by rw [List.length_map]; exact h1, h2, fun h0 => ?_⟩
  rw [List.length_map] at h0
  obtain ⟨b, o, rfl, hb, hc⟩ := h3 h0
  refine ⟨b, o, rfl, hb, fun i hi => ?_⟩
  rw [List.length_map] at hi
  have hi2 : i < l.length := by omega
  rw [hc i (by omega)]
  unfold vnth ic
  rw [List.getD_eq_getElem?_getD, List.getElem?_map, nth_get? l i hi2]; rfl
def twov (a b : Value) (i : Nat) : Value := if i = 0 then a else b
theorem concatI2 {W : World} {T n2 : Nat} {v1 v2 : Value} {l1 l2 : List Int} (hn : n2 = W.heap.size) (h1 : RdI W v1 l1) (h2 : RdI W v2 l2) (hl : l1.length + l2.length ≤ 1000000) :
    Calls Tryz.prog 85 #[.slice (some ⟨n2, 0, none⟩) 2 2] (W.alloc (.cells #[v1, v2] T)) fun e w' => ∃ u, e = .returned u ∧ OwI w' W.heap.size u (l1 ++ l2) ∧ Below W.heap.size W w' := by
  subst hn
  have hba := alc W (.cells #[v1, v2] T)
  have hfl : [l1.map (Value.int .i64), l2.map (Value.int .i64)].flatten = (l1 ++ l2).map (Value.int .i64) := by simp
  refine (concatI_any _ (twov v1 v2) [l1.map (Value.int .i64), l2.map (Value.int .i64)] _ (by rw [hfl, List.length_map, List.length_append]; omega) (by simp) (fun l hl u hu => ?_) (Ow.rd (rd_alloc W #[v1, v2] T 2 (twov v1 v2) rfl (by unfold maxLen; decide) fun i hi => ?_)) fun k hk => ?_).mono ?_
  · simp at hl
    rcases hl with rfl | rfl <;> (obtain ⟨z, _, rfl⟩ := List.mem_map.1 hu; rfl)
  · match i, hi with
    | 0, _ => rfl
    | 1, _ => rfl
  · match k, hk with
    | 0, _ => exact rd_vals (h1.below hba)
    | 1, _ => exact rd_vals (h2.below hba)
  · rintro e w' ⟨u, rfl, ho, hb⟩
    rw [hfl, List.length_map] at ho
    exact ⟨u, rfl, (ownsRow_owI ho).mono' hba.size, below_trans' hba hb⟩
set_option maxRecDepth 100000 in
set_option maxHeartbeats 1600000 in
theorem ends_test (L : List ByteArray) (x : Rg) (k : FRg) (hk0 : x.kind = 0) (hx : x.lab.size ≤ 1048576) (HL : LabsOk L) : Ends1 L x k := by
  intro b bn bl vf vl S K w hF hS hv hC hT
  have HF := Lib.hid hF
  have HV := Lib.hid hv
  have HC := Lib.hid hC
  have HT := Lib.hid hT
  obtain ⟨hKb, hbl, g0, g1, g2⟩ := hF.leaf
  rw [hk0] at g0
  have hS65 : S.length ≤ 65 := by have := HL.len; omega
  have HR : Hid (asc (opX L x (FRg.fold (opX L) k) S) = asc (setB S.length (tstL L x (asc S)))) := Lib.hid (by rw [opX_test hk0, tst_plain hS])
  rw [HR.out]
  have HB : Hid (∀ z ∈ tstL L x (asc S), 0 ≤ z ∧ z < S.length) := Lib.hid (tst_bd hS)
  have htl : (tstL L x (asc S)).length ≤ 1048576 := by
    have h1 : (tstL L x (asc S)).length ≤ (asc S).length := by
      unfold tstL
      generalize asc S = l
      induction l with
      | nil => simp
      | cons z l ih =>
        rw [List.flatMap_cons, List.length_append, List.length_cons]
        have : (tstF L x z).length ≤ 1 := by unfold tstF; split <;> simp
        omega
    have := asc_le S
    omega
  have hal : (asc S).length ≤ 1048576 := by have := asc_le S; omega
  have HAB : Hid (∀ z ∈ asc S, 0 ≤ z ∧ z ≤ 1048576) := Lib.hid (fun z hz => by have := asc_bd z hz; omega)
  clear hF hv hC hT hk0
  go_enter Tryz.func50, Tryz.ntmps50
  go_wp2_with fail
  have hbD := drw w
  have d1 := cell_up g1 hbD
  have d2 := cell_up g2 hbD
  go_region_held3 (fun W => W.cell? ⟨b, 1, none⟩ = some (.string x.lab) ∧ W.cell? ⟨b, 2, none⟩ = some (.bool x.neg)) ((first | exact hS2 | exact ⟨d1, d2⟩)) ((first | (go_at_call 51; refine (word1_any x L (asc S) vf vl bn bl _ hx (by have := HL.len; omega) HL.lab hal HAB.out (HT.out.below hbD) (HV.out.below hbD) (HC.out.below hbD)).mono ?_; rintro e w1 ⟨u1, rfl, hO1, hb1⟩; have hS2 : w1.cell? ⟨b, 1, none⟩ = some (.string x.lab) ∧ w1.cell? ⟨b, 2, none⟩ = some (.bool x.neg) := ⟨cell_up d1 hb1, cell_up d2 hb1⟩) | fail))
  have hbl1 := below_trans' hbD hb1
  have HO1 := Lib.hid hO1
  obtain ⟨a1, c1, rfl⟩ := hO1.rd.slice
  clear hO1 hS2 d1 d2
  go_wp2_with fail
  refine (sortedSet_any _ (tstL L x (asc S)) S.length _ HB.out htl HO1.out.rd).mono ?_
  rintro e w2 ⟨u2, rfl, hO2, hb2⟩
  have HO2 : Hid (OwI w2 w.heap.size u2 (asc (setB S.length (tstL L x (asc S))))) := Lib.hid (hO2.mono' hbl1.size)
  clear hO2
  go_wp2_with fail
  go_ret
  exact ⟨_, rfl, HO2.out, below_trans' hbl1 hb2⟩
set_option maxRecDepth 100000 in
set_option maxHeartbeats 1600000 in
theorem ends_then (L : List ByteArray) (x y1 y2 : Rg) (k1 k2 : FRg) (hk0 : x.kind = 1) (HL : LabsOk L) (h1 : Ends1 L y1 k1) (h2 : Ends1 L y2 k2) : Ends1 L x (.cons y1 k1 (.cons y2 k2 .nil)) := by
  intro b bn bl vf vl S K w hF hS hv hC hT
  have HF := Lib.hid hF
  have HV := Lib.hid hv
  have HC := Lib.hid hC
  have HT := Lib.hid hT
  obtain ⟨hKb, hbl, g0, g1, g2⟩ := hF.leaf
  rw [hk0] at g0
  have hS65 : S.length ≤ 65 := by have := HL.len; omega
  obtain ⟨b2, o2, cp, p1, p2, q3, hcp, hK2, hb2, r1, r2, F1, F2⟩ := HF.out.kids2
  have HF1 := Lib.hid F1
  have HF2 := Lib.hid F2
  have H1 := Lib.hid h1
  have H2 := Lib.hid h2
  obtain ⟨T1, hT1⟩ : ∃ T, T = opX L y1 (FRg.fold (opX L) k1) S := ⟨_, rfl⟩
  have hT1l : T1.length = S.length := by rw [hT1]; exact opX_len L (.cons y1 k1 .nil) 0 S
  obtain ⟨T2, hT2⟩ : ∃ T, T = opX L y2 (FRg.fold (opX L) k2) T1 := ⟨_, rfl⟩
  have hT2l : T2.length = T1.length := by rw [hT2]; exact opX_len L (.cons y2 k2 .nil) 0 T1
  have HR : Hid (asc (opX L x (FRg.fold (opX L) (.cons y1 k1 (.cons y2 k2 .nil))) S) = asc T2) := Lib.hid (by rw [opX_then hk0, hT2, hT1]; rfl)
  rw [HR.out]
  have HT1 := Lib.hid hT1
  have HT2 := Lib.hid hT2
  clear hF hv hC hT hk0 hT1 hT2 h1 h2 F1 F2
  go_enter Tryz.func50, Tryz.ntmps50
  go_wp2_with fail
  have hbD := drw w
  have e0 : w.drew.cell? ⟨b, 3, none⟩ = some (.slice (some ⟨b2, o2, none⟩) 2 cp) ∧ w.drew.cell? ⟨b2, o2, none⟩ = some (.pointer (some ⟨p1, 0, none⟩)) ∧ w.drew.cell? ⟨b2, o2 + 1, none⟩ = some (.pointer (some ⟨p2, 0, none⟩)) := ⟨cell_up q3 hbD, cell_up r1 hbD, cell_up r2 hbD⟩
  go_region_held3 (fun W => W.cell? ⟨b, 3, none⟩ = some (.slice (some ⟨b2, o2, none⟩) 2 cp) ∧ W.cell? ⟨b2, o2, none⟩ = some (.pointer (some ⟨p1, 0, none⟩)) ∧ W.cell? ⟨b2, o2 + 1, none⟩ = some (.pointer (some ⟨p2, 0, none⟩))) ((first | with_reducible exact e2 | with_reducible exact e1 | with_reducible exact e0)) ((first | (go_at_call 50; refine (H2.out p2 bn bl _ vl T1 K _ (HF2.out.below hbl1) (by omega) hO1.rd (HC.out.below hbl1) (HT.out.below hbl1)).mono ?_; rw [← HT2.out]; rintro e w2 ⟨u2, rfl, hO2, hb2w⟩; have hbl2 := below_trans' hbl1 hb2w; have e2 := upM e1 hb2w) | (go_at_call 50; refine (H1.out p1 bn bl _ vl S K _ (HF1.out.below hbD) hS (HV.out.below hbD) (HC.out.below hbD) (HT.out.below hbD)).mono ?_; rw [← HT1.out]; rintro e w1 ⟨u1, rfl, hO1, hb1⟩; have hbl1 := below_trans' hbD hb1; have e1 := upM e0 hb1) | fail))
  have HO2 := Lib.hid hO2
  obtain ⟨a2, c2, rfl⟩ := hO2.rd.slice
  clear hO1 hO2 e0 e1 e2
  go_wp2_with fail
  refine (sorted_again _ T2 _ (by omega) HO2.out.rd).mono ?_
  rintro e w3 ⟨u3, rfl, hO3, hb3⟩
  have HO3 : Hid (OwI w3 w.heap.size u3 (asc T2)) := Lib.hid (hO3.mono' hbl2.size)
  clear hO3
  go_wp2_with fail
  go_ret
  exact ⟨_, rfl, HO3.out, below_trans' hbl2 hb3⟩
set_option maxRecDepth 100000 in
set_option maxHeartbeats 1600000 in
theorem ends_either (L : List ByteArray) (x y1 y2 : Rg) (k1 k2 : FRg) (hk0 : x.kind = 2) (HL : LabsOk L) (h1 : Ends1 L y1 k1) (h2 : Ends1 L y2 k2) : Ends1 L x (.cons y1 k1 (.cons y2 k2 .nil)) := by
  intro b bn bl vf vl S K w hF hS hv hC hT
  have HF := Lib.hid hF
  have HV := Lib.hid hv
  have HC := Lib.hid hC
  have HT := Lib.hid hT
  obtain ⟨hKb, hbl, g0, g1, g2⟩ := hF.leaf
  rw [hk0] at g0
  have hS65 : S.length ≤ 65 := by have := HL.len; omega
  obtain ⟨b2, o2, cp, p1, p2, q3, hcp, hK2, hb2, r1, r2, F1, F2⟩ := HF.out.kids2
  have HF1 := Lib.hid F1
  have HF2 := Lib.hid F2
  have H1 := Lib.hid h1
  have H2 := Lib.hid h2
  obtain ⟨T1, hT1⟩ : ∃ T, T = opX L y1 (FRg.fold (opX L) k1) S := ⟨_, rfl⟩
  have hT1l : T1.length = S.length := by rw [hT1]; exact opX_len L (.cons y1 k1 .nil) 0 S
  obtain ⟨T2, hT2⟩ : ∃ T, T = opX L y2 (FRg.fold (opX L) k2) S := ⟨_, rfl⟩
  have hT2l : T2.length = T1.length := by rw [hT1l, hT2]; exact opX_len L (.cons y2 k2 .nil) 0 S
  have HR : Hid (asc (opX L x (FRg.fold (opX L) (.cons y1 k1 (.cons y2 k2 .nil))) S) = asc (orB T1 T2)) := Lib.hid (by rw [opX_either hk0, hT2, hT1]; rfl)
  rw [HR.out]
  have HT1 := Lib.hid hT1
  have HT2 := Lib.hid hT2
  have hal1 := asc_le T1
  have hal2 := asc_le T2
  obtain ⟨Z, hZ⟩ : ∃ Z, Z = asc T1 ++ asc T2 := ⟨_, rfl⟩
  have HZ := Lib.hid hZ
  clear hZ
  clear hF hv hC hT hk0 hT1 hT2 h1 h2 F1 F2
  go_enter Tryz.func50, Tryz.ntmps50
  go_wp2_with fail
  have hbD := drw w
  have e0 : w.drew.cell? ⟨b, 3, none⟩ = some (.slice (some ⟨b2, o2, none⟩) 2 cp) ∧ w.drew.cell? ⟨b2, o2, none⟩ = some (.pointer (some ⟨p1, 0, none⟩)) ∧ w.drew.cell? ⟨b2, o2 + 1, none⟩ = some (.pointer (some ⟨p2, 0, none⟩)) := ⟨cell_up q3 hbD, cell_up r1 hbD, cell_up r2 hbD⟩
  go_region_held3 (fun W => W.cell? ⟨b, 3, none⟩ = some (.slice (some ⟨b2, o2, none⟩) 2 cp) ∧ W.cell? ⟨b2, o2, none⟩ = some (.pointer (some ⟨p1, 0, none⟩)) ∧ W.cell? ⟨b2, o2 + 1, none⟩ = some (.pointer (some ⟨p2, 0, none⟩))) ((first | with_reducible exact e3 | with_reducible exact e2 | with_reducible exact e1 | with_reducible exact e0 | with_reducible exact upM (by assumption) (alc _ _))) ((first | (go_at_call 85; refine (concatI2 (l1 := asc T1) (l2 := asc T2) (by simp) (hO1.rd.below hb2w) hO2.rd (by omega)).mono ?_; rintro e w3 ⟨u3, rfl, hO3, hb3⟩; rw [← HZ.out] at hO3; have hbl3 := below_trans' hbl2 hb3; have e3 := upM e2 hb3) | (go_at_call 50; refine (H2.out p2 bn bl _ vl S K _ (HF2.out.below hbl1) hS (HV.out.below hbl1) (HC.out.below hbl1) (HT.out.below hbl1)).mono ?_; rw [← HT2.out]; rintro e w2 ⟨u2, rfl, hO2, hb2w⟩; obtain ⟨a2, c2, rfl⟩ := hO2.rd.slice; have hbl2 := below_trans' hbl1 hb2w; have e2 := upM e1 hb2w) | (go_at_call 50; refine (H1.out p1 bn bl _ vl S K _ (HF1.out.below hbD) hS (HV.out.below hbD) (HC.out.below hbD) (HT.out.below hbD)).mono ?_; rw [← HT1.out]; rintro e w1 ⟨u1, rfl, hO1, hb1⟩; obtain ⟨a1, c1, rfl⟩ := hO1.rd.slice; have hbl1 := below_trans' hbD hb1; have e1 := upM e0 hb1) | fail))
  have HO3 := Lib.hid hO3
  obtain ⟨a3, c3, rfl⟩ := hO3.rd.slice
  clear hO1 hO2 hO3 e0 e1 e2 e3
  go_wp2_with fail
  refine (sorted_two _ T1 T2 _ hT2l (by omega) (by rw [← HZ.out]; exact HO3.out.rd)).mono ?_
  rintro e w4 ⟨u4, rfl, hO4, hb4⟩
  have HO4 : Hid (OwI w4 w.heap.size u4 (asc (orB T1 T2))) := Lib.hid (hO4.mono' hbl3.size)
  clear hO4
  go_wp2_with fail
  go_ret
  exact ⟨_, rfl, HO4.out, below_trans' hbl3 hb4⟩
end Go.Proofs.YtcakmchefbohoaaGreatDoor
