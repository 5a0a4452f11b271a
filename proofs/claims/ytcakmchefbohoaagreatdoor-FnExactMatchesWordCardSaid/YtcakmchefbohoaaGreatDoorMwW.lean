/- Contracts: words of a regular expression, by the reference: one behind the other, one or the other. -/
import Derived.Test.YtcakmchefbohoaaGreatDoorProg
import Derived.Test.YtcakmchefbohoaaGreatDoorMem
import Derived.Test.YtcakmchefbohoaaGreatDoorMath
import Derived.Test.YtcakmchefbohoaaGreatDoorBasics
import Derived.Test.YtcakmchefbohoaaGreatDoorOpenI
import Derived.Test.YtcakmchefbohoaaGreatDoorHelpI
import Derived.Test.YtcakmchefbohoaaGreatDoorGrid
import Derived.Test.YtcakmchefbohoaaGreatDoorLab
import Derived.Test.YtcakmchefbohoaaGreatDoorEnv
import Derived.Test.YtcakmchefbohoaaGreatDoorRLab
import Derived.Test.YtcakmchefbohoaaGreatDoorDec
import Derived.Test.YtcakmchefbohoaaGreatDoorReg
import Derived.Test.YtcakmchefbohoaaGreatDoorVReg
import Derived.Test.YtcakmchefbohoaaGreatDoorTreeR
import Derived.Test.YtcakmchefbohoaaGreatDoorConc
import Derived.Test.YtcakmchefbohoaaGreatDoorEmp
import Derived.Test.YtcakmchefbohoaaGreatDoorPart
import Derived.Test.YtcakmchefbohoaaGreatDoorSel
import Derived.Test.YtcakmchefbohoaaGreatDoorMwP
import Derived.Test.YtcakmchefbohoaaGreatDoorMwS
import Derived.Test.YtcakmchefbohoaaGreatDoorRgs
import Derived.Test.YtcakmchefbohoaaGreatDoorMwQ
import Derived.Test.YtcakmchefbohoaaGreatDoorModE
import Derived.Test.YtcakmchefbohoaaGreatDoorMwV
import Derived.WalkKit
import Derived.BigQuiet
import Derived.BigRegion
import Derived.Deep.QuietTactic
import Derived.Deep.RegionHeld3
import Derived.Deep.RegionLaw
import Derived.Deep.AppendLies
import Derived.Maps.AppendAt
import Derived.Laws.OwnMore
import Derived.Lib.SliceRun
import Derived.Lib.Hide
import Derived.Outline
set_option linter.unusedVariables false
set_option linter.unusedSimpArgs false
namespace Go.Proofs.YtcakmchefbohoaaGreatDoor
open Go.RowKit

/-- A part of a row. -/
theorem RdRg.sub {w : World} {b o n cap : Nat} {f : List Rg} (h : RdRg w (.slice (some ⟨b, o, none⟩) n cap) f) (i j o2 n2 c2 : Nat) (hij : i < j) (hj : j ≤ f.length) (ho : o2 = o + i * 3) (hn2 : n2 = j - i) (hc : c2 = cap - i) :
    RdRg w (.slice (some ⟨b, o2, none⟩) n2 c2) ((f.drop i).take (j - i)) := by
  obtain ⟨a', cap', e, h1, h2, h3⟩ := h
  cases e
  have hl : ((f.drop i).take (j - i)).length = j - i := by rw [List.length_take, List.length_drop]; omega
  refine ⟨_, _, rfl.trans (by rw [hn2, hl]), ?_, ?_, fun h0 => ?_⟩
  · rw [hl]; omega
  · omega
  · obtain ⟨b', o', e, hb, hcl⟩ := h3 (by omega)
    cases e
    refine ⟨b, o2, rfl, hb, fun q hq => ?_⟩
    rw [hl] at hq
    have := hcl (q + i * 3) (by omega)
    rw [show o2 + q = o + (q + i * 3) by omega, this]
    unfold rgc
    rw [show (q + i * 3) / 3 = q / 3 + i by omega, show (q + i * 3) % 3 = q % 3 by omega]
    congr 1
    unfold rgnth
    rw [List.getD_eq_getElem?_getD, List.getD_eq_getElem?_getD, List.getElem?_take_of_lt (by omega), List.getElem?_drop, Nat.add_comm]
theorem Ow.store_other {w : World} {base sz n : Nat} {v : Value} {cs : Nat → Value} (h : Ow w base sz v n cs) {g i : Nat} (hg : g < base) (u : Value) : Ow (w.setCell ⟨g, i, none⟩ u) base sz v n cs := by
  obtain ⟨a, cap, rfl, h1, h2, h3⟩ := h
  refine ⟨a, cap, rfl, h1, h2, fun h0 => ?_⟩
  obtain ⟨b, o, rfl, hb, hbs, hc⟩ := h3 h0
  exact ⟨b, o, rfl, hb, by rw [size_setCell]; exact hbs, fun q hq => ⟨by rw [World.cell?_setCell_other _ _ _ _ (by intro e; have := congrArg Addr.block e; simp only at this; omega)]; exact (hc q hq).1, by rw [frozen_setCell]; exact (hc q hq).2⟩⟩
theorem OwB.at {w : World} {base N cap : Nat} {a : Option Addr} {T : List Bool} (h : OwB w base (.slice a N cap) T) (hl : T.length = N) {i : Nat} (hi : i < N) : ∃ b o, a = some ⟨b, o, none⟩ ∧ w.cell? ⟨b, o + i, none⟩ = some (.bool (bnth T i)) := by
  obtain ⟨a', cap', e, h1, h2, h3⟩ := h
  cases e
  obtain ⟨b, o, rfl, _, _, hc⟩ := h3 (by omega)
  exact ⟨b, o, rfl, (hc i (by omega)).1⟩
set_option maxRecDepth 100000 in
set_option maxHeartbeats 1600000 in
theorem endsS_then (L : List ByteArray) (x y1 y2 : Rg) (k1 k2 : FRg) (hk0 : x.kind = 1) (HL : LabsOkS L) (hok : FRg.ok (.cons y1 k1 (.cons y2 k2 .nil))) (hkd : ∀ i, i < (x :: (FRg.cons y1 k1 (.cons y2 k2 .nil)).flat).length → inR (rgnth (x :: (FRg.cons y1 k1 (.cons y2 k2 .nil)).flat) i).kind 0 3 = true) (hlen : (x :: (FRg.cons y1 k1 (.cons y2 k2 .nil)).flat).length ≤ 1048576) (h1 : EndsS L y1 k1) (h2 : EndsS L y2 k2) : EndsS L x (.cons y1 k1 (.cons y2 k2 .nil)) := by
  intro v vs bt S w hv hC hS hvs
  have HV := Lib.hid hv
  have HC := Lib.hid hC
  have HVS := Lib.hid hvs
  obtain ⟨i0, hi, hz0, hz1, hz2⟩ := info_parts infoBool
  obtain ⟨a, cap, rfl, hcap, hcm, hv'⟩ := id hv
  obtain ⟨b, o, rfl, hb, g0, g1, g2⟩ := RdRg.cells hv (i := 0) (by simp)
  have e0 : rgnth (x :: (FRg.cons y1 k1 (.cons y2 k2 .nil)).flat) 0 = x := rfl
  rw [e0] at g0 g1 g2
  rw [Nat.zero_mul, Nat.add_zero] at g0 g1 g2
  rw [hk0] at g0
  obtain ⟨as', cs', rfl⟩ := hvs.slice
  obtain ⟨N, hN⟩ : ∃ N, N = S.length := ⟨_, rfl⟩
  obtain ⟨n, hn⟩ : ∃ n, n = L.length := ⟨_, rfl⟩
  have hN1 : n < N := by omega
  have hN2 : N ≤ n + 1 := by omega
  have hn64 : n ≤ 64 := by have := HL.len; omega
  rw [← hN] at HVS ⊢
  have HN := Lib.hid hN
  have Hn := Lib.hid hn
  have H1 := Lib.hid h1
  have H2 := Lib.hid h2
  obtain ⟨Z, hZ⟩ : ∃ Z, Z = (x :: (FRg.cons y1 k1 (.cons y2 k2 .nil)).flat) := ⟨_, rfl⟩
  have hZ2 : Z = x :: ((y1 :: k1.flat) ++ (y2 :: k2.flat)) := by rw [hZ]; simp [FRg.flat]
  rw [← hZ] at hv HV hkd hlen hcap ⊢
  obtain ⟨q, hq⟩ : ∃ q, q = 1 + (y1 :: k1.flat).length := ⟨_, rfl⟩
  obtain ⟨m, hm⟩ : ∃ m, m = Z.length := ⟨_, rfl⟩
  have hZl : Z.length = 1 + (y1 :: k1.flat).length + (y2 :: k2.flat).length := by rw [hZ2]; simp; omega
  have hq1 : 1 < q := by rw [hq]; simp
  have hqm : q < m := by rw [hm, hZl, hq]; simp
  have HS1 : Hid (RdRg w (.slice (some ⟨b, o + 3, none⟩) (q - 1) (cap - 1)) (y1 :: k1.flat)) := Lib.hid (by
    have h := hv.sub 1 q (o + 3) (q - 1) (cap - 1) hq1 (by omega) rfl rfl rfl
    rw [hZ2] at h
    rw [hq] at h ⊢
    rw [List.drop_succ_cons, List.drop_zero, Nat.add_sub_cancel_left, List.take_left] at h
    rw [Nat.add_sub_cancel_left]
    exact h)
  have HS2 : Hid (RdRg w (.slice (some ⟨b, o + q * 3, none⟩) (m - q) (cap - q)) (y2 :: k2.flat)) := Lib.hid (by
    have h := hv.sub q m (o + q * 3) (m - q) (cap - q) hqm (by omega) rfl rfl rfl
    have e : (Z.drop q).take (m - q) = y2 :: k2.flat := by
      rw [List.take_of_length_le (by rw [List.length_drop]; omega), hZ2, hq, Nat.add_comm, List.drop_succ_cons, List.drop_left]
    rwa [e] at h)
  have HD : Hid (Z.drop 1 = FRg.flat (.cons y1 k1 .nil) ++ FRg.flat (.cons y2 k2 .nil)) := Lib.hid (by rw [hZ2]; simp [FRg.flat])
  have HM : Hid (q = 1 + (FRg.flat (.cons y1 k1 .nil)).length) := Lib.hid (by rw [hq]; simp [FRg.flat])
  have HK := Lib.hid hkd
  have HOK : Hid (FRg.ok (.cons y1 k1 .nil)) := Lib.hid ⟨hok.1, hok.2.1, trivial⟩
  rw [← hm] at hcap HV ⊢
  have HMm := Lib.hid hm
  have HLN := Lib.hid hlen
  have hqm2 : q ≤ m := by omega
  have hq2 : 1 ≤ q := by omega
  have hqc : q ≤ cap := by omega
  have hI1 : (1 : Int) ≤ (q : Int) := by omega
  have hI2 : (q : Int) ≤ (m : Int) := by omega
  have hI3 : (q : Int) ≤ (cap : Int) := by omega
  have hI4 : (m : Int) ≤ (cap : Int) := by omega
  have hI5 : (0 : Int) ≤ (q : Int) := by omega
  have hI6 : (1 : Int) < (cap : Int) := by omega
  have hqcl : q < cap := by omega
  have hcne : ¬ cap = 1 := by omega
  have hqne : ¬ cap = q := by omega
  have hqne2 : ¬ q = cap := by omega
  have hI7 : (q : Int) < (cap : Int) := by omega
  have hI8 : (0 : Int) ≤ (m : Int) := by omega
  have hI9 : (q : Int) < (m : Int) := by omega
  have hm1 : 1 ≤ m := by omega
  have hmI : (1 : Int) ≤ (m : Int) := by omega
  obtain ⟨T1, hT1⟩ : ∃ T, T = opX L y1 (FRg.fold (opX L) k1) S := ⟨_, rfl⟩
  have hT1l : T1.length = S.length := by rw [hT1]; exact opX_len L (.cons y1 k1 .nil) 0 S
  have HS' := Lib.hid hS
  obtain ⟨T2, hT2⟩ : ∃ T, T = opX L y2 (FRg.fold (opX L) k2) T1 := ⟨_, rfl⟩
  have HR : Hid (opX L x (FRg.fold (opX L) (.cons y1 k1 (.cons y2 k2 .nil))) S = T2) := Lib.hid (by rw [opX_then hk0, hT2, hT1]; rfl)
  rw [HR.out]
  have HT1 := Lib.hid hT1
  have HT2 := Lib.hid hT2
  have HT1l : Hid (T1.length = L.length + 1) := Lib.hid (by omega)
  clear hv hv' hC hvs hN hn e0 hk0 hm hkd hok hq hZ hZ2 hZl h1 h2 g1 g2 hlen hT1 hT2 hT1l hS
  go_enter Tryz.func46, Tryz.ntmps46
  go_wp2_with (at_make; refine wpList_make_full _ rfl _ _ 77 rfl w.heap.size 4 i0 (.bool false) 1 Tryz.underlying77 hi hz0 hz1 _ _ _ _ N rfl rfl rfl rfl ?b2 ?b3 (Nat.le_refl _) ?_)
  case b2 => first | omega | (rw [hz2]; omega)
  case b3 => unfold maxLen; omega
  intro w0 hown0 hgrow0
  rw [toList_madeCells_one] at hown0
  have hb0 : Below w.heap.size w w0 := (Below.refl _ _).grown hgrow0 (Nat.le_refl _) (fun k h => by cases h)
  have HO0 := Lib.hid (made_bool hown0)
  have p0 := cell_upS g0 hb0
  clear hown0 hgrow0
  go_wp2_with fail
  refine (l20End_any _ Z 1 (.cons y1 k1 .nil) (FRg.flat (.cons y2 k2 .nil)) _ HLN.out HK.out HOK.out rfl (by have := HMm.out; omega) HD.out (by have := HV.out.below hb0; exact this)).mono ?_
  rintro e w' ⟨rfl, rfl⟩
  rw [← HM.out]
  go_wp2_with fail
  have hbD := drwS w0
  have hbl0 := below_trans' hb0 hbD
  go_region_held3 (fun W => Below w.heap.size w W) ((first | with_reducible exact hbl2 | with_reducible exact hbl1 | with_reducible exact hbl0)) ((first | (go_at_call 46; refine (H2.out _ _ bt T1 _ (HS2.out.below hbl1) (HC.out.below hbl1) HT1l.out hO1.rd).mono ?_; rw [← HT2.out]; rintro e w2 ⟨u2, rfl, hO2, hb2⟩; have hbl2 := below_trans' hbl1 hb2) | (go_at_call 46; refine (H1.out _ _ bt S _ (HS1.out.below hbl0) (HC.out.below hbl0) HS'.out (by have := HVS.out.below hbl0; exact this)).mono ?_; rw [← HT1.out]; rintro e w1 ⟨u1, rfl, hO1, hb1⟩; have hbl1 := below_trans' hbl0 hb1) | fail))
  have HO2 : Hid (OwB w2 w.heap.size u2 T2) := Lib.hid (hO2.mono' hbl1.size)
  clear hO1 hO2
  go_wp2_with fail
  go_ret
  exact ⟨_, rfl, HO2.out, hbl2⟩
set_option maxRecDepth 100000 in
set_option maxHeartbeats 1600000 in
theorem endsS_either (L : List ByteArray) (x y1 y2 : Rg) (k1 k2 : FRg) (hk0 : x.kind = 2) (HL : LabsOkS L) (hok : FRg.ok (.cons y1 k1 (.cons y2 k2 .nil))) (hkd : ∀ i, i < (x :: (FRg.cons y1 k1 (.cons y2 k2 .nil)).flat).length → inR (rgnth (x :: (FRg.cons y1 k1 (.cons y2 k2 .nil)).flat) i).kind 0 3 = true) (hlen : (x :: (FRg.cons y1 k1 (.cons y2 k2 .nil)).flat).length ≤ 1048576) (h1 : EndsS L y1 k1) (h2 : EndsS L y2 k2) : EndsS L x (.cons y1 k1 (.cons y2 k2 .nil)) := by
  intro v vs bt S w hv hC hS hvs
  have HV := Lib.hid hv
  have HC := Lib.hid hC
  have HVS := Lib.hid hvs
  obtain ⟨i0, hi, hz0, hz1, hz2⟩ := info_parts infoBool
  obtain ⟨a, cap, rfl, hcap, hcm, hv'⟩ := id hv
  obtain ⟨b, o, rfl, hb, g0, g1, g2⟩ := RdRg.cells hv (i := 0) (by simp)
  have e0 : rgnth (x :: (FRg.cons y1 k1 (.cons y2 k2 .nil)).flat) 0 = x := rfl
  rw [e0] at g0 g1 g2
  rw [Nat.zero_mul, Nat.add_zero] at g0 g1 g2
  rw [hk0] at g0
  obtain ⟨as', cs', rfl⟩ := hvs.slice
  obtain ⟨N, hN⟩ : ∃ N, N = S.length := ⟨_, rfl⟩
  obtain ⟨n, hn⟩ : ∃ n, n = L.length := ⟨_, rfl⟩
  have hN1 : n < N := by omega
  have hN2 : N ≤ n + 1 := by omega
  have hn64 : n ≤ 64 := by have := HL.len; omega
  rw [← hN] at HVS ⊢
  have HN := Lib.hid hN
  have Hn := Lib.hid hn
  have H1 := Lib.hid h1
  have H2 := Lib.hid h2
  obtain ⟨Z, hZ⟩ : ∃ Z, Z = (x :: (FRg.cons y1 k1 (.cons y2 k2 .nil)).flat) := ⟨_, rfl⟩
  have hZ2 : Z = x :: ((y1 :: k1.flat) ++ (y2 :: k2.flat)) := by rw [hZ]; simp [FRg.flat]
  rw [← hZ] at hv HV hkd hlen hcap ⊢
  obtain ⟨q, hq⟩ : ∃ q, q = 1 + (y1 :: k1.flat).length := ⟨_, rfl⟩
  obtain ⟨m, hm⟩ : ∃ m, m = Z.length := ⟨_, rfl⟩
  have hZl : Z.length = 1 + (y1 :: k1.flat).length + (y2 :: k2.flat).length := by rw [hZ2]; simp; omega
  have hq1 : 1 < q := by rw [hq]; simp
  have hqm : q < m := by rw [hm, hZl, hq]; simp
  have HS1 : Hid (RdRg w (.slice (some ⟨b, o + 3, none⟩) (q - 1) (cap - 1)) (y1 :: k1.flat)) := Lib.hid (by
    have h := hv.sub 1 q (o + 3) (q - 1) (cap - 1) hq1 (by omega) rfl rfl rfl
    rw [hZ2] at h
    rw [hq] at h ⊢
    rw [List.drop_succ_cons, List.drop_zero, Nat.add_sub_cancel_left, List.take_left] at h
    rw [Nat.add_sub_cancel_left]
    exact h)
  have HS2 : Hid (RdRg w (.slice (some ⟨b, o + q * 3, none⟩) (m - q) (cap - q)) (y2 :: k2.flat)) := Lib.hid (by
    have h := hv.sub q m (o + q * 3) (m - q) (cap - q) hqm (by omega) rfl rfl rfl
    have e : (Z.drop q).take (m - q) = y2 :: k2.flat := by
      rw [List.take_of_length_le (by rw [List.length_drop]; omega), hZ2, hq, Nat.add_comm, List.drop_succ_cons, List.drop_left]
    rwa [e] at h)
  have HD : Hid (Z.drop 1 = FRg.flat (.cons y1 k1 .nil) ++ FRg.flat (.cons y2 k2 .nil)) := Lib.hid (by rw [hZ2]; simp [FRg.flat])
  have HM : Hid (q = 1 + (FRg.flat (.cons y1 k1 .nil)).length) := Lib.hid (by rw [hq]; simp [FRg.flat])
  have HK := Lib.hid hkd
  have HOK : Hid (FRg.ok (.cons y1 k1 .nil)) := Lib.hid ⟨hok.1, hok.2.1, trivial⟩
  rw [← hm] at hcap HV ⊢
  have HMm := Lib.hid hm
  have HLN := Lib.hid hlen
  have hqm2 : q ≤ m := by omega
  have hq2 : 1 ≤ q := by omega
  have hqc : q ≤ cap := by omega
  have hI1 : (1 : Int) ≤ (q : Int) := by omega
  have hI2 : (q : Int) ≤ (m : Int) := by omega
  have hI3 : (q : Int) ≤ (cap : Int) := by omega
  have hI4 : (m : Int) ≤ (cap : Int) := by omega
  have hI5 : (0 : Int) ≤ (q : Int) := by omega
  have hI6 : (1 : Int) < (cap : Int) := by omega
  have hqcl : q < cap := by omega
  have hcne : ¬ cap = 1 := by omega
  have hqne : ¬ cap = q := by omega
  have hqne2 : ¬ q = cap := by omega
  have hI7 : (q : Int) < (cap : Int) := by omega
  have hI8 : (0 : Int) ≤ (m : Int) := by omega
  have hI9 : (q : Int) < (m : Int) := by omega
  have hm1 : 1 ≤ m := by omega
  have hmI : (1 : Int) ≤ (m : Int) := by omega
  obtain ⟨T1, hT1⟩ : ∃ T, T = opX L y1 (FRg.fold (opX L) k1) S := ⟨_, rfl⟩
  have hT1l : T1.length = S.length := by rw [hT1]; exact opX_len L (.cons y1 k1 .nil) 0 S
  have HS' := Lib.hid hS
  obtain ⟨T2, hT2⟩ : ∃ T, T = opX L y2 (FRg.fold (opX L) k2) S := ⟨_, rfl⟩
  have hT2l : T2.length = S.length := by rw [hT2]; exact opX_len L (.cons y2 k2 .nil) 0 S
  obtain ⟨V, hV⟩ : ∃ V, V = orB T1 T2 := ⟨_, rfl⟩
  have HR : Hid (opX L x (FRg.fold (opX L) (.cons y1 k1 (.cons y2 k2 .nil))) S = V) := Lib.hid (by rw [opX_either hk0, hV, hT2, hT1]; rfl)
  rw [HR.out]
  have HT1 := Lib.hid hT1
  have HT2 := Lib.hid hT2
  have HVat : Hid (∀ i, i < N → bnth V i = (bnth T1 i || bnth T2 i)) := Lib.hid (fun i h => by rw [hV]; exact bnth_orB _ _ (by omega))
  have hVl : V.length = N := by rw [hV, orB_len]; omega
  have HT1l : Hid (T1.length = N) := Lib.hid (by omega)
  have HT2l : Hid (T2.length = N) := Lib.hid (by omega)
  clear hv hv' hC hvs hN hn e0 hk0 hm hkd hok hq hZ hZ2 hZl h1 h2 g1 g2 hlen hT1 hT2 hT1l hT2l hS hV
  go_enter Tryz.func46, Tryz.ntmps46
  go_wp2_with (at_make; refine wpList_make_full _ rfl _ _ 77 rfl w.heap.size 4 i0 (.bool false) 1 Tryz.underlying77 hi hz0 hz1 _ _ _ _ N rfl rfl rfl rfl ?b2 ?b3 (Nat.le_refl _) ?_)
  case b2 => first | omega | (rw [hz2]; omega)
  case b3 => unfold maxLen; omega
  intro w0 hown0 hgrow0
  rw [toList_madeCells_one] at hown0
  have hb0 : Below w.heap.size w w0 := (Below.refl _ _).grown hgrow0 (Nat.le_refl _) (fun k h => by cases h)
  have HO0 := Lib.hid (made_bool hown0)
  have p0 := cell_upS g0 hb0
  clear hown0 hgrow0
  go_wp2_with fail
  refine (l20End_any _ Z 1 (.cons y1 k1 .nil) (FRg.flat (.cons y2 k2 .nil)) _ HLN.out HK.out HOK.out rfl (by have := HMm.out; omega) HD.out (by have := HV.out.below hb0; exact this)).mono ?_
  rintro e w' ⟨rfl, rfl⟩
  rw [← HM.out]
  go_wp2_with fail
  refine (H1.out _ _ bt S _ (HS1.out.below hb0) (HC.out.below hb0) HS'.out (by have := HVS.out.below hb0; exact this)).mono ?_
  rw [← HT1.out]
  rintro e w1 ⟨u1, rfl, hO1, hb1⟩
  have hbl1 := below_trans' hb0 hb1
  obtain ⟨a1, c1, rfl⟩ := hO1.rd.slice
  rw [HT1l.out] at hO1 ⊢
  have HO1 := Lib.hid hO1
  clear hO1
  go_wp2_with fail
  refine (H2.out _ _ bt S _ (HS2.out.below hbl1) (HC.out.below hbl1) HS'.out (by have := HVS.out.below hbl1; exact this)).mono ?_
  rw [← HT2.out]
  rintro e w2 ⟨u2, rfl, hO2, hb2⟩
  have hbl2 := below_trans' hbl1 hb2
  obtain ⟨a2, c2, rfl⟩ := hO2.rd.slice
  rw [HT2l.out] at hO2 ⊢
  have hw0 : w.heap.size < w0.heap.size := (HO0.out.lt w.heap.size rfl).2
  have hw1 : w0.heap.size ≤ w1.heap.size := hb1.size
  have HR1 : Hid (OwB w2 (w.heap.size + 1) (.slice a1 N c1) T1) := Lib.hid (OwB.mono' (Ow.below HO1.out hb2) (by omega))
  have HR2 : Hid (OwB w2 (w.heap.size + 1) (.slice a2 N c2) T2) := Lib.hid (hO2.mono' (by omega))
  have HOa := Lib.hid (ownsRow_below HO0.out (below_trans' hb1 hb2))
  clear hO2 HO1 HO0 p0 HS1 HS2
  go_wp2_with fail
  go_loopw [14] (fun si wr => ∃ (i : Nat) (T : List Bool), i ≤ N ∧ si = .int .i64 i ∧ T.length = N ∧ Hid (∀ j, j < i → bnth T j = bnth V j) ∧ Hid (wr.ownsRow w.heap.size 4 1 (.slice (some ⟨w.heap.size, 0, none⟩) N N) N (boolsV T)) ∧ Hid (OwB wr (w.heap.size + 1) (.slice a1 N c1) T1 ∧ OwB wr (w.heap.size + 1) (.slice a2 N c2) T2) ∧ Below w.heap.size w wr) (fun si _ => N - (intOf si).toNat)
  case atStart => exact ⟨0, List.replicate N false, Nat.zero_le _, rfl, by simp, Lib.hid (fun j hj => absurd hj (by omega)), HOa, Lib.hid ⟨HR1.out, HR2.out⟩, hbl2⟩
  case round =>
    clear HOa HR1 HR2
    obtain ⟨i, T, hin, rfl, hTl, HT, HO, HRR, hbr⟩ := hrel
    by_cases hlt : i < N
    · obtain ⟨b1, o1, rfl, y1⟩ := HRR.out.1.at HT1l.out hlt
      obtain ⟨b2, o2, rfl, y2⟩ := HRR.out.2.at HT2l.out hlt
      have p1 := (HO.out.cellAt i (by omega)).trans (boolsV_get T (by omega))
      have p2 := HO.out.frozenAt i
      have hiN : (i : Int) < (N : Int) := by omega
      have HX : Hid (∀ B, (bnth T1 i || bnth T2 i) = B → ∀ j, j < i + 1 → bnth (T.set i B) j = bnth V j) := Lib.hid (fun B hB j hj => by
        rw [bnth_set _ _ _ (by omega)]
        by_cases e : j = i
        · subst e; rw [if_pos rfl, HVat.out j hlt, hB]
        · rw [if_neg e]; exact HT.out j (by omega))
      have HST : Hid (∀ B, (wr.setCell ⟨w.heap.size, i, none⟩ (.bool B)).ownsRow w.heap.size 4 1 (.slice (some ⟨w.heap.size, 0, none⟩) N N) N (boolsV (T.set i B)) ∧ OwB (wr.setCell ⟨w.heap.size, i, none⟩ (.bool B)) (w.heap.size + 1) (.slice (some ⟨b1, o1, none⟩) N c1) T1 ∧ OwB (wr.setCell ⟨w.heap.size, i, none⟩ (.bool B)) (w.heap.size + 1) (.slice (some ⟨b2, o2, none⟩) N c2) T2) := Lib.hid (fun B => ⟨own_store HO.out hlt B, Ow.store_other HRR.out.1 (Nat.lt_succ_self _) _, Ow.store_other HRR.out.2 (Nat.lt_succ_self _) _⟩)
      clear HT HO HRR
      cases q1 : bnth T1 i with
      | true =>
        rw [q1] at y1 HX
        clear q1
        go_wp2_with fail
        go_roundw
        case rel => exact ⟨i + 1, T.set i true, by omega, by go_num, by simp; exact hTl, Lib.hid (HX.out true rfl), Lib.hid (HST.out true).1, Lib.hid (HST.out true).2, hbr.setCell (Nat.le_refl _) _⟩
        case measure => simp [intOf] <;> omega
      | false =>
        rw [q1] at y1 HX
        clear q1
        cases q2 : bnth T2 i with
        | true =>
          rw [q2] at y2 HX
          clear q2
          go_wp2_with fail
          go_roundw
          case rel => exact ⟨i + 1, T.set i true, by omega, by go_num, by simp; exact hTl, Lib.hid (HX.out true rfl), Lib.hid (HST.out true).1, Lib.hid (HST.out true).2, hbr.setCell (Nat.le_refl _) _⟩
          case measure => simp [intOf] <;> omega
        | false =>
          rw [q2] at y2 HX
          clear q2
          go_wp2_with fail
          go_roundw
          case rel => exact ⟨i + 1, T.set i false, by omega, by go_num, by simp; exact hTl, Lib.hid (HX.out false rfl), Lib.hid (HST.out false).1, Lib.hid (HST.out false).2, hbr.setCell (Nat.le_refl _) _⟩
          case measure => simp [intOf] <;> omega
    · obtain rfl : i = N := by omega
      have HRes : Hid (OwB wr w.heap.size (.slice (some ⟨w.heap.size, 0, none⟩) i i) V) := Lib.hid (by
        have e : T = V := bl_ext (by omega) fun j hj => HT.out j (by omega)
        rw [← e]; exact own_bool HO.out)
      go_wp2_with fail
      go_ret
      exact ⟨_, rfl, HRes.out, hbr⟩
end Go.Proofs.YtcakmchefbohoaaGreatDoor
