/- Contracts: the replacement of a regular modality, by the reference: one behind the other. -/
import Derived.Test.YtcakmchefbohoaaGreatDoorProg
import Derived.Test.YtcakmchefbohoaaGreatDoorMem
import Derived.Test.YtcakmchefbohoaaGreatDoorMath
import Derived.Test.YtcakmchefbohoaaGreatDoorBasics
import Derived.Test.YtcakmchefbohoaaGreatDoorOpenI
import Derived.Test.YtcakmchefbohoaaGreatDoorHelpI
import Derived.Test.YtcakmchefbohoaaGreatDoorGrid
import Derived.Test.YtcakmchefbohoaaGreatDoorLab
import Derived.Test.YtcakmchefbohoaaGreatDoorDec
import Derived.Test.YtcakmchefbohoaaGreatDoorEnv
import Derived.Test.YtcakmchefbohoaaGreatDoorNode
import Derived.Test.YtcakmchefbohoaaGreatDoorNodeW
import Derived.Test.YtcakmchefbohoaaGreatDoorReg
import Derived.Test.YtcakmchefbohoaaGreatDoorVReg
import Derived.Test.YtcakmchefbohoaaGreatDoorTreeR
import Derived.Test.YtcakmchefbohoaaGreatDoorConc
import Derived.Test.YtcakmchefbohoaaGreatDoorNds
import Derived.Test.YtcakmchefbohoaaGreatDoorInst
import Derived.Test.YtcakmchefbohoaaGreatDoorModP
import Derived.Test.YtcakmchefbohoaaGreatDoorModE
import Derived.Test.YtcakmchefbohoaaGreatDoorModJ
import Derived.Test.YtcakmchefbohoaaGreatDoorModB
import Derived.Test.YtcakmchefbohoaaGreatDoorModS
import Derived.WalkKit
import Derived.BigQuiet
import Derived.BigRegion
import Derived.Deep.QuietTactic
import Derived.Deep.RegionHeld3
import Derived.Deep.RegionLawGrows
import Derived.Deep.AppendLies
import Derived.Maps.AppendAt
import Derived.Laws.OwnMore
import Derived.Lib.SliceRun
import Derived.Lib.Hide
import Derived.Outline
set_option linter.unusedVariables false
set_option linter.unusedSimpArgs false
namespace Go.Proofs.YtcakmchefbohoaaGreatDoor
open Go.RowKit

set_option maxRecDepth 100000 in
set_option maxHeartbeats 1600000 in
theorem modS_then (box : Bool) (x y1 y2 : Rg) (k1 k2 : FRg) (hk0 : x.kind = 1) (hok : FRg.ok (.cons y1 k1 (.cons y2 k2 .nil))) (hkd : ∀ i, i < (x :: (FRg.cons y1 k1 (.cons y2 k2 .nil)).flat).length → inR (rgnth (x :: (FRg.cons y1 k1 (.cons y2 k2 .nil)).flat) i).kind 0 3 = true) (hlen : (x :: (FRg.cons y1 k1 (.cons y2 k2 .nil)).flat).length ≤ 1048576) (h1 : Mod1 box y1 k1) (h2 : Mod1 box y2 k2) : Mod1 box x (.cons y1 k1 (.cons y2 k2 .nil)) := by
  intro v vf vb f d w hv hvf hvb hf hd
  have HVF := Lib.hid hvf
  have HVB := Lib.hid hvb
  have HV := Lib.hid hv
  have H1 := Lib.hid h1
  have H2 := Lib.hid h2
  obtain ⟨i0, hi, hz0, hz1, hz2⟩ := info_parts infoNd
  obtain ⟨Z, hZ⟩ : ∃ Z, Z = (x :: (FRg.cons y1 k1 (.cons y2 k2 .nil)).flat) := ⟨_, rfl⟩
  have hZ2 : Z = x :: ((y1 :: k1.flat) ++ (y2 :: k2.flat)) := by rw [hZ]; simp [FRg.flat]
  rw [← hZ] at hv HV hkd hlen
  obtain ⟨a, cap, rfl, hcap, hcm, hv'⟩ := id hv
  obtain ⟨b, o, rfl, hb, g0, g1, g2⟩ := RdRg.cells hv (i := 0) (by rw [hZ]; simp)
  have e0 : rgnth Z 0 = x := by rw [hZ]; rfl
  rw [e0] at g0
  rw [Nat.zero_mul, Nat.add_zero] at g0
  rw [hk0] at g0
  obtain ⟨m, hm⟩ : ∃ m, m = 1 + (y1 :: k1.flat).length := ⟨_, rfl⟩
  obtain ⟨n, hn⟩ : ∃ n, n = Z.length := ⟨_, rfl⟩
  have hZl : Z.length = 1 + (y1 :: k1.flat).length + (y2 :: k2.flat).length := by rw [hZ2]; simp; omega
  have hm1 : 1 < m := by rw [hm]; simp
  have hmn : m < n := by rw [hn, hZl, hm]; simp
  have HS1 : Hid (RdRg w (.slice (some ⟨b, o + 3, none⟩) (m - 1) (cap - 1)) (y1 :: k1.flat)) := Lib.hid (by
    have h := hv.sub 1 m (o + 3) (m - 1) (cap - 1) hm1 (by omega) rfl rfl rfl
    rw [hZ2] at h
    rw [hm] at h ⊢
    rw [List.drop_succ_cons, List.drop_zero, Nat.add_sub_cancel_left, List.take_left] at h
    rw [Nat.add_sub_cancel_left]
    exact h)
  have HS2 : Hid (RdRg w (.slice (some ⟨b, o + m * 3, none⟩) (n - m) (cap - m)) (y2 :: k2.flat)) := Lib.hid (by
    have h := hv.sub m n (o + m * 3) (n - m) (cap - m) hmn (by omega) rfl rfl rfl
    have e : (Z.drop m).take (n - m) = y2 :: k2.flat := by
      rw [List.take_of_length_le (by rw [List.length_drop]; omega), hZ2, hm, Nat.add_comm, List.drop_succ_cons, List.drop_left]
    rwa [e] at h)
  have HD : Hid (Z.drop 1 = FRg.flat (.cons y1 k1 .nil) ++ FRg.flat (.cons y2 k2 .nil)) := Lib.hid (by rw [hZ2]; simp [FRg.flat])
  have HM : Hid (m = 1 + (FRg.flat (.cons y1 k1 .nil)).length) := Lib.hid (by rw [hm]; simp [FRg.flat])
  have HK := Lib.hid hkd
  have HOK : Hid (FRg.ok (.cons y1 k1 .nil)) := Lib.hid ⟨hok.1, hok.2.1, trivial⟩
  rw [← hn] at hcap HV ⊢
  have hmn2 : m ≤ n := by omega
  have hm2 : 1 ≤ m := by omega
  have hmc : m ≤ cap := by omega
  have HN := Lib.hid hn
  have HLN := Lib.hid hlen
  obtain ⟨E2, hE2⟩ : ∃ E, E = opMS box y2 (FRg.fold (opMS box) k2) f d := ⟨_, rfl⟩
  have HE : opMS box x (FRg.fold (opMS box) (.cons y1 k1 (.cons y2 k2 .nil))) f d = E2.bind fun y => opMS box y1 (FRg.fold (opMS box) k1) y d := by rw [opMS_then hk0, hE2]; rfl
  rw [HE]
  have HE2 := Lib.hid hE2
  have HSH : Hid (∀ y, E2 = some y → y.length ≤ 30) := Lib.hid (fun y h => opMS_short box (.cons y2 k2 .nil) 0 f d y (by rw [← h, hE2]; rfl))
  clear hE2 HE hv hv' hkd hok hm hn hZl hZ hZ2 e0 hk0 hvf hvb h1 h2 g1 g2 hlen
  cases box with
  | true =>
    go_enter Tryz.func38, Tryz.ntmps38
    go_wp2_with fail
    have hbA : Below w.heap.size w (w.alloc (.cells #[] 65)) := (Below.refl _ _).alloc (Nat.le_refl _) _
    refine (l20End_any _ Z 1 (.cons y1 k1 .nil) (FRg.flat (.cons y2 k2 .nil)) _ HLN.out HK.out HOK.out rfl (by have := HN.out; omega) HD.out (by have := HV.out.below hbA; exact this)).mono ?_
    rintro e w1 ⟨rfl, rfl⟩
    rw [← HM.out]
    go_wp2_with fail
    refine (H2.out _ _ _ f d _ (HS2.out.below hbA) (HVF.out.below hbA) (HVB.out.below hbA) hf hd).mono ?_
    rw [← HE2.out]
    rintro e w2 ⟨u, rfl, hO, hb2⟩
    have hbl2 : Below w.heap.size w w2 := below_trans' hbA hb2
    have HO := Lib.hid hO
    clear hO
    cases E2 with
    | none =>
      go_wp2_with fail
      go_ret2
      exact ⟨_, rfl, (fun l hl => by cases hl), hbl2⟩
    | some y =>
      have hO2 : Hid (OwNd w2 w.heap.size u y) := Lib.hid ((HO.out y rfl).mono hbA.size)
      obtain ⟨au, cu, rfl⟩ := hO2.out.rd.slice
      go_wp2_with fail
      refine (H1.out _ _ _ y d _ (HS1.out.below hbl2) hO2.out.rd (HVB.out.below hbl2) (HSH.out y rfl) hd).mono ?_
      rintro e w3 ⟨u3, rfl, hO3, hb3⟩
      have HO3 := Lib.hid hO3
      clear hO3
      go_wp2_with fail
      go_ret2
      exact ⟨_, rfl, fun l hl => (HO3.out l hl).mono hbl2.size, below_trans' hbl2 hb3⟩
  | false =>
    go_enter Tryz.func38, Tryz.ntmps38
    go_wp2_with fail
    have hbA : Below w.heap.size w (w.alloc (.cells #[] 65)) := (Below.refl _ _).alloc (Nat.le_refl _) _
    refine (l20End_any _ Z 1 (.cons y1 k1 .nil) (FRg.flat (.cons y2 k2 .nil)) _ HLN.out HK.out HOK.out rfl (by have := HN.out; omega) HD.out (by have := HV.out.below hbA; exact this)).mono ?_
    rintro e w1 ⟨rfl, rfl⟩
    rw [← HM.out]
    go_wp2_with fail
    refine (H2.out _ _ _ f d _ (HS2.out.below hbA) (HVF.out.below hbA) (HVB.out.below hbA) hf hd).mono ?_
    rw [← HE2.out]
    rintro e w2 ⟨u, rfl, hO, hb2⟩
    have hbl2 : Below w.heap.size w w2 := below_trans' hbA hb2
    have HO := Lib.hid hO
    clear hO
    cases E2 with
    | none =>
      go_wp2_with fail
      go_ret2
      exact ⟨_, rfl, (fun l hl => by cases hl), hbl2⟩
    | some y =>
      have hO2 : Hid (OwNd w2 w.heap.size u y) := Lib.hid ((HO.out y rfl).mono hbA.size)
      obtain ⟨au, cu, rfl⟩ := hO2.out.rd.slice
      go_wp2_with fail
      refine (H1.out _ _ _ y d _ (HS1.out.below hbl2) hO2.out.rd (HVB.out.below hbl2) (HSH.out y rfl) hd).mono ?_
      rintro e w3 ⟨u3, rfl, hO3, hb3⟩
      have HO3 := Lib.hid hO3
      clear hO3
      go_wp2_with fail
      go_ret2
      exact ⟨_, rfl, fun l hl => (HO3.out l hl).mono hbl2.size, below_trans' hbl2 hb3⟩
end Go.Proofs.YtcakmchefbohoaaGreatDoor
