/- Contracts: the replacement of a regular modality, by the program: one behind the other. -/
import Derived.Test.YtcakmchefbohoaaGreatDoorProg
import Derived.Test.YtcakmchefbohoaaGreatDoorMem
import Derived.Test.YtcakmchefbohoaaGreatDoorMath
import Derived.Test.YtcakmchefbohoaaGreatDoorBasics
import Derived.Test.YtcakmchefbohoaaGreatDoorOpenI
import Derived.Test.YtcakmchefbohoaaGreatDoorHelpI
import Derived.Test.YtcakmchefbohoaaGreatDoorGrid
import Derived.Test.YtcakmchefbohoaaGreatDoorLab
import Derived.Test.YtcakmchefbohoaaGreatDoorDec
import Derived.Test.YtcakmchefbohoaaGreatDoorEnv
import Derived.Test.YtcakmchefbohoaaGreatDoorNode
import Derived.Test.YtcakmchefbohoaaGreatDoorNodeW
import Derived.Test.YtcakmchefbohoaaGreatDoorReg
import Derived.Test.YtcakmchefbohoaaGreatDoorVReg
import Derived.Test.YtcakmchefbohoaaGreatDoorTreeR
import Derived.Test.YtcakmchefbohoaaGreatDoorConc
import Derived.Test.YtcakmchefbohoaaGreatDoorNds
import Derived.Test.YtcakmchefbohoaaGreatDoorInst
import Derived.Test.YtcakmchefbohoaaGreatDoorEmp
import Derived.Test.YtcakmchefbohoaaGreatDoorModP
import Derived.Test.YtcakmchefbohoaaGreatDoorModE
import Derived.Test.YtcakmchefbohoaaGreatDoorModJ
import Derived.Test.YtcakmchefbohoaaGreatDoorModB
import Derived.Test.YtcakmchefbohoaaGreatDoorModI
import Derived.WalkKit
import Derived.BigQuiet
import Derived.BigRegion
import Derived.Deep.QuietTactic
import Derived.Deep.RegionHeld3
import Derived.Deep.RegionLaw
import Derived.Deep.AppendLies
import Derived.Maps.AppendAt
import Derived.Laws.OwnMore
import Derived.Lib.SliceRun
import Derived.Lib.Hide
import Derived.Outline
set_option linter.unusedVariables false
set_option linter.unusedSimpArgs false
namespace Go.Proofs.YtcakmchefbohoaaGreatDoor
open Go.RowKit

set_option maxRecDepth 100000 in
set_option maxHeartbeats 1600000 in
theorem of_then (box : Bool) (x y1 y2 : Rg) (k1 k2 : FRg) (hk0 : x.kind = 1) (hlen : (FRg.cons y1 k1 (.cons y2 k2 .nil)).flat.length ≤ 10000) (h1 : OfA box y1 k1) (h2 : OfA box y2 k2) : Of0 box x (.cons y1 k1 (.cons y2 k2 .nil)) := by
  intro b X d vf uv f w hF hN hf0 hf hd hR
  obtain ⟨i0, hi, hz0, hz1, hz2⟩ := info_parts infoNd
  have HF := Lib.hid hF
  have HN := Lib.hid hN
  have HRp := Lib.hid hR
  obtain ⟨hKb, hbl, g0, g1, g2⟩ := hF.leaf
  obtain ⟨hX, c0, c1, c2, z1, z2, ho⟩ := hR
  rw [hk0] at g0
  obtain ⟨b2, o2, cp, p1, p2, q3, hcp, hK2, hb2, r1, r2, F1, F2⟩ := HF.out.kids2
  have hfl : (FRg.cons y1 k1 (.cons y2 k2 .nil)).flat.length = (1 + k1.flat.length) + (1 + k2.flat.length) := by simp [FRg.flat]; omega
  rw [hfl] at hlen ⊢
  obtain ⟨R, hRd⟩ : ∃ R, R = opMI box x (FRg.fold (opMI box) (.cons y1 k1 (.cons y2 k2 .nil))) f d := ⟨_, rfl⟩
  rw [← hRd]
  obtain ⟨R2, hR2⟩ : ∃ R, R = opMI box y2 (FRg.fold (opMI box) k2) f d := ⟨_, rfl⟩
  have HRR : Hid (R = R2.bind fun y => opMI box y1 (FRg.fold (opMI box) k1) y d) := Lib.hid (by rw [hRd, opMI_then hk0 hf, hR2]; rfl)
  have HY2 : Hid (∀ y, R2 = some y → 0 < y.length) := Lib.hid (fun y h => Nat.lt_of_lt_of_le hf0 ((agree_fold box (.cons y2 k2 .nil) 0).2.1 f d y (by rw [← h, hR2]; rfl)))
  have HR2 := Lib.hid hR2
  have H1 := Lib.hid h1
  have H2 := Lib.hid h2
  have HF1 := Lib.hid F1
  have HF2 := Lib.hid F2
  obtain ⟨a, cap, rfl⟩ := HN.out.rd.slice
  obtain ⟨L, hL⟩ : ∃ L, L = f.length := ⟨_, rfl⟩
  have HL := Lib.hid hL
  rw [← hL] at hf hf0 HN ⊢
  have h30 : decide ((30 : Int) < (L : Int)) = false := decide_eq_false (by omega)
  clear hF hRd hR2 h1 h2 F1 F2 g1 g2 hL c1 z1 z2 ho hk0 hfl
  go_enter Tryz.func75, Tryz.ntmps75
  go_wp2_with fail
  have hbD := drw w
  have e0 := cell_up q3 hbD
  have e1 := cell_up r1 hbD
  have e2 := cell_up r2 hbD
  go_region_held3 (fun W => W.cell? ⟨b, 3, none⟩ = some (.slice (some ⟨b2, o2, none⟩) 2 cp) ∧ W.cell? ⟨b2, o2, none⟩ = some (.pointer (some ⟨p1, 0, none⟩)) ∧ W.cell? ⟨b2, o2 + 1, none⟩ = some (.pointer (some ⟨p2, 0, none⟩))) ((first | exact hS2 | exact hS1 | exact ⟨e0, e1, e2⟩)) ((first | (go_at_call 75; refine (H1.out p1 X d _ uv1 l1 R2.isNone _ A1 A2 A3 A4 hd hR1).mono ?_; rintro e w2 ⟨u2, uv2, l2, rfl, hN2, hW2, hl2, hy2, hR2, hE2, hg2⟩; have hS2 := And.intro (hE2.cellv hS1.1 (kx_up hKb hg1 hbl)) (And.intro (hE2.cellv hS1.2.1 (kx_up hK2 hg1 hb2)) (hE2.cellv hS1.2.2 (kx_up hK2 hg1 hb2)))) | (go_at_call 75; refine (H2.out p2 X d _ uv f false _ (HF2.out.below hbD) (HN.out.below hbD) (fun _ => by have := HL.out; omega) (by have := HL.out; omega) hd (HRp.out.below hbD)).mono ?_; rw [if_neg Bool.false_ne_true, ← HR2.out]; rintro e w1 ⟨u1, uv1, l1, rfl, hN1, hW1, hl1, hy1, hR1, hE1, hg1⟩; have hS1 := And.intro (hE1.cellv e0 hKb) (And.intro (hE1.cellv e1 hK2) (hE1.cellv e2 hK2)); have A1 := (HF1.out.below hbD).exc hE1 hg1; have A2 : NdK w1 (KX X uv1) u1 l1 := ndk_kx (w0 := w.drew) hX hN1; have A3 : R2.isNone = false → 0 < l1.length := (by intro h; cases R2 with | none => cases h | some y => rw [hy1 y rfl]; exact HY2.out y rfl); have A4 : l1.length ≤ 1048576 := (by omega)) | fail))
  have hs1 : w.heap.size ≤ w1.heap.size := hE1.size
  have HW2 : Hid (OwNd w2 w.heap.size u2 l2) := Lib.hid (Ow.mono hW2 hs1)
  have HN2 : Hid (NdK w2 (fun c => w.heap.size ≤ c ∧ uv2.ownBlock ≠ some c) u2 l2) := Lib.hid (hN2.mono (Nat.le_refl _) fun c hc _ => ⟨rfl, Nat.le_trans hs1 hc.1, hc.2⟩)
  have HE3 : Hid (Exc (KX X uv) w w2) := Lib.hid ((Exc.of_below hbD).trans (hE1.trans hE2 (fun i hi hK => kx_up hK hg1 hi)) (fun i hi hK => hK))
  have HG : Hid (∀ c, uv2.ownBlock = some c → uv.ownBlock = some c ∨ w.heap.size ≤ c) := Lib.hid (fun c h => by
    rcases hg2 c h with h | h
    · exact hg1 c h
    · exact Or.inr (Nat.le_trans hs1 h))
  have HY : Hid ((∀ y, R = some y → l2 = y) ∧ Rp w2 X box uv2 d R.isNone) := Lib.hid (by
    cases R2 with
    | none =>
      have e : R = none := HRR.out
      rw [e]
      exact ⟨(fun y h => by cases h), hR2⟩
    | some z =>
      have e1 := hy1 z rfl
      subst e1
      have e : R = opMI box y1 (FRg.fold (opMI box) k1) l1 d := HRR.out
      rw [e]
      exact ⟨hy2, hR2⟩)
  clear hN1 hN2 hW1 hW2 hE1 hE2 hg1 hg2 hy1 hy2 hR1 hR2 hS1 hS2 A1 A2 A3 A4 e0 e1 e2 HF1 HF2 H1 H2 HR2 HRR HY2
  go_wp2_with fail
  go_ret
  exact ⟨_, uv2, l2, rfl, HN2.out, HW2.out, by omega, HY.out.1, HY.out.2, HE3.out, HG.out⟩
end Go.Proofs.YtcakmchefbohoaaGreatDoor
