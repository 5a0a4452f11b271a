/- Contracts: the replacement of a regular modality, by the program: one or the other. -/
import Derived.Test.YtcakmchefbohoaaGreatDoorProg
import Derived.Test.YtcakmchefbohoaaGreatDoorMem
import Derived.Test.YtcakmchefbohoaaGreatDoorMath
import Derived.Test.YtcakmchefbohoaaGreatDoorBasics
import Derived.Test.YtcakmchefbohoaaGreatDoorOpenI
import Derived.Test.YtcakmchefbohoaaGreatDoorHelpI
import Derived.Test.YtcakmchefbohoaaGreatDoorGrid
import Derived.Test.YtcakmchefbohoaaGreatDoorLab
import Derived.Test.YtcakmchefbohoaaGreatDoorDec
import Derived.Test.YtcakmchefbohoaaGreatDoorEnv
import Derived.Test.YtcakmchefbohoaaGreatDoorNode
import Derived.Test.YtcakmchefbohoaaGreatDoorNodeW
import Derived.Test.YtcakmchefbohoaaGreatDoorReg
import Derived.Test.YtcakmchefbohoaaGreatDoorVReg
import Derived.Test.YtcakmchefbohoaaGreatDoorTreeR
import Derived.Test.YtcakmchefbohoaaGreatDoorConc
import Derived.Test.YtcakmchefbohoaaGreatDoorNds
import Derived.Test.YtcakmchefbohoaaGreatDoorInst
import Derived.Test.YtcakmchefbohoaaGreatDoorEmp
import Derived.Test.YtcakmchefbohoaaGreatDoorModP
import Derived.Test.YtcakmchefbohoaaGreatDoorModE
import Derived.Test.YtcakmchefbohoaaGreatDoorModJ
import Derived.Test.YtcakmchefbohoaaGreatDoorModB
import Derived.Test.YtcakmchefbohoaaGreatDoorModI
import Derived.WalkKit
import Derived.BigQuiet
import Derived.BigRegion
import Derived.Deep.QuietTactic
import Derived.Deep.RegionHeld3
import Derived.Deep.RegionLaw
import Derived.Deep.AppendLies
import Derived.Maps.AppendAt
import Derived.Laws.OwnMore
import Derived.Lib.SliceRun
import Derived.Lib.Hide
import Derived.Outline
set_option linter.unusedVariables false
set_option linter.unusedSimpArgs false
namespace Go.Proofs.YtcakmchefbohoaaGreatDoor
open Go.RowKit

theorem norm1 {w W w1 : World} {X : Nat} {uv : Value} (hb : Below w.heap.size w W) (hE : Exc (KX X uv) W w1) : Exc (KX X uv) w w1 := (Exc.of_below hb).trans hE fun i hi hK => hK
theorem normg {w W : World} {uv uv' : Value} (hb : Below w.heap.size w W) (hg : ∀ c, uv'.ownBlock = some c → uv.ownBlock = some c ∨ W.heap.size ≤ c) : ∀ c, uv'.ownBlock = some c → uv.ownBlock = some c ∨ w.heap.size ≤ c := fun c h => (hg c h).imp id fun h => Nat.le_trans hb.size h
theorem below_alc {w W : World} {o : Obj} (h : Below w.heap.size w W) : Below w.heap.size w (W.alloc o) := below_trans' h (alc W o)
theorem below_drw {w W : World} (h : Below w.heap.size w W) : Below w.heap.size w W.drew := h.drew
theorem ndk_kxw {w w1 W : World} {X : Nat} {uv v : Value} {f : List Nd} (hX : X < w.heap.size) (hb : Below w.heap.size w W) (h : NdK w1 (fun c => W.heap.size ≤ c ∧ uv.ownBlock ≠ some c) v f) : NdK w1 (KX X uv) v f :=
  ndk_kx (Nat.lt_of_lt_of_le hX hb.size) h
theorem nk_new {W : World} {X d n T : Nat} {box fl : Bool} {uv : Value} {E v : Int} {s : ByteArray} (hR : Rp W X box uv d fl) (hn : n = W.heap.size) (hs : s = ByteArray.empty) : NdK (W.alloc (.cells #[.int .i64 E, .int .i64 v, .string s, .bool false] T)) (KX X uv) (.slice (some ⟨n, 0, none⟩) 1 1) [⟨E, v, ByteArray.empty, false⟩] := by
  subst hn
  subst hs
  obtain ⟨a, cap, e, h1, h2, h3⟩ := rd_one W ⟨E, v, ByteArray.empty, false⟩ T
  refine ⟨a, cap, e, h1, h2, fun h0 => ?_⟩
  obtain ⟨b, o, rfl, hb, hc⟩ := h3 h0
  cases e
  exact ⟨_, 0, rfl, ⟨by have := hR.lt; omega, fun e => by have := (hR.own.lt _ e).2; omega⟩, hb, hc⟩
theorem exS {K : Nat → Prop} {W W' : World} {b1 o1 b2 o2 o3 : Nat} {v1 v2 v3 : Value} (hE : Exc K W W') (h : W.cell? ⟨b1, o1, none⟩ = some v1 ∧ W.cell? ⟨b2, o2, none⟩ = some v2 ∧ W.cell? ⟨b2, o3, none⟩ = some v3) (k1 : K b1) (k2 : K b2) : W'.cell? ⟨b1, o1, none⟩ = some v1 ∧ W'.cell? ⟨b2, o2, none⟩ = some v2 ∧ W'.cell? ⟨b2, o3, none⟩ = some v3 :=
  ⟨hE.cellv h.1 k1, hE.cellv h.2.1 k2, hE.cellv h.2.2 k2⟩
theorem upS {W W' : World} {b1 o1 b2 o2 b3 o3 : Nat} {v1 v2 v3 : Value} (h : W.cell? ⟨b1, o1, none⟩ = some v1 ∧ W.cell? ⟨b2, o2, none⟩ = some v2 ∧ W.cell? ⟨b3, o3, none⟩ = some v3) (hb : Below W.heap.size W W') : W'.cell? ⟨b1, o1, none⟩ = some v1 ∧ W'.cell? ⟨b2, o2, none⟩ = some v2 ∧ W'.cell? ⟨b3, o3, none⟩ = some v3 :=
  ⟨cell_up h.1 hb, cell_up h.2.1 hb, cell_up h.2.2 hb⟩
def three (a b c : Value) (i : Nat) : Value := if i = 0 then a else if i = 1 then b else c
theorem concat3 {W : World} {T n3 : Nat} {v1 v2 v3 : Value} {f1 f2 f3 : List Nd} (hn : n3 = W.heap.size) (h1 : RdNd W v1 f1) (h2 : RdNd W v2 f2) (h3 : RdNd W v3 f3) (hl : f1.length + f2.length + f3.length ≤ 1000000) :
    Calls Tryz.prog 120 #[.slice (some ⟨n3, 0, none⟩) 3 3] (W.alloc (.cells #[v1, v2, v3] T)) fun e w' => ∃ u, e = .returned u ∧ OwNd w' W.heap.size u ((f1 ++ f2) ++ f3) ∧ Below W.heap.size W w' := by
  subst hn
  have hfl : [f1, f2, f3].flatten = (f1 ++ f2) ++ f3 := by simp
  have hba := alc W (.cells #[v1, v2, v3] T)
  refine (concatNd_any _ (three v1 v2 v3) [f1, f2, f3] _ (by rw [hfl]; simp only [List.length_append]; omega) (by simp) (Ow.rd (rd_alloc W #[v1, v2, v3] T 3 (three v1 v2 v3) rfl (by unfold maxLen; decide) fun i hi => ?_)) fun k hk => ?_).mono ?_
  · match i, hi with
    | 0, _ => rfl
    | 1, _ => rfl
    | 2, _ => rfl
  · match k, hk with
    | 0, _ => exact h1.below hba
    | 1, _ => exact h2.below hba
    | 2, _ => exact h3.below hba
  · rintro e w' ⟨u, rfl, ho, hb⟩
    rw [hfl] at ho
    exact ⟨u, rfl, (own_nd ho).mono hba.size, below_trans' hba hb⟩
set_option maxRecDepth 100000 in
set_option maxHeartbeats 1600000 in
theorem of_either (box : Bool) (x y1 y2 : Rg) (k1 k2 : FRg) (hk0 : x.kind = 2) (hlen : (FRg.cons y1 k1 (.cons y2 k2 .nil)).flat.length ≤ 10000) (h1 : OfA box y1 k1) (h2 : OfA box y2 k2) : Of0 box x (.cons y1 k1 (.cons y2 k2 .nil)) := by
  intro b X d vf uv f w hF hN hf0 hf hd hR
  obtain ⟨i0, hi, hz0, hz1, hz2⟩ := info_parts infoNd
  have HF := Lib.hid hF
  have HN := Lib.hid hN
  have HRp := Lib.hid hR
  obtain ⟨hKb, hbl, g0, g1, g2⟩ := hF.leaf
  obtain ⟨hX, c0, c1, c2, z1, z2, ho⟩ := hR
  rw [hk0] at g0
  obtain ⟨b2, o2, cp, p1, p2, q3, hcp, hK2, hb2, r1, r2, F1, F2⟩ := HF.out.kids2
  have hfl : (FRg.cons y1 k1 (.cons y2 k2 .nil)).flat.length = (1 + k1.flat.length) + (1 + k2.flat.length) := by simp [FRg.flat]; omega
  rw [hfl] at hlen ⊢
  obtain ⟨R, hRd⟩ : ∃ R, R = opMI box x (FRg.fold (opMI box) (.cons y1 k1 (.cons y2 k2 .nil))) f d := ⟨_, rfl⟩
  rw [← hRd]
  obtain ⟨R1, hR1⟩ : ∃ R, R = opMI box y1 (FRg.fold (opMI box) k1) f d := ⟨_, rfl⟩
  obtain ⟨R2, hR2⟩ : ∃ R, R = opMI box y2 (FRg.fold (opMI box) k2) f d := ⟨_, rfl⟩
  have HRR : Hid (R = R1.bind fun a => R2.map fun b => mEither box a b) := Lib.hid (by rw [hRd, opMI_either hk0 hf, hR1, hR2]; rfl)
  have HR1 := Lib.hid hR1
  have HR2 := Lib.hid hR2
  have H1 := Lib.hid h1
  have H2 := Lib.hid h2
  have HF1 := Lib.hid F1
  have HF2 := Lib.hid F2
  obtain ⟨a, cap, rfl⟩ := HN.out.rd.slice
  obtain ⟨L, hL⟩ : ∃ L, L = f.length := ⟨_, rfl⟩
  have HL := Lib.hid hL
  rw [← hL] at hf hf0 HN ⊢
  have h30 : decide ((30 : Int) < (L : Int)) = false := decide_eq_false (by omega)
  obtain ⟨E, hE⟩ : ∃ E, E = eKind box := ⟨_, rfl⟩
  have HE : Hid ((if box = true then (2 : Int) else 3) = E) := Lib.hid (by rw [hE]; rfl)
  obtain ⟨Y, hY⟩ : ∃ Y : Nd, Y = ⟨E, 0, ByteArray.empty, false⟩ := ⟨_, rfl⟩
  have HY : Hid (Y = ⟨E, 0, ByteArray.empty, false⟩) := Lib.hid hY
  have HM : Hid (∀ p q, mEither box p q = ([Y] ++ p) ++ q) := Lib.hid (fun p q => by rw [hY, hE]; rfl)
  clear hF hRd hR1 hR2 h1 h2 F1 F2 g1 g2 hL c1 z1 z2 ho hk0 hfl hE hY
  go_enter Tryz.func75, Tryz.ntmps75
  go_wp2_with fail
  have hbD := drw w
  have d0 := cell_up c0 hbD
  have e0 := cell_up q3 hbD
  have e1 := cell_up r1 hbD
  have e2 := cell_up r2 hbD
  go_region_held3 (fun W => W.cell? ⟨b, 3, none⟩ = some (.slice (some ⟨b2, o2, none⟩) 2 cp) ∧ W.cell? ⟨b2, o2, none⟩ = some (.pointer (some ⟨p1, 0, none⟩)) ∧ W.cell? ⟨b2, o2 + 1, none⟩ = some (.pointer (some ⟨p2, 0, none⟩))) ((first | assumption | exact hS9 | exact hS2 | exact hS1 | exact ⟨e0, e1, e2⟩ | exact upS (by assumption) (alc _ _))) ((first | (go_at_call 120; refine (concat3 (f1 := [Y]) (f2 := l1) (f3 := l2) (by simp) (by rw [HY.out]; refine NdK.rd (K := KX X uv2) ?_; repeat (first | with_reducible exact nk_new (by repeat (first | with_reducible exact hR2 | with_reducible exact hR1 | with_reducible exact HRp.out | with_reducible refine Rp.below ?_ (drw _) | with_reducible refine Rp.below ?_ (alc _ _))) (by simp) rfl | with_reducible refine NdK.exc ?_ hE2 hg2 | with_reducible refine NdK.exc ?_ hE1 hg1 | with_reducible refine NdK.below ?_ (drw _) | with_reducible refine NdK.below ?_ (alc _ _))) (by repeat (first | with_reducible exact hN1v.rd | with_reducible refine RdNd.below ?_ (drw _) | with_reducible refine RdNd.below ?_ (alc _ _))) (by repeat (first | with_reducible exact hN2w.rd | with_reducible refine RdNd.below ?_ (drw _) | with_reducible refine RdNd.below ?_ (alc _ _))) (by simp only [List.length_cons, List.length_nil]; omega)).mono ?_; rintro e w9 ⟨u9, rfl, hO9, hb9⟩; have hb29 := below_trans' (w := w2) (by repeat (first | with_reducible exact Below.refl _ _ | with_reducible refine below_drw ?_ | with_reducible refine below_alc ?_)) hb9; have hO9w : OwNd w9 w2.heap.size u9 (([Y] ++ l1) ++ l2) := Ow.mono hO9 (Below.size (B := w2.heap.size) (w := w2) (by repeat (first | with_reducible exact Below.refl _ _ | with_reducible refine below_drw ?_ | with_reducible refine below_alc ?_))); have hS9 := upS hS2 hb29) | (go_at_call 75; refine (H2.out p2 X d _ uv1 f R1.isNone _ (by repeat (first | with_reducible exact A1 | with_reducible refine FAtRg.below ?_ (drw _) | with_reducible refine FAtRg.below ?_ (alc _ _))) (by repeat (first | with_reducible exact A2 | with_reducible refine NdK.below ?_ (drw _) | with_reducible refine NdK.below ?_ (alc _ _))) (fun _ => by have := HL.out; omega) (by have := HL.out; omega) hd (by repeat (first | with_reducible exact hR1 | with_reducible refine Rp.below ?_ (drw _) | with_reducible refine Rp.below ?_ (alc _ _)))).mono ?_; rw [← HR2.out]; rintro e w2 ⟨u2, uv2, l2, rfl, hN2, hW2, hl2, hy2, hR2, hE2, hg2⟩; obtain ⟨au2, cu2, rfl⟩ := hN2.rd.slice; have hE2w : Exc (KX X uv1) w1 w2 := norm1 (by repeat (first | with_reducible exact Below.refl _ _ | with_reducible refine below_drw ?_ | with_reducible refine below_alc ?_)) hE2; have hg2w := normg (w := w1) (by repeat (first | with_reducible exact Below.refl _ _ | with_reducible refine below_drw ?_ | with_reducible refine below_alc ?_)) hg2; have hN2w : NdK w2 (KX X uv2) _ l2 := ndk_kxw (w := w1) hR1.lt (by repeat (first | with_reducible exact Below.refl _ _ | with_reducible refine below_drw ?_ | with_reducible refine below_alc ?_)) hN2; have hN1v := hN1w.exc hE2w hg2w; have hS2 := exS hE2w hS1 (kx_up hKb hg1w hbl) (kx_up hK2 hg1w hb2)) | (go_at_call 75; refine (H1.out p1 X d _ uv f false _ (by repeat (first | with_reducible exact HF1.out | with_reducible refine FAtRg.below ?_ (drw _) | with_reducible refine FAtRg.below ?_ (alc _ _))) (by repeat (first | with_reducible exact HN.out | with_reducible refine NdK.below ?_ (drw _) | with_reducible refine NdK.below ?_ (alc _ _))) (fun _ => by have := HL.out; omega) (by have := HL.out; omega) hd (by repeat (first | with_reducible exact HRp.out | with_reducible refine Rp.below ?_ (drw _) | with_reducible refine Rp.below ?_ (alc _ _)))).mono ?_; rw [if_neg Bool.false_ne_true, ← HR1.out]; rintro e w1 ⟨u1, uv1, l1, rfl, hN1, hW1, hl1, hy1, hR1, hE1, hg1⟩; obtain ⟨au1, cu1, rfl⟩ := hN1.rd.slice; have hE1w : Exc (KX X uv) w w1 := norm1 (by repeat (first | with_reducible exact Below.refl _ _ | with_reducible refine below_drw ?_ | with_reducible refine below_alc ?_)) hE1; have hg1w := normg (w := w) (by repeat (first | with_reducible exact Below.refl _ _ | with_reducible refine below_drw ?_ | with_reducible refine below_alc ?_)) hg1; have hN1w : NdK w1 (KX X uv1) _ l1 := ndk_kxw (w := w) hX (by repeat (first | with_reducible exact Below.refl _ _ | with_reducible refine below_drw ?_ | with_reducible refine below_alc ?_)) hN1; have hS1 := exS hE1w ⟨q3, r1, r2⟩ hKb hK2; have A1 := HF2.out.exc hE1w hg1w; have A2 := HN.out.exc hE1w hg1w) | (go_at_call 119; refine (repKind_at X box 3 2 E _ HE.out d0).mono ?_; rintro e w9 ⟨rfl, rfl⟩) | fail))
  all_goals
    have hs1 : w.heap.size ≤ w1.heap.size := hE1w.size
    have hs2 : w1.heap.size ≤ w2.heap.size := hE2w.size
    have HO : Hid (NdK w9 (fun c => w.heap.size ≤ c ∧ uv2.ownBlock ≠ some c) u9 (([Y] ++ l1) ++ l2)) := Lib.hid (ndk_own hR2 hO9w (Nat.le_trans hs1 hs2))
    have HW9 : Hid (OwNd w9 w.heap.size u9 (([Y] ++ l1) ++ l2)) := Lib.hid (Ow.mono hO9w (Nat.le_trans hs1 hs2))
    have HE3 : Hid (Exc (KX X uv) w w9) := Lib.hid ((hE1w.trans hE2w (fun i hi hK => kx_up hK hg1w hi)).trans (Exc.of_below (K := KX X uv) hb29) (fun i hi hK => hK))
    have HG : Hid (∀ c, uv2.ownBlock = some c → uv.ownBlock = some c ∨ w.heap.size ≤ c) := Lib.hid (fun c h => by
      rcases hg2w c h with h | h
      · exact hg1w c h
      · exact Or.inr (Nat.le_trans hs1 h))
    have HYR : Hid ((∀ y, R = some y → ([Y] ++ l1) ++ l2 = y) ∧ Rp w9 X box uv2 d R.isNone) := Lib.hid (by
      have hR9 := hR2.below hb29
      cases R1 with
      | none =>
        have e : R = none := HRR.out
        rw [e]
        exact ⟨(fun y h => by cases h), hR9⟩
      | some p =>
        have e1 := hy1 p rfl
        subst e1
        cases R2 with
        | none =>
          have e : R = none := HRR.out
          rw [e]
          exact ⟨(fun y h => by cases h), hR9⟩
        | some q =>
          have e2 := hy2 q rfl
          subst e2
          have e : R = some (mEither box l1 l2) := HRR.out
          rw [e, HM.out]
          exact ⟨fun y h => Option.some.inj h, hR9⟩)
    have hlen2 : (([Y] ++ l1) ++ l2).length ≤ 32 * (1 + (1 + k1.flat.length + (1 + k2.flat.length))) := by simp only [List.length_append, List.length_cons, List.length_nil]; omega
    clear hN1 hN2 hW1 hW2 hE1 hE2 hE1w hE2w hg1 hg2 hg1w hg2w hy1 hy2 hR1 hR2 hS1 hS2 hS9 A1 A2 e0 e1 e2 HF1 HF2 H1 H2 HR1 HR2 HRR HM HY hO9 hO9w hb9 hN1w hN2w hN1v
    go_wp2_with fail
    go_ret
    exact ⟨_, uv2, _, rfl, HO.out, HW9.out, hlen2, HYR.out.1, HYR.out.2, HE3.out, HG.out⟩
end Go.Proofs.YtcakmchefbohoaaGreatDoor
