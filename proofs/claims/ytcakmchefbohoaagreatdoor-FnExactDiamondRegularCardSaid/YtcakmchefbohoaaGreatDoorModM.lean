/- Contracts: the replacement of a regular modality, by the program: a star. -/
import Derived.Test.YtcakmchefbohoaaGreatDoorProg
import Derived.Test.YtcakmchefbohoaaGreatDoorMem
import Derived.Test.YtcakmchefbohoaaGreatDoorMath
import Derived.Test.YtcakmchefbohoaaGreatDoorBasics
import Derived.Test.YtcakmchefbohoaaGreatDoorOpenI
import Derived.Test.YtcakmchefbohoaaGreatDoorHelpI
import Derived.Test.YtcakmchefbohoaaGreatDoorGrid
import Derived.Test.YtcakmchefbohoaaGreatDoorLab
import Derived.Test.YtcakmchefbohoaaGreatDoorDec
import Derived.Test.YtcakmchefbohoaaGreatDoorEnv
import Derived.Test.YtcakmchefbohoaaGreatDoorNode
import Derived.Test.YtcakmchefbohoaaGreatDoorNodeW
import Derived.Test.YtcakmchefbohoaaGreatDoorReg
import Derived.Test.YtcakmchefbohoaaGreatDoorVReg
import Derived.Test.YtcakmchefbohoaaGreatDoorTreeR
import Derived.Test.YtcakmchefbohoaaGreatDoorConc
import Derived.Test.YtcakmchefbohoaaGreatDoorNds
import Derived.Test.YtcakmchefbohoaaGreatDoorInst
import Derived.Test.YtcakmchefbohoaaGreatDoorEmp
import Derived.Test.YtcakmchefbohoaaGreatDoorModP
import Derived.Test.YtcakmchefbohoaaGreatDoorModE
import Derived.Test.YtcakmchefbohoaaGreatDoorModJ
import Derived.Test.YtcakmchefbohoaaGreatDoorModB
import Derived.Test.YtcakmchefbohoaaGreatDoorModI
import Derived.Test.YtcakmchefbohoaaGreatDoorModL
import Derived.WalkKit
import Derived.BigQuiet
import Derived.BigRegion
import Derived.Deep.QuietTactic
import Derived.Deep.RegionHeld3
import Derived.Deep.RegionLaw
import Derived.Deep.AppendLies
import Derived.Maps.AppendAt
import Derived.Laws.OwnMore
import Derived.Lib.SliceRun
import Derived.Lib.Hide
import Derived.Outline
set_option linter.unusedVariables false
set_option linter.unusedSimpArgs false
namespace Go.Proofs.YtcakmchefbohoaaGreatDoor
open Go.RowKit

theorem rd_nds2 {w : World} {f : List Nd} {cs : Array Value} {T n m : Nat} (hn : n = w.heap.size) (hm : m = f.length) (hcs : cs.toList = ndCells f) (hl : f.length ≤ maxLen) : RdNd (w.alloc (.cells cs T)) (.slice (some ⟨n, 0, none⟩) m m) f := by
  subst hn
  subst hm
  refine ⟨_, f.length, rfl, Nat.le_refl _, hl, fun h0 => ⟨_, 0, rfl, by simp, fun i hi => ?_⟩⟩
  rw [cell_of_row _ _ _ _ _ _ (heap_alloc_new w _), Nat.zero_add, ← Array.getElem?_toList, hcs]
  exact ndCells_get f hi
theorem Rp.push {W w1 : World} {X d d2 : Nat} {box fl : Bool} {uv v' : Value} (h : Rp W X box uv d fl) (hg : W.grownBy w1 uv.ownBlock) (ho : w1.ownsRow (X + 1) 2 1 v' d2 (uptoV d2)) :
    w1.cell? ⟨X, 1, none⟩ = some uv ∧ w1.frozen? ⟨X, 1, none⟩ = false ∧ Rp (w1.setCell ⟨X, 1, none⟩ v') X box v' d2 fl := by
  have hb : w1.heap[X]? = W.heap[X]? := hg.block X h.lt (fun e => by have := (h.own.lt X e.symm).1; omega)
  have k0 := (World.cell?_of_block (a := ⟨X, 0, none⟩) hb).trans h.c0
  have k1 := (World.cell?_of_block (a := ⟨X, 1, none⟩) hb).trans h.c1
  have k2 := (World.cell?_of_block (a := ⟨X, 2, none⟩) hb).trans h.c2
  have f1 := (World.frozen?_of_block (a := ⟨X, 1, none⟩) hb).trans h.z1
  have f2 := (World.frozen?_of_block (a := ⟨X, 2, none⟩) hb).trans h.z2
  exact ⟨k1, f1, ⟨by rw [size_setCell]; exact Nat.lt_of_lt_of_le h.lt hg.size, by rw [World.cell?_setCell_other _ _ _ _ (by intro e; cases e)]; exact k0, World.cell?_setCell_same _ _ _ k1, by rw [World.cell?_setCell_other _ _ _ _ (by intro e; cases e)]; exact k2, by rw [frozen_setCell]; exact f1, by rw [frozen_setCell]; exact f2, ownsRow_setCell_other ho _ (Nat.lt_succ_self _) _⟩⟩
theorem Rp.pop {w : World} {X d g c : Nat} {box fl : Bool} (h : Rp w X box (.slice (some ⟨g, 0, none⟩) (d + 1) c) (d + 1) fl) : Rp (w.setCell ⟨X, 1, none⟩ (.slice (some ⟨g, 0, none⟩) d c)).drew X box (.slice (some ⟨g, 0, none⟩) d c) d fl := by
  have ho := ownsRow_shrink h.own (k := d) (by omega)
  rw [uptoV_take] at ho
  exact (h.setUsed ho).below (drw _)
theorem push_exc {w w1 : World} {X : Nat} {uv v' : Value} {o : Obj} (hg : (w.alloc o).grownBy w1 uv.ownBlock) : Exc (KX X uv) w (w1.setCell ⟨X, 1, none⟩ v') :=
  ((Exc.of_below (K := KX X uv) (alc w o)).trans (Exc.grown (K := KX X uv) hg (fun k hk hK => hK.2 hk)) (fun i hi hK => hK)).trans (Exc.setCell (K := KX X uv) fun hK => hK.1 rfl) (fun i hi hK => hK)
theorem push_loc {w : World} {uv v' : Value} (hl : v'.ownBlock = uv.ownBlock ∨ v'.ownBlock = some (w.heap.size + 1)) : ∀ c, v'.ownBlock = some c → uv.ownBlock = some c ∨ w.heap.size ≤ c := fun c h => by
  rcases hl with e | e
  · exact Or.inl (e.symm.trans h)
  · rw [e] at h
    have := Option.some.inj h
    exact Or.inr (by omega)
theorem up_push {w : World} {X d : Nat} {v : Value} (h : w.ownsRow X 2 1 v (d + 1) (uptoV d ++ [.int .i64 (d : Int)])) : w.ownsRow X 2 1 v (d + 1) (uptoV (d + 1)) := by rw [uptoV_succ]; exact h
set_option maxRecDepth 100000 in
set_option maxHeartbeats 1600000 in
theorem of_star (box : Bool) (x y1 : Rg) (k1 : FRg) (hk0 : x.kind = 3) (hlen : (FRg.cons y1 k1 .nil).flat.length ≤ 10000) (h1 : OfA box y1 k1) : Of0 box x (.cons y1 k1 .nil) := by
  intro b X d vf uv f w hF hN hf0 hf hd hR
  obtain ⟨i0, hi, hz0, hz1, hz2⟩ := info_parts infoNd
  have HF := Lib.hid hF
  have HN := Lib.hid hN
  have HRp := Lib.hid hR
  obtain ⟨hKb, hbl, g0, g1, g2⟩ := hF.leaf
  obtain ⟨hX, c0, c1, c2, z1, z2, ho⟩ := hR
  rw [hk0] at g0
  obtain ⟨j0, hj, hy0, hy1', hy2'⟩ := info_parts infoI64
  obtain ⟨b2, o2, cp, p1, q3, hcp, hK2, hb2, r1, F1⟩ := HF.out.kids1
  have hfl : (FRg.cons y1 k1 .nil).flat.length = 1 + k1.flat.length := by simp [FRg.flat]; omega
  rw [hfl] at hlen ⊢
  obtain ⟨R, hRd⟩ : ∃ R, R = opMI box x (FRg.fold (opMI box) (.cons y1 k1 .nil)) f d := ⟨_, rfl⟩
  rw [← hRd]
  obtain ⟨R1, hR1⟩ : ∃ R, R = opMI box y1 (FRg.fold (opMI box) k1) (mVar d) (d + 1) := ⟨_, rfl⟩
  have HRR : Hid (R = if 3 ≤ d then none else R1.map fun y => mStar box d f y) := Lib.hid (by rw [hRd, opMI_star hk0 hf, hR1]; rfl)
  have HR1 := Lib.hid hR1
  have H1 := Lib.hid h1
  have HF1 := Lib.hid F1
  obtain ⟨a, cap, rfl⟩ := HN.out.rd.slice
  obtain ⟨auv, cuv, rfl⟩ := owned_slice HRp.out.own
  obtain ⟨L, hL⟩ : ∃ L, L = f.length := ⟨_, rfl⟩
  have HL := Lib.hid hL
  rw [← hL] at hf hf0 HN ⊢
  have h30 : decide ((30 : Int) < (L : Int)) = false := decide_eq_false (by omega)
  have HRd : Hid (RdI w (.slice auv d cuv) (upto d)) := Lib.hid HRp.out.rd
  clear hF hRd hR1 h1 F1 g1 g2 hL ho hk0 hfl
  go_enter Tryz.func75, Tryz.ntmps75
  go_wp2_with fail
  go_loop [7] (fun sv => ∃ v : Nat, v ≤ d ∧ sv = .int .i64 v) (fun sv => d - (intOf sv).toNat)
  case atStart => exact ⟨0, Nat.zero_le _, rfl⟩
  case round =>
    obtain ⟨v, hvd, rfl⟩ := hrel
    by_cases hlt : v < d
    · go_wp2_with fail
      refine (slicesContainsI_any _ (upto d) v _ HRd.out).mono ?_
      rw [hasI_lt hlt]
      rintro e w' ⟨rfl, rfl⟩
      go_wp2_with fail
      go_round
      case rel => exact ⟨v + 1, by omega, by go_num⟩
      case measure => simp [intOf]; omega
    · obtain rfl : v = d := by omega
      go_wp2_with fail
      refine (slicesContainsI_any _ (upto v) v _ HRd.out).mono ?_
      rw [hasI_ge (Nat.le_refl _)]
      rintro e w' ⟨rfl, rfl⟩
      by_cases h3 : 3 ≤ v
      · have h3b : decide ((3 : Int) ≤ (v : Int)) = true := decide_eq_true (by omega)
        have hRn : R = none := by rw [HRR.out, if_pos h3]
        subst hRn
        go_wp2_with fail
        go_ret
        exact ⟨_, _, [], rfl, NdK_nil _ _, ownil _ _, Nat.zero_le _, (fun y h => by cases h), HRp.out.setFull true, Exc.setCell (fun h => h.1 rfl), fun c h => Or.inl h⟩
      · have h3b : decide ((3 : Int) ≤ (v : Int)) = false := decide_eq_false (by omega)
        have HR3 : Hid (R = R1.map fun y => mStar box v f y) := Lib.hid (by rw [HRR.out, if_neg h3])
        have hv3 : v < 3 := by omega
        have HO := Lib.hid HRp.out.own
        have hX1 : X + 1 ≤ w.heap.size := hX
        clear HRR hlt hvd h3 HRd
        go_wp2_with (at_builtin; refine wpList_append_own_at _ rfl _ _ 47 rfl (X + 1) 2 j0 (.int .i64 0) 1 8 Tryz.underlying47 hj hy0 hy1' hy2' rfl (by decide) _ v (uptoV v) rfl (HO.out.alloc _) ⟨_, 0, none⟩ 1 1 [.int .i64 (v : Int)] rfl rfl (new_cell _ _ _ _ (by simp)) (by intro u hu; simp at hu; subst hu; rfl) ?c2 ?c3 ?c4 ?_)
        case c2 => unfold maxLen; omega
        case c3 => omega
        case c4 => simp; omega
        intro v' w1 hown' hgrow hnil hloc
        obtain ⟨av', cv', rfl⟩ := owned_slice hown'
        obtain ⟨k1', z1', HR2⟩ := (HRp.out.below (alc w _)).push hgrow (up_push hown')
        have HE2 := push_exc (X := X) (v' := .slice av' (v + 1) cv') hgrow
        have HG2 := push_loc hloc
        have HFt := HF1.out.exc HE2 HG2
        have HNf := HN.out.exc HE2 HG2
        have s3 := HE2.cellv q3 hKb
        have s4 := HE2.cellv r1 hK2
        clear hown' hgrow hnil hloc
        go_wp2_with fail
        have hA := alc (w1.setCell ⟨X, 1, none⟩ (.slice av' (v + 1) cv')) (.cells #[.int .i64 6, .int .i64 (v : Int), .string ByteArray.empty, .bool false] 65)
        refine (H1.out p1 X (v + 1) _ _ (mVar v) false _ (HFt.below hA) (nk_new HR2 (by rw [size_setCell]) rfl) (fun _ => by simp [mVar]) (by simp [mVar]) (by omega) (HR2.below hA)).mono ?_
        rw [if_neg Bool.false_ne_true, ← HR1.out]
        rintro e w3 ⟨u3, uv3, l3, rfl, hN3, hW3, hl3, hy3, hR3, hE3, hg3⟩
        obtain ⟨au3, cu3, rfl⟩ := hN3.rd.slice
        obtain ⟨auv3, cuv3, rfl⟩ := owned_slice hR3.own
        obtain ⟨g, rfl, hg1, hgc⟩ := owned_pos hR3.own (Nat.succ_pos _)
        have hE3w := norm1 hA hE3
        have hg3w := normg hA hg3
        have HE13 := HE2.trans hE3w (fun i hi hK => kx_up hK HG2 hi)
        have hsz := HE2.size
        have HG3 : ∀ c, (Value.slice (some ⟨g, 0, none⟩) (v + 1) cuv3).ownBlock = some c → (Value.slice auv v cuv).ownBlock = some c ∨ w.heap.size ≤ c := fun c h => by
          rcases hg3w c h with h | h
          · exact HG2 c h
          · exact Or.inr (Nat.le_trans hsz h)
        have HNf3 := HNf.exc hE3w hg3w
        have HN3 := ndk_kxw HR2.lt hA hN3
        have t1 := hR3.c1
        have t2 := hR3.z1
        have hI1 : ((v + 1 : Nat) : Int) - 1 = (v : Int) := by omega
        have hI2 : v ≤ cuv3 := by omega
        have hvv : (0 : Int) ≤ (v : Int) := by omega
        have HR3' := Lib.hid hR3
        clear hN3 hW3 hE3 hg3 hE3w hg3w HNf HE2 HG2 HFt HR2 s3 s4 hA k1' z1' hR3
        go_wp2_with fail
        go_region
        have HR4 := HR3'.out.pop
        have HE34 : Exc (KX X (.slice (some ⟨g, 0, none⟩) v cuv3)) w3 (w3.setCell ⟨X, 1, none⟩ (.slice (some ⟨g, 0, none⟩) v cuv3)).drew := (Exc.setCell fun hK => hK.1 rfl).trans (Exc.of_below (drw _)) (fun i hi hK => hK)
        have HN4 := (show NdK w3 (KX X (.slice (some ⟨g, 0, none⟩) v cuv3)) _ l3 from HN3).exc HE34 (fun c h => Or.inl h)
        have HF4 := (show NdK w3 (KX X (.slice (some ⟨g, 0, none⟩) v cuv3)) _ f from HNf3).exc HE34 (fun c h => Or.inl h)
        have HE14 := HE13.trans HE34 (fun i hi hK => kx_up (uv' := .slice (some ⟨g, 0, none⟩) v cuv3) hK HG3 hi)
        clear HE34 HN3 HNf3 HE13 t1 t2 HR3' hg1
        generalize (w3.setCell ⟨X, 1, none⟩ (.slice (some ⟨g, 0, none⟩) v cuv3)).drew = w4 at *
        obtain ⟨E1, hE1⟩ : ∃ E, E = xKind box := ⟨_, rfl⟩
        obtain ⟨E2, hE2⟩ : ∃ E, E = eKind box := ⟨_, rfl⟩
        have HX1 : Hid ((if box = true then (8 : Int) else 7) = E1) := Lib.hid (by rw [hE1]; rfl)
        have HX2 : Hid ((if box = true then (2 : Int) else 3) = E2) := Lib.hid (by rw [hE2]; rfl)
        obtain ⟨Y, hY⟩ : ∃ Y : List Nd, Y = [⟨E1, (v : Int), ByteArray.empty, false⟩, ⟨E2, 0, ByteArray.empty, false⟩] := ⟨_, rfl⟩
        have HM : Hid (∀ z, mStar box v f z = (Y ++ f) ++ z) := Lib.hid (fun z => by rw [hY, hE1, hE2]; rfl)
        have hYl : Y.length = 2 := by rw [hY]; rfl
        have HYc : Hid ((#[.int .i64 E1, .int .i64 (v : Int), .string ByteArray.empty, .bool false, .int .i64 E2, .int .i64 0, .string ByteArray.empty, .bool false] : Array Value).toList = ndCells Y) := Lib.hid (by rw [hY]; simp [ndCells, List.range, List.range.loop, ndc, ndv, ndnth])
        have k0 := HR4.c0
        clear hE1 hE2 hY
        go_wp2_with fail
        refine (repKind_at X box 7 8 E1 _ HX1.out k0).mono ?_
        rintro e w5 ⟨rfl, rfl⟩
        go_wp2_with fail
        refine (repKind_at X box 3 2 E2 _ HX2.out k0).mono ?_
        rintro e w5 ⟨rfl, rfl⟩
        go_wp2_with fail
        have hA4 := alc w4 (.cells #[.int .i64 E1, .int .i64 (v : Int), .string ByteArray.empty, .bool false, .int .i64 E2, .int .i64 0, .string ByteArray.empty, .bool false] 65)
        refine (concat3 (f1 := Y) (f2 := f) (f3 := l3) (by simp) (rd_nds2 rfl hYl.symm HYc.out (by rw [hYl]; unfold maxLen; decide)) (HF4.rd.below hA4) (HN4.rd.below hA4) (by have := HL.out; omega)).mono ?_
        rintro e w9 ⟨u9, rfl, hO9, hb9⟩
        have hb49 := below_trans' hA4 hb9
        have HO9 : Hid (NdK w9 (fun c => w.heap.size ≤ c ∧ (Value.slice (some ⟨g, 0, none⟩) v cuv3).ownBlock ≠ some c) u9 ((Y ++ f) ++ l3)) := Lib.hid (ndk_own HR4 (Ow.mono hO9 hA4.size) HE14.size)
        have HW9 : Hid (OwNd w9 w.heap.size u9 ((Y ++ f) ++ l3)) := Lib.hid (Ow.mono hO9 (Nat.le_trans HE14.size hA4.size))
        have HE19 : Hid (Exc (KX X (.slice auv v cuv)) w w9) := Lib.hid (HE14.trans (Exc.of_below (K := KX X (.slice auv v cuv)) hb49) (fun i hi hK => hK))
        have HYR : Hid ((∀ y, R = some y → (Y ++ f) ++ l3 = y) ∧ Rp w9 X box (.slice (some ⟨g, 0, none⟩) v cuv3) v R.isNone) := Lib.hid (by
          have hR9 := HR4.below hb49
          cases R1 with
          | none =>
            have e : R = none := HR3.out
            rw [e]
            exact ⟨(fun y h => by cases h), hR9⟩
          | some p =>
            have e1 := hy3 p rfl
            subst e1
            have e : R = some (mStar box v f l3) := HR3.out
            rw [e, HM.out]
            exact ⟨fun y h => Option.some.inj h, hR9⟩)
        have hlen2 : ((Y ++ f) ++ l3).length ≤ 32 * (1 + (1 + k1.flat.length)) := by have := HL.out; simp only [List.length_append]; omega
        have HG := Lib.hid HG3
        clear hO9 hb9 hb49 HE14 HR4 HN4 HF4 hy3 HG3
        go_wp2_with fail
        go_ret
        exact ⟨_, _, _, rfl, HO9.out, HW9.out, hlen2, HYR.out.1, HYR.out.2, HE19.out, HG.out⟩
end Go.Proofs.YtcakmchefbohoaaGreatDoor
