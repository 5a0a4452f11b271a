/- Contracts: words of a regular expression, by the program: the ends of a star; all expressions. -/
import Derived.Test.YtcakmchefbohoaaGreatDoorProg
import Derived.Test.YtcakmchefbohoaaGreatDoorMem
import Derived.Test.YtcakmchefbohoaaGreatDoorMath
import Derived.Test.YtcakmchefbohoaaGreatDoorBasics
import Derived.Test.YtcakmchefbohoaaGreatDoorOpenI
import Derived.Test.YtcakmchefbohoaaGreatDoorHelpI
import Derived.Test.YtcakmchefbohoaaGreatDoorGrid
import Derived.Test.YtcakmchefbohoaaGreatDoorLab
import Derived.Test.YtcakmchefbohoaaGreatDoorEnv
import Derived.Test.YtcakmchefbohoaaGreatDoorRLab
import Derived.Test.YtcakmchefbohoaaGreatDoorDec
import Derived.Test.YtcakmchefbohoaaGreatDoorReg
import Derived.Test.YtcakmchefbohoaaGreatDoorVReg
import Derived.Test.YtcakmchefbohoaaGreatDoorTreeR
import Derived.Test.YtcakmchefbohoaaGreatDoorConc
import Derived.Test.YtcakmchefbohoaaGreatDoorEmp
import Derived.Test.YtcakmchefbohoaaGreatDoorPart
import Derived.Test.YtcakmchefbohoaaGreatDoorSel
import Derived.Test.YtcakmchefbohoaaGreatDoorMwP
import Derived.Test.YtcakmchefbohoaaGreatDoorMwS
import Derived.Test.YtcakmchefbohoaaGreatDoorRgs
import Derived.Test.YtcakmchefbohoaaGreatDoorShelf2
import Derived.Test.YtcakmchefbohoaaGreatDoorMwI
import Derived.Test.YtcakmchefbohoaaGreatDoorMwX
import Derived.Test.YtcakmchefbohoaaGreatDoorMwE
import Derived.WalkKit
import Derived.BigQuiet
import Derived.BigRegion
import Derived.Deep.QuietTactic
import Derived.Deep.RegionHeld3
import Derived.Deep.RegionLaw
import Derived.Deep.AppendLies
import Derived.Maps.AppendAt
import Derived.Laws.OwnMore
import Derived.Lib.SliceRun
import Derived.Lib.Hide
import Derived.Outline
set_option linter.unusedVariables false
set_option linter.unusedSimpArgs false
namespace Go.Proofs.YtcakmchefbohoaaGreatDoor
open Go.RowKit

def slLen : Value → Nat
  | .slice _ n _ => n
  | _ => 0
theorem cloneI_any (v : Value) (l : List Int) (w : World) (hn : l.length ≤ 1048576) (hv : RdI w v l) :
    Calls Tryz.prog 86 #[v] w fun e w' => ∃ u, e = .returned u ∧ OwI w' w.heap.size u l ∧ Below w.heap.size w w' := by
  obtain ⟨a, cap, rfl, hcap, hcm, hv⟩ := hv
  by_cases h0 : l = []
  · subst h0
    cases a with
    | none =>
      refine (Tryz_slices_Clone_int_nil 0 cap w).mono ?_
      rintro e w1 ⟨rfl, rfl⟩
      exact ⟨_, rfl, OwI_nil _ _, Below.refl _ _⟩
    | some ad =>
      refine (Tryz_slices_Clone_int_zero ad cap w).mono ?_
      rintro e w1 ⟨u, rfl, ho, _, hb1⟩
      exact ⟨u, rfl, ownsRow_owI (zs := []) ho, hb1⟩
  · have hp : 0 < l.length := List.length_pos_iff.2 h0
    obtain ⟨b, o, rfl, hb, hc⟩ := hv hp
    refine (Tryz_slices_Clone_int b o l.length cap l w (Nat.le_refl _) (by omega) (fun j hj => hc j (by omega))).mono ?_
    rintro e w1 ⟨u, rfl, ho, _, hb1⟩
    rw [List.take_length] at ho
    exact ⟨u, rfl, ownsRow_owI ho, hb1⟩
set_option maxRecDepth 100000 in
set_option maxHeartbeats 1600000 in
theorem ends_star (L : List ByteArray) (x y1 : Rg) (k1 : FRg) (hk0 : x.kind = 3) (HL : LabsOk L) (h1 : Ends1 L y1 k1) : Ends1 L x (.cons y1 k1 .nil) := by
  intro b bn bl vf vl S K w hF hS hv hC hT
  have HF := Lib.hid hF
  have HV := Lib.hid hv
  have HC := Lib.hid hC
  have HT := Lib.hid hT
  obtain ⟨hKb, hbl, g0, g1, g2⟩ := hF.leaf
  rw [hk0] at g0
  have hS65 : S.length ≤ 65 := by have := HL.len; omega
  obtain ⟨b2, o2, cp, p1, q3, hcp, hK2, hb2, r1, F1⟩ := HF.out.kids1
  have HF1 := Lib.hid F1
  have H1 := Lib.hid h1
  obtain ⟨F, hFe⟩ : ∃ F : EV, F = opX L y1 (FRg.fold (opX L) k1) := ⟨_, rfl⟩
  have hFl : Hid (∀ T, (F T).length = T.length) := Lib.hid (fun T => by rw [hFe]; exact opX_len L (.cons y1 k1 .nil) 0 T)
  have HFe := Lib.hid hFe
  have HR : Hid (asc (opX L x (FRg.fold (opX L) (.cons y1 k1 .nil)) S) = asc (iterB F S.length S)) := Lib.hid (by rw [opX_star hk0, hFe]; rfl)
  rw [HR.out]
  have hal := asc_le S
  have hcS : S.count true ≤ S.length := List.count_le_length
  clear hF hv hC hT hk0 hFe h1 F1
  go_enter Tryz.func50, Tryz.ntmps50
  go_wp2_with fail
  refine (cloneI_any _ (asc S) _ (by omega) HV.out).mono ?_
  rintro e w1 ⟨u0, rfl, hO0, hb1⟩
  have HO0 := Lib.hid hO0
  clear hO0
  go_wp2_with fail
  go_loopw [7] (fun so wr => ∃ (j : Nat) (T : List Bool), Hid (T = iterB F j S) ∧ j ≤ T.count true ∧ T.length = S.length ∧ Hid (OwI wr w.heap.size so (asc T)) ∧ Below w.heap.size w wr) (fun so _ => S.length - slLen so)
  case atStart => exact ⟨0, S, Lib.hid rfl, Nat.zero_le _, rfl, HO0, hb1⟩
  case round =>
    clear HO0 hb1
    obtain ⟨j, T, HTj, hj, hTl, HO, hbr⟩ := hrel
    obtain ⟨a5, c5, rfl⟩ := HO.out.rd.slice
    obtain ⟨q, hq⟩ : ∃ q, q = (asc T).length := ⟨_, rfl⟩
    have hqc : q = T.count true := by rw [hq, asc_len]
    have hcl : T.count true ≤ T.length := List.count_le_length
    have hqS : q ≤ S.length := by omega
    have hjS : j ≤ q := by omega
    rw [← hq] at HO ⊢
    have s3 := cell_up q3 hbr
    have s4 := cell_up r1 hbr
    obtain ⟨V, hV⟩ : ∃ V, V = F T := ⟨_, rfl⟩
    have hVl : V.length = T.length := by rw [hV]; exact hFl.out T
    obtain ⟨W2, hW2⟩ : ∃ W2, W2 = stepB F T := ⟨_, rfl⟩
    have hWo : orB T V = W2 := by rw [hW2, hV]; rfl
    have hWl : W2.length = T.length := by rw [hW2]; exact stepB_len F T
    have hWc : W2 = T ∨ T.count true < W2.count true := by
      by_cases h : W2 = T
      · exact Or.inl h
      · exact Or.inr (by rw [hW2] at h ⊢; exact stepB_more F h)
    have HQC := Lib.hid hqc
    have hqT : (asc T).length ≤ S.length := by omega
    have HV2 := Lib.hid hV
    have HW2 := Lib.hid hW2
    have HWo := Lib.hid hWo
    have hqV := asc_le V
    obtain ⟨Z, hZ⟩ : ∃ Z, Z = asc T ++ asc V := ⟨_, rfl⟩
    have HZ := Lib.hid hZ
    have hqW : (asc W2).length = W2.count true := asc_len W2
    have hWle : W2.count true ≤ W2.length := List.count_le_length
    clear hq hqc hV hW2 hWo hZ
    have HWc := Lib.hid hWc
    have HqW := Lib.hid hqW
    have HTl := Lib.hid hTl
    have hTS : T.length ≤ S.length := by omega
    have HVl := Lib.hid hVl
    have HWl := Lib.hid hWl
    have hqV2 : (asc V).length ≤ S.length := by omega
    clear hWc hqW hTl hVl hWl
    go_wp2_with fail
    refine (H1.out p1 bn bl _ vl T K _ (HF1.out.below hbr) (by rw [HTl.out]; exact hS) HO.out.rd (HC.out.below hbr) (HT.out.below hbr)).mono ?_
    rw [← HFe.out, ← HV2.out]
    rintro e w2 ⟨u1, rfl, hO1, hb2w⟩
    obtain ⟨a1, c1, rfl⟩ := hO1.rd.slice
    have hbr2 := below_trans' hbr hb2w
    have HO1 := Lib.hid hO1
    have HOT : Hid (RdI w2 (.slice a5 q c5) (asc T)) := Lib.hid (HO.out.rd.below hb2w)
    clear hO1
    go_wp2_with fail
    refine (concatI2 (l1 := asc T) (l2 := asc V) (by simp) HOT.out HO1.out.rd (by omega)).mono ?_
    rw [← HZ.out]
    rintro e w3 ⟨u2, rfl, hO2, hb3⟩
    obtain ⟨a2, c2, rfl⟩ := hO2.rd.slice
    have hbr3 := below_trans' hbr2 hb3
    have HO2 := Lib.hid hO2
    clear hO2
    go_wp2_with fail
    refine (sorted_two _ T V _ HVl.out (by omega) (by rw [← HZ.out]; exact HO2.out.rd)).mono ?_
    rw [HWo.out]
    rintro e w4 ⟨u3, rfl, hO3, hb4⟩
    obtain ⟨a3, c3, rfl⟩ := hO3.rd.slice
    have hbr4 := below_trans' hbr3 hb4
    have HO3 : Hid (OwI w4 w.heap.size (.slice a3 (asc W2).length c3) (asc W2)) := Lib.hid (hO3.mono' hbr3.size)
    have HOT4 : Hid (RdI w4 (.slice a5 q c5) (asc T)) := Lib.hid (HOT.out.below (below_trans' hb3 hb4))
    obtain ⟨q2, hq2⟩ : ∃ q2, q2 = (asc W2).length := ⟨_, rfl⟩
    rw [← hq2] at HO3 ⊢
    have HqW2 : Hid (q2 = W2.count true) := Lib.hid (by rw [hq2]; exact HqW.out)
    have HTW : Hid (W2.length = S.length) := Lib.hid (HWl.out.trans HTl.out)
    clear hO3 hq2
    rcases HWc.out with hWe | hWm
    · have hqe : ((q2 : Int) == (q : Int)) = true := by
        have h1 := HqW2.out
        have h2 := HQC.out
        rw [hWe] at h1
        simp; omega
      have HDone : Hid (asc (iterB F S.length S) = asc T) := Lib.hid (by
        have e1 : stepB F (iterB F j S) = iterB F j S := by rw [← HTj.out, ← HW2.out, hWe]
        rw [iterB_done F e1 (by omega), ← HTj.out])
      clear hWe HQC HqW2
      go_wp2_with fail
      refine (sorted_again _ T _ (by omega) HOT4.out).mono ?_
      rintro e w5 ⟨u5, rfl, hO5, hb5⟩
      have HO5 : Hid (OwI w5 w.heap.size u5 (asc (iterB F S.length S))) := Lib.hid (by rw [HDone.out]; exact hO5.mono' hbr4.size)
      clear hO5
      go_wp2_with fail
      go_ret
      exact ⟨_, rfl, HO5.out, below_trans' hbr4 hb5⟩
    · have hqe : ((q2 : Int) == (q : Int)) = false := by
        have h1 := HqW2.out
        have h2 := HQC.out
        simp; omega
      have hqq : q < q2 := by
        have h1 := HqW2.out
        have h2 := HQC.out
        omega
      have hq2S : q2 ≤ S.length := by
        have h1 := HqW2.out
        have h2 := HTW.out
        omega
      have HTj2 : Hid (W2 = iterB F (j + 1) S) := Lib.hid (by rw [HW2.out, HTj.out]; rfl)
      go_wp2_with fail
      go_roundw
      case rel => exact ⟨j + 1, W2, HTj2, by have := HqW2.out; omega, HTW.out, by have h := HO3.out; exact Lib.hid h, hbr4⟩
      case measure => simp [slLen] <;> omega
theorem ends_aux (L : List ByteArray) (HL : LabsOk L) : ∀ (N : Nat) (x : Rg) (k : FRg), k.flat.length < N → FRg.ok (.cons x k .nil) → (∀ z ∈ x :: k.flat, inR z.kind 0 3 = true ∧ z.lab.size ≤ 1048576) → Ends1 L x k := by
  intro N
  induction N with
  | zero => intro x k h; exact absurd h (by omega)
  | succ N ih =>
    intro x k hN hok hkd
    have hx := inR_true (hkd x (List.mem_cons_self ..)).1
    have hxl := (hkd x (List.mem_cons_self ..)).2
    have hc : x.kind = 0 ∨ x.kind = 1 ∨ x.kind = 2 ∨ x.kind = 3 := by omega
    have hr := hok.1
    rcases hc with h | h | h | h
    · exact ends_test L x k h hxl HL
    all_goals first | rw [rarity_two (Or.inl h)] at hr | rw [rarity_two (Or.inr h)] at hr | rw [rarity_one h] at hr
    · obtain ⟨y1, k1, y2, k2, rfl⟩ := FRg.two_of (G := k) (by omega)
      have hf : (FRg.cons y1 k1 (.cons y2 k2 .nil)).flat = y1 :: (k1.flat ++ (y2 :: k2.flat)) := by simp [FRg.flat]
      have hl := congrArg List.length hf
      simp only [List.length_cons, List.length_append] at hl
      obtain ⟨o1, o2, o3⟩ := hok.2.1
      refine ends_then L x y1 y2 k1 k2 h HL (ih y1 k1 (by omega) ⟨o1, o2, trivial⟩ (fun z hz => hkd z ?_)) (ih y2 k2 (by omega) ⟨o3.1, o3.2.1, trivial⟩ (fun z hz => hkd z ?_))
      · rw [hf]; simp at hz ⊢; rcases hz with e | e
        · exact Or.inr (Or.inl e)
        · exact Or.inr (Or.inr (Or.inl e))
      · rw [hf]; simp at hz ⊢; rcases hz with e | e
        · exact Or.inr (Or.inr (Or.inr (Or.inl e)))
        · exact Or.inr (Or.inr (Or.inr (Or.inr e)))
    · obtain ⟨y1, k1, y2, k2, rfl⟩ := FRg.two_of (G := k) (by omega)
      have hf : (FRg.cons y1 k1 (.cons y2 k2 .nil)).flat = y1 :: (k1.flat ++ (y2 :: k2.flat)) := by simp [FRg.flat]
      have hl := congrArg List.length hf
      simp only [List.length_cons, List.length_append] at hl
      obtain ⟨o1, o2, o3⟩ := hok.2.1
      refine ends_either L x y1 y2 k1 k2 h HL (ih y1 k1 (by omega) ⟨o1, o2, trivial⟩ (fun z hz => hkd z ?_)) (ih y2 k2 (by omega) ⟨o3.1, o3.2.1, trivial⟩ (fun z hz => hkd z ?_))
      · rw [hf]; simp at hz ⊢; rcases hz with e | e
        · exact Or.inr (Or.inl e)
        · exact Or.inr (Or.inr (Or.inl e))
      · rw [hf]; simp at hz ⊢; rcases hz with e | e
        · exact Or.inr (Or.inr (Or.inr (Or.inl e)))
        · exact Or.inr (Or.inr (Or.inr (Or.inr e)))
    · obtain ⟨y1, k1, rfl⟩ := FRg.one_of (G := k) (by omega)
      have hf : (FRg.cons y1 k1 .nil).flat = y1 :: k1.flat := by simp [FRg.flat]
      have hl := congrArg List.length hf
      simp only [List.length_cons] at hl
      obtain ⟨o1, o2, o3⟩ := hok.2.1
      refine ends_star L x y1 k1 h HL (ih y1 k1 (by omega) ⟨o1, o2, trivial⟩ (fun z hz => hkd z ?_))
      rw [hf]; exact List.mem_cons_of_mem _ hz
end Go.Proofs.YtcakmchefbohoaaGreatDoor
