/- Contracts: the replacement of a regular modality, by the reference: all expressions. -/
import Derived.Test.YtcakmchefbohoaaGreatDoorProg
import Derived.Test.YtcakmchefbohoaaGreatDoorMem
import Derived.Test.YtcakmchefbohoaaGreatDoorMath
import Derived.Test.YtcakmchefbohoaaGreatDoorBasics
import Derived.Test.YtcakmchefbohoaaGreatDoorOpenI
import Derived.Test.YtcakmchefbohoaaGreatDoorHelpI
import Derived.Test.YtcakmchefbohoaaGreatDoorGrid
import Derived.Test.YtcakmchefbohoaaGreatDoorLab
import Derived.Test.YtcakmchefbohoaaGreatDoorDec
import Derived.Test.YtcakmchefbohoaaGreatDoorEnv
import Derived.Test.YtcakmchefbohoaaGreatDoorNode
import Derived.Test.YtcakmchefbohoaaGreatDoorNodeW
import Derived.Test.YtcakmchefbohoaaGreatDoorReg
import Derived.Test.YtcakmchefbohoaaGreatDoorVReg
import Derived.Test.YtcakmchefbohoaaGreatDoorTreeR
import Derived.Test.YtcakmchefbohoaaGreatDoorConc
import Derived.Test.YtcakmchefbohoaaGreatDoorNds
import Derived.Test.YtcakmchefbohoaaGreatDoorInst
import Derived.Test.YtcakmchefbohoaaGreatDoorModP
import Derived.Test.YtcakmchefbohoaaGreatDoorModE
import Derived.Test.YtcakmchefbohoaaGreatDoorModJ
import Derived.Test.YtcakmchefbohoaaGreatDoorModB
import Derived.Test.YtcakmchefbohoaaGreatDoorModS
import Derived.Test.YtcakmchefbohoaaGreatDoorModT
import Derived.Test.YtcakmchefbohoaaGreatDoorModU
import Derived.Test.YtcakmchefbohoaaGreatDoorModV
import Derived.Test.YtcakmchefbohoaaGreatDoorEmp
import Derived.WalkKit
import Derived.BigQuiet
import Derived.BigRegion
import Derived.Deep.QuietTactic
import Derived.Deep.RegionHeld3
import Derived.Deep.RegionLawGrows
import Derived.Deep.AppendLies
import Derived.Maps.AppendAt
import Derived.Laws.OwnMore
import Derived.Lib.SliceRun
import Derived.Lib.Hide
import Derived.Outline
set_option linter.unusedVariables false
set_option linter.unusedSimpArgs false
namespace Go.Proofs.YtcakmchefbohoaaGreatDoor
open Go.RowKit

set_option maxRecDepth 100000 in
theorem l20Modal_aux (box : Bool) : ∀ (N : Nat) (x : Rg) (k : FRg), k.flat.length < N → FRg.ok (.cons x k .nil) → (∀ z ∈ x :: k.flat, inR z.kind 0 3 = true) → (x :: k.flat).length ≤ 1048576 → Mod1 box x k := by
  intro N
  induction N with
  | zero => intro x k h; exact absurd h (by omega)
  | succ N ih =>
    intro x k hN hok hkd hlen
    have hx := inR_true (hkd x (List.mem_cons_self ..))
    have hc : x.kind = 0 ∨ x.kind = 1 ∨ x.kind = 2 ∨ x.kind = 3 := by omega
    have hr := hok.1
    have hkn : ∀ i, i < (x :: k.flat).length → inR (rgnth (x :: k.flat) i).kind 0 3 = true := fun i hi => by
      rw [rgnth_eq _ i hi]
      exact hkd _ (List.getElem_mem hi)
    rcases hc with h | h | h | h
    · exact modS_test box x k h hlen
    · rw [rarity_two (Or.inl h)] at hr
      obtain ⟨y1, k1, y2, k2, rfl⟩ := FRg.two_of (G := k) (by omega)
      have hf : (FRg.cons y1 k1 (.cons y2 k2 .nil)).flat = y1 :: (k1.flat ++ (y2 :: k2.flat)) := by simp [FRg.flat]
      have hl := congrArg List.length hf
      simp only [List.length_cons, List.length_append] at hl hlen hN
      obtain ⟨o1, o2, o3⟩ := hok.2.1
      refine modS_then box x y1 y2 k1 k2 h hok.2.1 hkn (by simp only [List.length_cons]; omega) (ih y1 k1 (by omega) ⟨o1, o2, trivial⟩ (fun z hz => hkd z ?_) (by simp only [List.length_cons]; omega)) (ih y2 k2 (by omega) ⟨o3.1, o3.2.1, trivial⟩ (fun z hz => hkd z ?_) (by simp only [List.length_cons]; omega))
      · rw [hf]; simp at hz ⊢; rcases hz with e | e
        · exact Or.inr (Or.inl e)
        · exact Or.inr (Or.inr (Or.inl e))
      · rw [hf]; simp at hz ⊢; rcases hz with e | e
        · exact Or.inr (Or.inr (Or.inr (Or.inl e)))
        · exact Or.inr (Or.inr (Or.inr (Or.inr e)))
    · rw [rarity_two (Or.inr h)] at hr
      obtain ⟨y1, k1, y2, k2, rfl⟩ := FRg.two_of (G := k) (by omega)
      have hf : (FRg.cons y1 k1 (.cons y2 k2 .nil)).flat = y1 :: (k1.flat ++ (y2 :: k2.flat)) := by simp [FRg.flat]
      have hl := congrArg List.length hf
      simp only [List.length_cons, List.length_append] at hl hlen hN
      obtain ⟨o1, o2, o3⟩ := hok.2.1
      refine modS_either box x y1 y2 k1 k2 h hok.2.1 hkn (by simp only [List.length_cons]; omega) (ih y1 k1 (by omega) ⟨o1, o2, trivial⟩ (fun z hz => hkd z ?_) (by simp only [List.length_cons]; omega)) (ih y2 k2 (by omega) ⟨o3.1, o3.2.1, trivial⟩ (fun z hz => hkd z ?_) (by simp only [List.length_cons]; omega))
      · rw [hf]; simp at hz ⊢; rcases hz with e | e
        · exact Or.inr (Or.inl e)
        · exact Or.inr (Or.inr (Or.inl e))
      · rw [hf]; simp at hz ⊢; rcases hz with e | e
        · exact Or.inr (Or.inr (Or.inr (Or.inl e)))
        · exact Or.inr (Or.inr (Or.inr (Or.inr e)))
    · rw [rarity_one h] at hr
      obtain ⟨y1, k1, rfl⟩ := FRg.one_of (G := k) (by omega)
      have hf : (FRg.cons y1 k1 .nil).flat = y1 :: k1.flat := by simp [FRg.flat]
      have hl := congrArg List.length hf
      simp only [List.length_cons] at hl hlen hN
      obtain ⟨o1, o2, o3⟩ := hok.2.1
      refine modS_star box x y1 k1 h (by simp only [List.length_cons]; omega) (ih y1 k1 (by omega) ⟨o1, o2, trivial⟩ (fun z hz => hkd z ?_) (by simp only [List.length_cons]; omega))
      rw [hf]; exact List.mem_cons_of_mem _ hz
end Go.Proofs.YtcakmchefbohoaaGreatDoor
