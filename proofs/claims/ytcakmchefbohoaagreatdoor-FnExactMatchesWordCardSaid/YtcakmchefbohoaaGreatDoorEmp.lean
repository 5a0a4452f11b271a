/- Contracts: whether the empty list is matched, of the program and of the reference. -/
import Derived.Test.YtcakmchefbohoaaGreatDoorProg
import Derived.Test.YtcakmchefbohoaaGreatDoorMem
import Derived.Test.YtcakmchefbohoaaGreatDoorMath
import Derived.Test.YtcakmchefbohoaaGreatDoorBasics
import Derived.Test.YtcakmchefbohoaaGreatDoorOpenI
import Derived.Test.YtcakmchefbohoaaGreatDoorHelpI
import Derived.Test.YtcakmchefbohoaaGreatDoorGrid
import Derived.Test.YtcakmchefbohoaaGreatDoorLab
import Derived.Test.YtcakmchefbohoaaGreatDoorDec
import Derived.Test.YtcakmchefbohoaaGreatDoorEnv
import Derived.Test.YtcakmchefbohoaaGreatDoorRLab
import Derived.Test.YtcakmchefbohoaaGreatDoorReg
import Derived.Test.YtcakmchefbohoaaGreatDoorRegW
import Derived.Test.YtcakmchefbohoaaGreatDoorVReg
import Derived.Test.YtcakmchefbohoaaGreatDoorTreeR
import Derived.WalkKit
import Derived.BigQuiet
import Derived.BigRegion
import Derived.Deep.QuietTactic
import Derived.Maps.AppendAt
import Derived.Laws.OwnMore
import Derived.Lib.SliceRun
import Derived.Lib.Hide
import Derived.Outline
set_option linter.unusedVariables false
set_option linter.unusedSimpArgs false
namespace Go.Proofs.YtcakmchefbohoaaGreatDoor
open Go.RowKit

def opE (x : Rg) (l : List Bool) : Bool := if x.kind = 1 then l.getD 0 false && l.getD 1 false else if x.kind = 2 then l.getD 0 false || l.getD 1 false else decide (x.kind = 3)
theorem isR_any (b : Nat) (k : Int) (kd : Int) (w : World) (hb : w.cell? ⟨b, 0, none⟩ = some (.int .i64 kd)) :
    Calls Tryz.prog 91 #[.pointer (some ⟨b, 0, none⟩), .int .i64 k] w fun e w' => e = .returned (.bool (decide (kd = k))) ∧ w = w' := by
  go_enter Tryz.func91, Tryz.ntmps91
  go_wp2_with fail
  go_ret
  exact ⟨rfl, rfl⟩
theorem FAtRg.head {w : World} {K : Nat → Prop} {y : Rg} {kk nx : FRg} {p : Value} {ps : List Value} (h : FAtRg w K (.cons y kk nx) (p :: ps)) : FAtRg w K (.cons y kk .nil) [p] ∧ FAtRg w K nx ps ∧ ∃ b, p = .pointer (some ⟨b, 0, none⟩) := by
  obtain ⟨b', qs, v, ps', e, h1, h2, h3, h4, h5, h8, h9⟩ := h
  cases e
  exact ⟨⟨b', qs, v, [], rfl, h1, h2, h3, h4, h5, h8, rfl⟩, h9, b', rfl⟩
theorem FAtRg.cons_ps {w : World} {K : Nat → Prop} {y : Rg} {kk nx : FRg} {ps : List Value} (h : FAtRg w K (.cons y kk nx) ps) : ∃ p ps', ps = p :: ps' := by
  obtain ⟨b', qs, v, ps', e, _⟩ := h
  exact ⟨_, _, e⟩
theorem FRg.one_of {G : FRg} (h : G.len = 1) : ∃ y kk, G = .cons y kk .nil := by
  cases G with
  | nil => simp [FRg.len] at h
  | cons y kk nx =>
    cases nx with
    | nil => exact ⟨y, kk, rfl⟩
    | cons _ _ _ => simp [FRg.len] at h
theorem FRg.two_of {G : FRg} (h : G.len = 2) : ∃ y kk z k2, G = .cons y kk (.cons z k2 .nil) := by
  cases G with
  | nil => simp [FRg.len] at h
  | cons y kk nx =>
    obtain ⟨z, k2, rfl⟩ := FRg.one_of (G := nx) (by simp [FRg.len] at h; omega)
    exact ⟨y, kk, z, k2, rfl⟩
theorem rarity_two {k : Int} (h : k = 1 ∨ k = 2) : rarity k = 2 := by unfold rarity; rw [if_pos h]
theorem rarity_one {k : Int} (h : k = 3) : rarity k = 1 := by subst h; rfl
theorem validR_shape {f : List Rg} (h : validR f = true) : (∀ i, i < f.length → needR f i ≠ 0) ∧ needR f f.length = 0 := by
  unfold validR at h
  simp only [Bool.and_eq_true, decide_eq_true_eq] at h
  exact ⟨fun i hi => (h.1.1 i hi).1, h.1.2⟩
theorem validR_kind {f : List Rg} (h : validR f = true) (i : Nat) (hi : i < f.length) : inR (rgnth f i).kind 0 3 = true := by
  unfold validR at h
  simp only [Bool.and_eq_true, decide_eq_true_eq] at h
  have := (h.1.1 i hi).2
  unfold regNode at this
  simp only [Bool.and_eq_true] at this
  exact this.1.1
theorem ownsRow_shrink {w : World} {base e g n cap : Nat} {xs : List Value} (h : w.ownsRow base e 1 (.slice (some ⟨g, 0, none⟩) n cap) n xs) {k : Nat} (hk : k ≤ n) : w.ownsRow base e 1 (.slice (some ⟨g, 0, none⟩) k cap) k (xs.take k) := by
  obtain ⟨h1, h2⟩ := h
  rcases h2 with ⟨h2, _⟩ | ⟨g', cap', cur, e', hg, hh, hn, hm, hs, ht⟩
  · cases h2
  · cases e'
    refine ⟨by rw [List.length_take]; omega, Or.inr ⟨g, cap, cur, rfl, hg, hh, by omega, hm, hs, ?_⟩⟩
    rw [← ht, List.take_take]
    congr 1
    omega
theorem owned_pos {w : World} {B T sz : Nat} {a : Option Addr} {n cap : Nat} {xs : List Value} (h : w.ownsRow B T sz (.slice a n cap) n xs) (hn : 0 < n) : ∃ g, a = some ⟨g, 0, none⟩ ∧ B ≤ g ∧ n ≤ cap := by
  rcases h.2 with ⟨h2, _⟩ | ⟨g', cap', cur, e', hg, hh, hn', hm, hs, ht⟩
  · cases h2; omega
  · cases e'; exact ⟨g', rfl, hg, hn'⟩
end Go.Proofs.YtcakmchefbohoaaGreatDoor
