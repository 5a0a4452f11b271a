/- Contracts: words of a regular expression, by the program: what MatchesWord answers. -/
import Derived.Test.YtcakmchefbohoaaGreatDoorProg
import Derived.Test.YtcakmchefbohoaaGreatDoorMem
import Derived.Test.YtcakmchefbohoaaGreatDoorMath
import Derived.Test.YtcakmchefbohoaaGreatDoorBasics
import Derived.Test.YtcakmchefbohoaaGreatDoorOpenI
import Derived.Test.YtcakmchefbohoaaGreatDoorHelpI
import Derived.Test.YtcakmchefbohoaaGreatDoorGrid
import Derived.Test.YtcakmchefbohoaaGreatDoorLab
import Derived.Test.YtcakmchefbohoaaGreatDoorEnv
import Derived.Test.YtcakmchefbohoaaGreatDoorRLab
import Derived.Test.YtcakmchefbohoaaGreatDoorDec
import Derived.Test.YtcakmchefbohoaaGreatDoorReg
import Derived.Test.YtcakmchefbohoaaGreatDoorVReg
import Derived.Test.YtcakmchefbohoaaGreatDoorTreeR
import Derived.Test.YtcakmchefbohoaaGreatDoorConc
import Derived.Test.YtcakmchefbohoaaGreatDoorEmp
import Derived.Test.YtcakmchefbohoaaGreatDoorPart
import Derived.Test.YtcakmchefbohoaaGreatDoorSel
import Derived.Test.YtcakmchefbohoaaGreatDoorMwP
import Derived.Test.YtcakmchefbohoaaGreatDoorMwS
import Derived.Test.YtcakmchefbohoaaGreatDoorRgs
import Derived.WalkKit
import Derived.BigQuiet
import Derived.BigRegion
import Derived.Deep.QuietTactic
import Derived.Deep.RegionHeld3
import Derived.Deep.RegionLaw
import Derived.Deep.AppendLies
import Derived.Maps.AppendAt
import Derived.Laws.OwnMore
import Derived.Lib.SliceRun
import Derived.Lib.Hide
import Derived.Outline
set_option linter.unusedVariables false
set_option linter.unusedSimpArgs false
namespace Go.Proofs.YtcakmchefbohoaaGreatDoor
open Go.RowKit

/-- The set of the first place alone. -/
def startB (n : Nat) : List Bool := (List.range (n + 1)).map fun i => decide (i = 0)
theorem startB_len (n : Nat) : (startB n).length = n + 1 := by simp [startB]
theorem bnth_startB {n i : Nat} (h : i < n + 1) : bnth (startB n) i = decide (i = 0) := bnth_map _ _ h
theorem asc_startB (n : Nat) : asc (startB n) = [0] := (asc_unique (List.pairwise_singleton _ _) fun z => by
  rw [List.mem_singleton, mem_asc]
  constructor
  · rintro rfl
    exact ⟨0, rfl, by rw [bnth_startB (by omega)]; rfl⟩
  · rintro ⟨i, rfl, h⟩
    have hi := bnth_lt h
    rw [startB_len] at hi
    rw [bnth_startB hi] at h
    have := of_decide_eq_true h
    omega).symm
/-- Does an expression match a list of labels? Its code. -/
def mwRes (r : List Rg) (L : List ByteArray) : Bool := bnth (((FRg.fold (opX L) (FRg.build r)).getD 0 id) (startB L.length)) L.length
def mwOk (r : List Rg) (L : List ByteArray) : Bool := decide (L.length ≤ 64) && L.all labOk
def mwV (r : List Rg) (L : List ByteArray) : Bool := if validR r = true then (if mwOk r L = true then mwRes r L else false) else false
def mwC (r : List Rg) (L : List ByteArray) : Int := if validR r = true then (if mwOk r L = true then 0 else 2) else 1
theorem mw_bad {r : List Rg} {L : List ByteArray} (h : validR r = false) : mwV r L = false ∧ mwC r L = 1 := by unfold mwV mwC; rw [h]; exact ⟨rfl, rfl⟩
theorem mw_range {r : List Rg} {L : List ByteArray} (h : validR r = true) (h2 : mwOk r L = false) : mwV r L = false ∧ mwC r L = 2 := by unfold mwV mwC; rw [h, h2]; exact ⟨rfl, rfl⟩
theorem mw_good {r : List Rg} {L : List ByteArray} (h : validR r = true) (h2 : mwOk r L = true) : mwV r L = mwRes r L ∧ mwC r L = 0 := by unfold mwV mwC; rw [h, h2]; exact ⟨rfl, rfl⟩
theorem mwOk_long {r : List Rg} {L : List ByteArray} (h : 64 < L.length) : mwOk r L = false := by unfold mwOk; rw [decide_eq_false (by omega)]; rfl
theorem mwOk_short {r : List Rg} {L : List ByteArray} (h : L.length ≤ 64) : mwOk r L = L.all labOk := by unfold mwOk; rw [decide_eq_true h]; rfl
theorem mwRes_at {r : List Rg} {L : List ByteArray} {x : Rg} {kids : FRg} (hB : FRg.build r = .cons x kids .nil) : mwRes r L = bnth (opX L x (FRg.fold (opX L) kids) (startB L.length)) L.length := by unfold mwRes; rw [hB]; rfl
theorem valid_rg {r : List Rg} (h : validR r = true) (hls : ∀ i, i < r.length → (rgnth r i).lab.size ≤ 1048576) : ∀ z ∈ r, inR z.kind 0 3 = true ∧ z.lab.size ≤ 1048576 := by
  intro z hz
  obtain ⟨i, hi, rfl⟩ := List.getElem_of_mem hz
  rw [← rgnth_eq r i hi]
  exact ⟨validR_kind h i hi, hls i hi⟩
end Go.Proofs.YtcakmchefbohoaaGreatDoor
