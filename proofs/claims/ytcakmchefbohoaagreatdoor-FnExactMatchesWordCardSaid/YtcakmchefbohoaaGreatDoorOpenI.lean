/- How an argument of type []int64 is opened: it reads as a list of numbers. -/
import Derived.Test.YtcakmchefbohoaaGreatDoorRows
import Derived.Test.YtcakmchefbohoaaGreatDoorMem
import Derived.WalkKit
import Derived.ProofKit
import Derived.OpenShut
import Derived.ShutString
import Derived.ChangeOld
import Derived.Below
set_option linter.unusedVariables false
set_option linter.unusedSimpArgs false
namespace Go.Proofs.YtcakmchefbohoaaGreatDoor
open Go.ChangeShapes Go.WideShapes Go.ChangeAt Go.RowKit
/-- Numbers that fit 64 bits. -/
def I64s (xs : List Int) : Prop := ∀ x ∈ xs, -9223372036854775808 ≤ x ∧ x ≤ 9223372036854775807
theorem i64_of_wf {n : Int} (h : (Lit.int .i64 n).wf = true) : -9223372036854775808 ≤ n ∧ n ≤ 9223372036854775807 := by
  simp [Lit.wf, IntKind.min, IntKind.max, IntKind.bits, IntKind.signed] at h
  omega
set_option maxRecDepth 100000 in
theorem openI {H : Type} {enc : TypeId × Value → H} {W : World} {base lo : Nat} {v : Value} {d : DataW H} {p : List MemPlace} {may : Nat → Bool} {held : Bool}
    (hv : Value.okWide Tryz.prog W .any base 47 v) (h : DataW.Trod enc Tryz.prog W lo may held 47 v d p) (lt : ∀ x ∈ p, x.block < W.heap.size) : ∃ xs, RdI W v xs ∧ I64s xs := by
  obtain ⟨a, len, cap, rfl⟩ := okWide_slice Tryz.underlying47 hv
  obtain ⟨fuel, hf⟩ := h
  rcases open_ints Tryz.underlying47 Tryz.underlying2 (by kernel_rfl) hf with ⟨hcs, _⟩ | ⟨x, l, c, zs, hcs, _, hl, hm, hz, _, hcell, hwz⟩
  · simp [Value.cells] at hcs
    obtain ⟨rfl, rfl, rfl⟩ := hcs
    exact ⟨[], ⟨none, 0, rfl, Nat.le_refl _, Nat.zero_le _, fun h => absurd h (by simp)⟩, fun x h => by cases h⟩
  · simp [Value.cells] at hcs
    obtain ⟨rfl, rfl, rfl⟩ := hcs
    have hlz : len ≤ zs.length := by rw [hz]; split <;> omega
    have hn : (zs.take len).length = len := by simp; omega
    refine ⟨zs.take len, ?_, fun x h => i64_of_wf (hwz x (List.mem_of_mem_take h))⟩
    unfold RdI Rd
    rw [hn]
    refine ⟨_, cap, rfl, hl, hm, fun h0 => ?_⟩
    have c0 := hcell 0 (by omega)
    obtain ⟨b, o, spot⟩ := x
    have hs : spot = none := by
      cases spot with
      | none => rfl
      | some q =>
        exfalso
        simp [Addr.add, World.cell?] at c0
        split at c0 <;> cases c0
    subst hs
    refine ⟨b, o, rfl, World.block_lt_of_cell? _ _ (by simpa [Addr.add] using c0), fun i hi => ?_⟩
    have h1 := hcell i (by omega)
    rw [Addr.add_lit] at h1
    rw [h1, ic]
    simp [nth, List.getElem?_take, show i < len by omega]
end Go.Proofs.YtcakmchefbohoaaGreatDoor
