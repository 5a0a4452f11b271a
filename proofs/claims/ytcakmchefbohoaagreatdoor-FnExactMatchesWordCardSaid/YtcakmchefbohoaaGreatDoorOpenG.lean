/- How arguments are opened: slices whose elements are not plain numbers. -/
import Derived.Test.YtcakmchefbohoaaGreatDoorRows
import Derived.Test.YtcakmchefbohoaaGreatDoorMem
import Derived.Test.YtcakmchefbohoaaGreatDoorOpenI
import Derived.Test.YtcakmchefbohoaaGreatDoorGrid
import Derived.WalkKit
import Derived.Lib.LaidTab
import Derived.DataElems
import Derived.DataReads
import Derived.ProofKit
import Derived.OpenShut
import Derived.ShutString
import Derived.ChangeOld
import Derived.Below
set_option linter.unusedVariables false
set_option linter.unusedSimpArgs false
namespace Go.Proofs.YtcakmchefbohoaaGreatDoor
open Go.ChangeShapes Go.WideShapes Go.ChangeAt Go.RowKit

section
variable {H : Type} {enc : TypeId × Value → H} {P : Program} {W : World} {lo : Nat} {sp : Nat → Bool} {held : Bool}
/-- A slice that reads as data: its cells, and each element's own reading. -/
theorem open_gen {t e c fuel len cap : Nat} {a : Option Addr} {x : DataW H × List MemPlace} (ht : P.underlying t = some (.slice e)) (hc : P.cellsOf e = c) (hc0 : 0 < c)
    (h : DataW.trod enc P W lo sp held fuel t [.slice a len cap] = some x) :
    ∃ cs : Nat → Value, Rd W c (.slice a len cap) len cs ∧ ∃ n, ∀ i, i < len → ∃ y, DataW.trod enc P W lo sp held n e ((List.range c).map fun j => cs (i * c + j)) = some y := by
  rcases DataW.trod_slice ht h with ⟨h1, h2⟩ | ⟨ad, l, cp, elems, rest, n, h1, h2, h3, h4, h5, h6, h7, h8, _⟩
  · simp only [List.cons.injEq, Value.slice.injEq, and_true] at h1
    obtain ⟨rfl, rfl, rfl⟩ := h1
    exact ⟨fun _ => undef, ⟨none, 0, rfl, Nat.le_refl _, Nat.zero_le _, fun h => absurd h (by omega)⟩, 0, fun i hi => absurd hi (by omega)⟩
  · simp only [List.cons.injEq, Value.slice.injEq, and_true] at h2
    obtain ⟨rfl, rfl, rfl⟩ := h2
    subst hc
    have hel : ∀ i, i < len → ∃ cl y, W.cells? lo (ad.add (i * P.cellsOf e)) (P.cellsOf e) = some cl ∧ DataW.trod enc P W lo sp held n e cl = some y := by
      intro i hi
      have := h8 i hi
      rw [List.getElem?_eq_getElem (by omega)] at this
      cases hq : W.cells? lo (ad.add (i * P.cellsOf e)) (P.cellsOf e) with
      | none => rw [hq] at this; cases this
      | some cl => rw [hq] at this; exact ⟨cl, _, rfl, this⟩
    have hcell : ∀ k, k < len * P.cellsOf e → ∃ u, W.cell? (ad.add k) = some u := by
      intro k hk
      have hi : k / P.cellsOf e < len := Nat.div_lt_of_lt_mul (by rw [Nat.mul_comm]; exact hk)
      obtain ⟨cl, y, hcl, _⟩ := hel _ hi
      obtain ⟨_, hl, hj⟩ := World.cells?_some hcl
      have hm : k % P.cellsOf e < P.cellsOf e := Nat.mod_lt _ hc0
      have := hj _ hm
      rw [List.getElem?_eq_getElem (by omega), Addr.add_add] at this
      rw [show k / P.cellsOf e * P.cellsOf e + k % P.cellsOf e = k by rw [Nat.mul_comm]; exact Nat.div_add_mod _ _] at this
      exact ⟨_, this⟩
    obtain ⟨cs, hcs⟩ : ∃ cs : Nat → Value, ∀ k, k < len * P.cellsOf e → W.cell? (ad.add k) = some (cs k) := by
      refine ⟨fun k => (W.cell? (ad.add k)).getD undef, fun k hk => ?_⟩
      obtain ⟨u, hu⟩ := hcell k hk
      show _ = some ((W.cell? (ad.add k)).getD undef)
      rw [hu]; rfl
    refine ⟨cs, ⟨_, cap, rfl, h5, h6, fun h0 => ?_⟩, n, fun i hi => ?_⟩
    · obtain ⟨b, o, spot⟩ := ad
      have hpos : 0 < len * P.cellsOf e := Nat.mul_pos h0 hc0
      have c0 := hcs 0 hpos
      have hs : spot = none := by
        cases spot with
        | none => rfl
        | some q =>
          exfalso
          simp [Addr.add, World.cell?] at c0
          split at c0 <;> cases c0
      subst hs
      refine ⟨b, o, rfl, World.block_lt_of_cell? _ _ (by simpa [Addr.add] using c0), fun k hk => ?_⟩
      have := hcs k hk
      rwa [Addr.add_lit] at this
    · obtain ⟨cl, y, hcl, hy⟩ := hel i hi
      obtain ⟨_, hl, hj⟩ := World.cells?_some hcl
      have e : cl = (List.range (P.cellsOf e)).map fun j => cs (i * P.cellsOf e + j) := by
        refine List.ext_getElem? fun j => ?_
        by_cases hj' : j < P.cellsOf e
        · rw [← hj j hj', Addr.add_add, hcs _ (by
            have : (i + 1) * P.cellsOf e ≤ len * P.cellsOf e := Nat.mul_le_mul_right _ hi
            rw [Nat.succ_mul] at this; omega)]
          simp [hj']
        · rw [List.getElem?_eq_none (by omega), List.getElem?_eq_none (by simp; omega)]
      exact ⟨y, by rw [← e]; exact hy⟩
end
/-- A row of numbers, off its reading as data. -/
theorem openI_cell {H : Type} {enc : TypeId × Value → H} {W : World} {lo fuel : Nat} {sp : Nat → Bool} {held : Bool} {v : Value} {y : DataW H × List MemPlace}
    (h : DataW.trod enc Tryz.prog W lo sp held fuel 47 [v] = some y) : ∃ xs, RdI W v xs ∧ I64s xs := by
  rcases DataW.trod_slice Tryz.underlying47 h with ⟨h1, _⟩ | ⟨ad, len, cap, _, _, _, _, h1, _⟩
  · simp only [List.cons.injEq, and_true] at h1
    subst h1
    exact ⟨[], ⟨none, 0, rfl, Nat.le_refl _, Nat.zero_le _, fun h => absurd h (by simp)⟩, fun x h => by cases h⟩
  · simp only [List.cons.injEq, and_true] at h1
    subst h1
    obtain ⟨cs, hrd, n, hel⟩ := open_gen Tryz.underlying47 (show Tryz.prog.cellsOf 2 = 1 by kernel_rfl) (by decide) h
    have hz : ∀ i, i < len → ∃ z : Int, cs i = .int .i64 z ∧ (Lit.int .i64 z).wf = true := by
      intro i hi
      obtain ⟨y, hy⟩ := hel i hi
      obtain ⟨z, hc, _, hw⟩ := DataW.trod_int Tryz.underlying2 hy
      simp at hc
      exact ⟨z, hc, hw⟩
    obtain ⟨f, hf⟩ : ∃ f : Nat → Int, ∀ i, i < len → cs i = .int .i64 (f i) ∧ (Lit.int .i64 (f i)).wf = true := by
      refine ⟨fun i => match cs i with | .int _ z => z | _ => 0, fun i hi => ?_⟩
      obtain ⟨z, hc, hw⟩ := hz i hi
      simp only [hc]
      exact ⟨trivial, hw⟩
    refine ⟨(List.range len).map f, ?_, fun x hx => ?_⟩
    · obtain ⟨a, c, e, q1, q2, q3⟩ := hrd
      cases e
      unfold RdI Rd
      rw [List.length_map, List.length_range]
      refine ⟨_, _, rfl, q1, q2, fun h0 => ?_⟩
      obtain ⟨b, o, e, hb, hcl⟩ := q3 h0
      refine ⟨b, o, e, hb, fun i hi => ?_⟩
      rw [hcl i hi, (hf i (by omega)).1]
      simp [ic, nth, show i < len by omega]
    · obtain ⟨i, hi, rfl⟩ := List.mem_map.1 hx
      exact i64_of_wf (hf i (by simpa using hi)).2
set_option maxRecDepth 100000 in
theorem openII {H : Type} {enc : TypeId × Value → H} {W : World} {base lo : Nat} {v : Value} {d : DataW H} {p : List MemPlace} {sp : Nat → Bool} {held : Bool}
    (hv : Value.okWide Tryz.prog W .any base 89 v) (h : DataW.Trod enc Tryz.prog W lo sp held 89 v d p) (lt : ∀ x ∈ p, x.block < W.heap.size) : ∃ xss, RdII W v xss ∧ ∀ i, i < xss.length → I64s (rnth xss i) := by
  obtain ⟨a, len, cap, rfl⟩ := okWide_slice Tryz.underlying89 hv
  obtain ⟨fuel, hf⟩ := h
  obtain ⟨cs, hrd, n, hel⟩ := open_gen Tryz.underlying89 (show Tryz.prog.cellsOf 47 = 1 by kernel_rfl) (by decide) hf
  have hz : ∀ i, ∃ xs, i < len → RdI W (cs i) xs ∧ I64s xs := by
    intro i
    by_cases hi : i < len
    · obtain ⟨y, hy⟩ := hel i hi
      obtain ⟨xs, hx⟩ := openI_cell (v := cs i) (by simpa using hy)
      exact ⟨xs, fun _ => hx⟩
    · exact ⟨[], fun h => absurd h hi⟩
  obtain ⟨f, hf⟩ := Classical.axiomOfChoice hz
  have hr : ∀ i, i < len → rnth ((List.range len).map f) i = f i := fun i hi => by simp [rnth, hi]
  refine ⟨(List.range len).map f, ⟨cs, by rw [List.length_map, List.length_range]; exact hrd, fun i hi => ?_⟩, fun i hi => ?_⟩
  · rw [List.length_map, List.length_range] at hi
    rw [hr i hi]; exact (hf i hi).1
  · rw [List.length_map, List.length_range] at hi
    rw [hr i hi]; exact (hf i hi).2
def Small (ss : List ByteArray) : Prop := ∀ i, i < ss.length → (snth ss i).size ≤ maxLen
theorem openS_cell {H : Type} {enc : TypeId × Value → H} {W : World} {lo fuel : Nat} {sp : Nat → Bool} {held : Bool} {v : Value} {y : DataW H × List MemPlace}
    (h : DataW.trod enc Tryz.prog W lo sp held fuel 37 [v] = some y) : ∃ ss, RdS W v ss ∧ Small ss := by
  rcases DataW.trod_slice Tryz.underlying37 h with ⟨h1, _⟩ | ⟨ad, len, cap, _, _, _, _, h1, _⟩
  · simp only [List.cons.injEq, and_true] at h1
    subst h1
    exact ⟨[], ⟨none, 0, rfl, Nat.le_refl _, Nat.zero_le _, fun h => absurd h (by simp)⟩, fun i h => absurd h (by simp)⟩
  · simp only [List.cons.injEq, and_true] at h1
    subst h1
    obtain ⟨cs, hrd, n, hel⟩ := open_gen Tryz.underlying37 (show Tryz.prog.cellsOf 9 = 1 by kernel_rfl) (by decide) h
    obtain ⟨f, hf⟩ : ∃ f : Nat → ByteArray, ∀ i, i < len → cs i = .string (f i) ∧ (f i).size ≤ maxLen := by
      refine ⟨fun i => match cs i with | .string z => z | _ => ByteArray.empty, fun i hi => ?_⟩
      obtain ⟨y, hy⟩ := hel i hi
      obtain ⟨z, hc, _, hw⟩ := DataW.trod_string Tryz.underlying9 hy
      simp at hc
      simp only [hc]
      exact ⟨trivial, hw⟩
    have hr : ∀ i, i < len → snth ((List.range len).map f) i = f i := fun i hi => by simp [snth, hi]
    refine ⟨(List.range len).map f, ?_, fun i hi => ?_⟩
    · obtain ⟨a, c, e, q1, q2, q3⟩ := hrd
      cases e
      unfold RdS Rd
      rw [List.length_map, List.length_range]
      refine ⟨_, _, rfl, q1, q2, fun h0 => ?_⟩
      obtain ⟨b, o, e, hb, hcl⟩ := q3 h0
      refine ⟨b, o, e, hb, fun i hi => ?_⟩
      rw [hcl i hi, (hf i (by omega)).1, sc, hr i (by omega)]
    · rw [List.length_map, List.length_range] at hi
      rw [hr i hi]; exact (hf i hi).2
set_option maxRecDepth 100000 in
theorem openS {H : Type} {enc : TypeId × Value → H} {W : World} {base lo : Nat} {v : Value} {d : DataW H} {p : List MemPlace} {sp : Nat → Bool} {held : Bool}
    (hv : Value.okWide Tryz.prog W .any base 37 v) (h : DataW.Trod enc Tryz.prog W lo sp held 37 v d p) (lt : ∀ x ∈ p, x.block < W.heap.size) : ∃ ss, RdS W v ss ∧ Small ss := by
  obtain ⟨a, len, cap, rfl⟩ := okWide_slice Tryz.underlying37 hv
  obtain ⟨fuel, hf⟩ := h
  exact openS_cell (v := .slice a len cap) hf
end Go.Proofs.YtcakmchefbohoaaGreatDoor
