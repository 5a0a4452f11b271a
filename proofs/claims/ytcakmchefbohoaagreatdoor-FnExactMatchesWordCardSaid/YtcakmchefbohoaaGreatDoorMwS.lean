/- Words of a regular expression: a list sorted, each number once, is the set of its places. -/
import Derived.Test.YtcakmchefbohoaaGreatDoorProg
import Derived.Test.YtcakmchefbohoaaGreatDoorMwP
import Derived.Lib.SlicesCompact
set_option linter.unusedVariables false
set_option linter.unusedSimpArgs false
namespace Go.Proofs.YtcakmchefbohoaaGreatDoor
open Go.RowKit

/-- A sorted list, each once: the places of its set. -/
theorem cmp_mem {zs : List Int} {z : Int} : z ∈ Lib.compact zs ↔ z ∈ zs := by
  have hb : ∀ i, (h : i < zs.length) → zs.toArray[i]! = zs[i] := fun i h => by rw [getElem!_pos zs.toArray i (by simpa using h)]; simp
  unfold Lib.compact Lib.compactUpTo
  rw [List.mem_map]
  constructor
  · rintro ⟨i, h, rfl⟩
    have hi := List.mem_range.1 (List.mem_filter.1 h).1
    rw [hb i hi]
    exact List.getElem_mem hi
  · intro h
    obtain ⟨i, hi, rfl⟩ := List.getElem_of_mem h
    have key : ∀ i, (hi : i < zs.length) → ∃ j, j ∈ (List.range zs.length).filter (Lib.keeps zs.toArray) ∧ zs.toArray[j]! = zs[i] := by
      intro i
      induction i with
      | zero => intro hi; exact ⟨0, List.mem_filter.2 ⟨List.mem_range.2 hi, by simp [Lib.keeps]⟩, hb 0 hi⟩
      | succ i ih =>
        intro hi
        by_cases hk : Lib.keeps zs.toArray (i + 1) = true
        · exact ⟨i + 1, List.mem_filter.2 ⟨List.mem_range.2 hi, hk⟩, hb _ hi⟩
        · have e : zs.toArray[i + 1]! = zs.toArray[i]! := by
            unfold Lib.keeps at hk
            simp only [decide_eq_true_eq, not_or, Nat.add_sub_cancel] at hk
            exact Classical.not_not.1 hk.2
          obtain ⟨j, hj, he⟩ := ih (by omega)
          exact ⟨j, hj, by rw [he, ← hb i (by omega), ← e, hb _ hi]⟩
    obtain ⟨j, hj, he⟩ := key i hi
    exact ⟨j, hj, he⟩
theorem cmp_lt {zs : List Int} (hs : zs.Pairwise (· ≤ ·)) : (Lib.compact zs).Pairwise (· < ·) := by
  have hb : ∀ i, (h : i < zs.length) → zs.toArray[i]! = zs[i] := fun i h => by rw [getElem!_pos zs.toArray i (by simpa using h)]; simp
  have hle : ∀ i j, i ≤ j → j < zs.length → zs.toArray[i]! ≤ zs.toArray[j]! := by
    intro i j hij hj
    rcases Nat.lt_or_eq_of_le hij with h | h
    · rw [hb i (by omega), hb j hj]
      exact List.pairwise_iff_getElem.1 hs i j (by omega) hj h
    · subst h; exact Int.le_refl _
  unfold Lib.compact Lib.compactUpTo
  rw [List.pairwise_map]
  have h1 : ((List.range zs.length).filter (Lib.keeps zs.toArray)).Pairwise (· < ·) := List.Pairwise.filter _ List.pairwise_lt_range
  refine List.Pairwise.imp_of_mem ?_ h1
  intro i j hi hj hij
  obtain ⟨hjr, hjk⟩ := List.mem_filter.1 hj
  have hjl := List.mem_range.1 hjr
  unfold Lib.keeps at hjk
  simp only [decide_eq_true_eq] at hjk
  rcases hjk with h | h
  · omega
  · have p1 := hle i (j - 1) (by omega) (by omega)
    have p2 := hle (j - 1) j (by omega) hjl
    omega
theorem set_plain (zs : List Int) (m : Nat) (hm : ∀ z ∈ zs, 0 ≤ z ∧ z < m) : Lib.compact (zs.mergeSort fun x y => decide (x ≤ y)) = asc (setB m zs) := by
  have hs : (zs.mergeSort fun x y => decide (x ≤ y)).Pairwise (· ≤ ·) := by
    have := List.pairwise_mergeSort (le := fun x y : Int => decide (x ≤ y)) (by intro a b c h1 h2; simp at *; omega) (by intro a b; simp; omega) zs
    exact this.imp fun h => by simpa using h
  refine asc_unique (cmp_lt hs) fun z => ?_
  rw [cmp_mem, List.mem_mergeSort, mem_asc]
  constructor
  · intro h
    obtain ⟨h0, h1⟩ := hm z h
    refine ⟨z.toNat, by omega, ?_⟩
    rw [bnth_setB _ (by omega), List.contains_iff_mem, show ((z.toNat : Nat) : Int) = z by omega]
    exact h
  · rintro ⟨i, rfl, h⟩
    have hl := bnth_lt h
    rw [setB_len] at hl
    rwa [bnth_setB _ hl, List.contains_iff_mem] at h
/-- What a test makes of a list of places, one by one. -/
def tstF (L : List ByteArray) (x : Rg) (z : Int) : List Int := if (decide (z < L.length) && selB x.lab x.neg (snth L z.toNat)) = true then [z + 1] else []
def tstL (L : List ByteArray) (x : Rg) (l : List Int) : List Int := l.flatMap (tstF L x)
theorem tstL_take (L : List ByteArray) (x : Rg) (l : List Int) (j : Nat) (h : j < l.length) : tstL L x (l.take (j + 1)) = tstL L x (l.take j) ++ tstF L x (nth l j) := by
  unfold tstL
  rw [take_nth l j h, List.flatMap_append]
  simp
theorem tstF_hit {L : List ByteArray} {x : Rg} {z : Int} (h1 : z < L.length) (h2 : selB x.lab x.neg (snth L z.toNat) = true) : tstF L x z = [z + 1] := by unfold tstF; rw [decide_eq_true h1, h2]; rfl
theorem tstF_far {L : List ByteArray} {x : Rg} {z : Int} (h1 : ¬ z < L.length) : tstF L x z = [] := by unfold tstF; rw [decide_eq_false h1]; rfl
theorem tstF_miss {L : List ByteArray} {x : Rg} {z : Int} (h2 : selB x.lab x.neg (snth L z.toNat) = false) : tstF L x z = [] := by unfold tstF; rw [h2, Bool.and_false]; rfl
theorem mem_tstL {L : List ByteArray} {x : Rg} {S : List Bool} {z : Int} : z ∈ tstL L x (asc S) ↔ ∃ j : Nat, z = (j : Int) + 1 ∧ bnth S j = true ∧ j < L.length ∧ selB x.lab x.neg (snth L j) = true := by
  unfold tstL
  rw [List.mem_flatMap]
  constructor
  · rintro ⟨y, hy, hz⟩
    obtain ⟨j, rfl, hj⟩ := mem_asc.1 hy
    unfold tstF at hz
    split at hz
    · rename_i h
      simp only [Bool.and_eq_true, decide_eq_true_eq] at h
      obtain rfl := List.mem_singleton.1 hz
      exact ⟨j, rfl, hj, by omega, by simpa using h.2⟩
    · cases hz
  · rintro ⟨j, rfl, hj, hl, hs⟩
    refine ⟨(j : Int), mem_asc.2 ⟨j, rfl, hj⟩, ?_⟩
    rw [tstF_hit (by omega) (by simpa using hs)]
    exact List.mem_singleton.2 rfl
theorem tst_bd {L : List ByteArray} {x : Rg} {S : List Bool} (hS : S.length = L.length + 1) : ∀ z ∈ tstL L x (asc S), 0 ≤ z ∧ z < S.length := by
  intro z hz
  obtain ⟨j, rfl, _, hl, _⟩ := mem_tstL.1 hz
  omega
theorem asc_bd {S : List Bool} : ∀ z ∈ asc S, 0 ≤ z ∧ z < S.length := by
  intro z hz
  obtain ⟨j, rfl, hj⟩ := mem_asc.1 hz
  have := bnth_lt hj
  omega
theorem tst_plain {L : List ByteArray} {x : Rg} {S : List Bool} (hS : S.length = L.length + 1) : setB S.length (tstL L x (asc S)) = testB L x S := bl_ext (by rw [setB_len, testB_len]) fun i hi => by
  rw [setB_len] at hi
  rw [bnth_setB _ hi]
  unfold testB
  rw [bnth_map _ _ hi]
  have e : (tstL L x (asc S)).contains (i : Int) = true ↔ (decide (0 < i) && bnth S (i - 1) && selB x.lab x.neg (snth L (i - 1))) = true := by
    rw [List.contains_iff_mem, mem_tstL]
    simp only [Bool.and_eq_true, decide_eq_true_eq]
    constructor
    · rintro ⟨j, h1, h2, h3, h4⟩
      obtain rfl : i = j + 1 := by omega
      exact ⟨⟨by omega, h2⟩, h4⟩
    · rintro ⟨⟨h1, h2⟩, h3⟩
      exact ⟨i - 1, by omega, h2, by omega, h3⟩
  cases h1 : (tstL L x (asc S)).contains (i : Int) <;> cases h2 : (decide (0 < i) && bnth S (i - 1) && selB x.lab x.neg (snth L (i - 1))) <;> simp_all
end Go.Proofs.YtcakmchefbohoaaGreatDoor
