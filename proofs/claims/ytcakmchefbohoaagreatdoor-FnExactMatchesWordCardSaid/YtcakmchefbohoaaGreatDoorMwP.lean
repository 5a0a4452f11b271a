/- Words of a regular expression: the plain law: sets of places. -/
import Derived.Test.YtcakmchefbohoaaGreatDoorProg
import Derived.Test.YtcakmchefbohoaaGreatDoorMem
import Derived.Test.YtcakmchefbohoaaGreatDoorMath
import Derived.Test.YtcakmchefbohoaaGreatDoorNode
import Derived.Test.YtcakmchefbohoaaGreatDoorReg
import Derived.Test.YtcakmchefbohoaaGreatDoorVReg
import Derived.Test.YtcakmchefbohoaaGreatDoorTreeR
import Derived.Test.YtcakmchefbohoaaGreatDoorSel
set_option linter.unusedVariables false
set_option linter.unusedSimpArgs false
namespace Go.Proofs.YtcakmchefbohoaaGreatDoor
open Go.RowKit

/-- A set of places: which of them it holds. -/
def bnth (S : List Bool) (i : Nat) : Bool := S.getD i false
theorem bnth_lt {S : List Bool} {i : Nat} (h : bnth S i = true) : i < S.length := by
  rcases Nat.lt_or_ge i S.length with h1 | h1
  · exact h1
  · unfold bnth at h; rw [List.getD_eq_getElem?_getD, List.getElem?_eq_none h1] at h; cases h
theorem bl_ext {S T : List Bool} (hl : S.length = T.length) (h : ∀ i, i < S.length → bnth S i = bnth T i) : S = T := by
  refine List.ext_getElem hl fun i h1 h2 => ?_
  have := h i h1
  unfold bnth at this
  rw [List.getD_eq_getElem?_getD, List.getD_eq_getElem?_getD, List.getElem?_eq_getElem h1, List.getElem?_eq_getElem h2] at this
  exact this
theorem bnth_map (n : Nat) (f : Nat → Bool) {i : Nat} (h : i < n) : bnth ((List.range n).map f) i = f i := by simp [bnth, h]
def orB (S T : List Bool) : List Bool := (List.range S.length).map fun i => bnth S i || bnth T i
theorem orB_len (S T : List Bool) : (orB S T).length = S.length := by simp [orB]
theorem bnth_orB (S T : List Bool) {i : Nat} (h : i < S.length) : bnth (orB S T) i = (bnth S i || bnth T i) := bnth_map _ _ h
theorem cnt_mono {S T : List Bool} (hl : S.length = T.length) (h : ∀ i, bnth S i = true → bnth T i = true) : S.count true ≤ T.count true := by
  induction S generalizing T with
  | nil => simp
  | cons a S ih =>
    cases T with
    | nil => cases hl
    | cons b T =>
      have h1 := ih (T := T) (by simpa using hl) (fun i hi => h (i + 1) hi)
      have h0 : a = true → b = true := h 0
      rw [List.count_cons, List.count_cons]
      cases a <;> cases b <;> simp at h0 ⊢ <;> omega
theorem cnt_lt {S T : List Bool} (hl : S.length = T.length) (h : ∀ i, bnth S i = true → bnth T i = true) (hne : S ≠ T) : S.count true < T.count true := by
  induction S generalizing T with
  | nil => cases T with
    | nil => exact absurd rfl hne
    | cons b T => cases hl
  | cons a S ih =>
    cases T with
    | nil => cases hl
    | cons b T =>
      have hl2 : S.length = T.length := by simpa using hl
      have hm := cnt_mono hl2 (fun i hi => h (i + 1) hi)
      have h0 : a = true → b = true := h 0
      rw [List.count_cons, List.count_cons]
      cases a <;> cases b
      · have := ih hl2 (fun i hi => h (i + 1) hi) (fun e => hne (by rw [e])); simp; exact this
      · simp; omega
      · exact absurd (h0 rfl) (by simp)
      · have := ih hl2 (fun i hi => h (i + 1) hi) (fun e => hne (by rw [e])); simp; exact this
/-- One round of a star, and so many. -/
abbrev EV := List Bool → List Bool
def stepB (F : EV) (S : List Bool) : List Bool := orB S (F S)
def iterB (F : EV) : Nat → EV
  | 0, S => S
  | j + 1, S => stepB F (iterB F j S)
theorem stepB_len (F : EV) (S : List Bool) : (stepB F S).length = S.length := orB_len _ _
theorem iterB_len (F : EV) (j : Nat) (S : List Bool) : (iterB F j S).length = S.length := by
  induction j with
  | zero => rfl
  | succ j ih => rw [iterB, stepB_len, ih]
theorem stepB_le (F : EV) (S : List Bool) (i : Nat) (h : bnth S i = true) : bnth (stepB F S) i = true := by
  unfold stepB
  rw [bnth_orB _ _ (bnth_lt h), h]; rfl
theorem stepB_more (F : EV) {S : List Bool} (h : stepB F S ≠ S) : S.count true < (stepB F S).count true := cnt_lt (stepB_len _ _).symm (stepB_le F S) (fun e => h e.symm)
theorem iterB_done (F : EV) {S : List Bool} {j N : Nat} (h : stepB F (iterB F j S) = iterB F j S) (hj : j ≤ N) : iterB F N S = iterB F j S := by
  obtain ⟨i, rfl⟩ : ∃ i, N = j + i := ⟨N - j, by omega⟩
  induction i with
  | zero => rfl
  | succ i ih =>
    rw [← Nat.add_assoc, iterB, ih (by omega), h]
/-- What a test, and what an expression makes of a set of places. -/
def testB (L : List ByteArray) (x : Rg) (S : List Bool) : List Bool := (List.range S.length).map fun i => decide (0 < i) && bnth S (i - 1) && selB x.lab x.neg (snth L (i - 1))
def opX (L : List ByteArray) (x : Rg) (l : List EV) : EV := fun S =>
  if x.kind = 1 then l.getD 1 id (l.getD 0 id S)
  else if x.kind = 2 then orB (l.getD 0 id S) (l.getD 1 id S)
  else if x.kind = 3 then iterB (l.getD 0 id) S.length S
  else testB L x S
theorem testB_len (L : List ByteArray) (x : Rg) (S : List Bool) : (testB L x S).length = S.length := by simp [testB]
theorem opX_len (L : List ByteArray) (G : FRg) : ∀ (i : Nat) (S : List Bool), ((FRg.fold (opX L) G).getD i id S).length = S.length := by
  induction G with
  | nil => intro i S; simp [FRg.fold]
  | cons x k n ihk ihn =>
    intro i S
    cases i with
    | succ i => exact ihn i S
    | zero =>
      show (opX L x (FRg.fold (opX L) k) S).length = S.length
      generalize FRg.fold (opX L) k = g at ihk ⊢
      unfold opX
      split
      · rw [ihk, ihk]
      split
      · rw [orB_len, ihk]
      split
      · rw [iterB_len]
      · rw [testB_len]
theorem opX_then {L : List ByteArray} {x : Rg} {l : List EV} (h : x.kind = 1) (S : List Bool) : opX L x l S = l.getD 1 id (l.getD 0 id S) := by unfold opX; rw [if_pos h]
theorem opX_either {L : List ByteArray} {x : Rg} {l : List EV} (h : x.kind = 2) (S : List Bool) : opX L x l S = orB (l.getD 0 id S) (l.getD 1 id S) := by unfold opX; rw [if_neg (by omega), if_pos h]
theorem opX_star {L : List ByteArray} {x : Rg} {l : List EV} (h : x.kind = 3) (S : List Bool) : opX L x l S = iterB (l.getD 0 id) S.length S := by unfold opX; rw [if_neg (by omega), if_neg (by omega), if_pos h]
theorem opX_test {L : List ByteArray} {x : Rg} {l : List EV} (h : x.kind = 0) (S : List Bool) : opX L x l S = testB L x S := by unfold opX; rw [if_neg (by omega), if_neg (by omega), if_neg (by omega)]
/-- The places of a set, ascending; the set of a list of places. -/
def asc (S : List Bool) : List Int := ((List.range S.length).filter (bnth S)).map fun i : Nat => (i : Int)
def setB (m : Nat) (l : List Int) : List Bool := (List.range m).map fun i : Nat => l.contains (i : Int)
theorem setB_len (m : Nat) (l : List Int) : (setB m l).length = m := by simp [setB]
theorem bnth_setB {m i : Nat} (l : List Int) (h : i < m) : bnth (setB m l) i = l.contains (i : Int) := bnth_map _ _ h
theorem mem_asc {S : List Bool} {z : Int} : z ∈ asc S ↔ ∃ i : Nat, z = (i : Int) ∧ bnth S i = true := by
  unfold asc
  rw [List.mem_map]
  constructor
  · rintro ⟨i, h, rfl⟩
    exact ⟨i, rfl, (List.mem_filter.1 h).2⟩
  · rintro ⟨i, rfl, h⟩
    exact ⟨i, List.mem_filter.2 ⟨List.mem_range.2 (bnth_lt h), h⟩, rfl⟩
theorem asc_has (S : List Bool) (i : Nat) : (asc S).contains (i : Int) = bnth S i := by
  cases h : bnth S i with
  | true => rw [List.contains_iff_mem]; exact mem_asc.2 ⟨i, rfl, h⟩
  | false =>
    cases hc : (asc S).contains (i : Int) with
    | false => rfl
    | true =>
      rw [List.contains_iff_mem] at hc
      obtain ⟨j, e, hj⟩ := mem_asc.1 hc
      obtain rfl : i = j := by omega
      rw [h] at hj; cases hj
theorem setB_asc (S : List Bool) : setB S.length (asc S) = S := bl_ext (setB_len _ _) fun i hi => by
  rw [setB_len] at hi
  rw [bnth_setB _ hi, asc_has]
theorem setB_append (S T : List Bool) : setB S.length (asc S ++ asc T) = orB S T := bl_ext (by rw [setB_len, orB_len]) fun i hi => by
  rw [setB_len] at hi
  rw [bnth_setB _ hi, bnth_orB _ _ hi]
  have : (asc S ++ asc T).contains (i : Int) = ((asc S).contains (i : Int) || (asc T).contains (i : Int)) := by simp
  rw [this, asc_has, asc_has]
theorem asc_len (S : List Bool) : (asc S).length = S.count true := by
  unfold asc
  rw [List.length_map]
  have h : ∀ T : List Bool, ((List.range T.length).filter (bnth T)).length = T.count true := by
    intro T
    induction T with
    | nil => rfl
    | cons a T ih =>
      rw [List.length_cons, List.range_succ_eq_map, List.filter_cons, List.count_cons]
      have e : (List.filter (bnth (a :: T)) (List.map Nat.succ (List.range T.length))).length = T.count true := by
        rw [List.filter_map, List.length_map, ← ih]; rfl
      have h0 : bnth (a :: T) 0 = a := rfl
      rw [h0]
      cases a <;> simp [e]
  exact h S
theorem asc_lt (S : List Bool) : (asc S).Pairwise (· < ·) := by
  unfold asc
  rw [List.pairwise_map]
  exact (List.Pairwise.filter _ List.pairwise_lt_range).imp fun h => by omega
/-- An ascending list is the only one of its set. -/
theorem asc_unique {l : List Int} {S : List Bool} (hl : l.Pairwise (· < ·)) (h : ∀ z, z ∈ l ↔ z ∈ asc S) : l = asc S := by
  have key : ∀ (l1 l2 : List Int), l1.Pairwise (· < ·) → l2.Pairwise (· < ·) → (∀ z, z ∈ l1 ↔ z ∈ l2) → l1 = l2 := by
    intro l1
    induction l1 with
    | nil =>
      intro l2 _ _ h
      cases l2 with
      | nil => rfl
      | cons b l2 => exact absurd ((h b).2 (by simp)) (by simp)
    | cons a l1 ih =>
      intro l2 h1 h2 h
      cases l2 with
      | nil => exact absurd ((h a).1 (by simp)) (by simp)
      | cons b l2 =>
        obtain ⟨p1, q1⟩ := List.pairwise_cons.1 h1
        obtain ⟨p2, q2⟩ := List.pairwise_cons.1 h2
        have hab : a = b := by
          rcases List.mem_cons.1 ((h a).1 (by simp)) with e | e
          · exact e
          · rcases List.mem_cons.1 ((h b).2 (by simp)) with e2 | e2
            · exact e2.symm
            · have := p1 b e2; have := p2 a e; omega
        subst hab
        rw [ih l2 q1 q2 fun z => ⟨fun hz => ?_, fun hz => ?_⟩]
        · rcases List.mem_cons.1 ((h z).1 (List.mem_cons_of_mem _ hz)) with e | e
          · subst e; have := p1 z hz; omega
          · exact e
        · rcases List.mem_cons.1 ((h z).2 (List.mem_cons_of_mem _ hz)) with e | e
          · subst e; have := p2 z hz; omega
          · exact e
  exact key l _ hl (asc_lt S) h
end Go.Proofs.YtcakmchefbohoaaGreatDoor
