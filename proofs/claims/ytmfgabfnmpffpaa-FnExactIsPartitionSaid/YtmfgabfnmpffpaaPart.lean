/- Partitions, plainly: block numbers by first occurrence, and which lists are partitions. No program in sight. -/
import Derived.Test.YtmfgabfnmpffpaaMem
import Derived.Test.YtmfgabfnmpffpaaMath
set_option linter.unusedVariables false
set_option linter.unusedSimpArgs false
namespace Go.Proofs.Ytmfgabfnmpffpaa

/-- The first place that holds what place i holds. -/
def fi (xs : List Int) (i : Nat) : Nat := ((List.range i).find? fun k => nth xs k == nth xs i).getD i
theorem find_range (p : Nat → Bool) (n : Nat) : (∃ k, (List.range n).find? p = some k ∧ k < n ∧ p k = true ∧ ∀ j, j < k → p j = false) ∨ ((List.range n).find? p = none ∧ ∀ j, j < n → p j = false) := by
  induction n with
  | zero => exact Or.inr ⟨rfl, fun j h => by omega⟩
  | succ n ih =>
    rw [List.range_succ, List.find?_append]
    rcases ih with ⟨k, h1, h2, h3, h4⟩ | ⟨h1, h2⟩
    · exact Or.inl ⟨k, by rw [h1]; rfl, by omega, h3, h4⟩
    · rw [h1]
      cases hp : p n with
      | true => exact Or.inl ⟨n, by simp [hp], by omega, hp, h2⟩
      | false =>
        refine Or.inr ⟨by simp [hp], fun j hj => ?_⟩
        by_cases e : j = n
        · rw [e]; exact hp
        · exact h2 j (by omega)
theorem fi_spec (xs : List Int) (i : Nat) : fi xs i ≤ i ∧ nth xs (fi xs i) = nth xs i ∧ ∀ k, k < fi xs i → nth xs k ≠ nth xs i := by
  unfold fi
  rcases find_range (fun k => nth xs k == nth xs i) i with ⟨k, h1, h2, h3, h4⟩ | ⟨h1, h2⟩
  · rw [h1]
    exact ⟨by simp; omega, by simpa using h3, fun j hj => by simpa using h4 j (by simpa using hj)⟩
  · rw [h1]
    exact ⟨Nat.le_refl _, rfl, fun j hj => by simpa using h2 j (by simpa using hj)⟩
theorem fi_eq {xs : List Int} {i k : Nat} (h1 : k ≤ i) (h2 : nth xs k = nth xs i) (h3 : ∀ j, j < k → nth xs j ≠ nth xs i) : fi xs i = k := by
  obtain ⟨q1, q2, q3⟩ := fi_spec xs i
  rcases Nat.lt_trichotomy (fi xs i) k with h | h | h
  · exact absurd q2 (h3 _ h)
  · exact h
  · exact absurd h2 (q3 _ h)
theorem fi_fi (xs : List Int) (i : Nat) : fi xs (fi xs i) = fi xs i := by
  obtain ⟨q1, q2, q3⟩ := fi_spec xs i
  exact fi_eq (Nat.le_refl _) rfl fun j hj => by rw [q2]; exact q3 j hj
theorem fi_same {xs : List Int} {i j : Nat} (h : nth xs i = nth xs j) : fi xs i = fi xs j := by
  obtain ⟨p1, p2, p3⟩ := fi_spec xs i
  obtain ⟨q1, q2, q3⟩ := fi_spec xs j
  rcases Nat.lt_trichotomy (fi xs i) (fi xs j) with e | e | e
  · exact absurd (p2.trans h) (q3 _ e)
  · exact e
  · exact absurd (q2.trans h.symm) (p3 _ e)

/-- How many blocks the first i items have. -/
def nx (xs : List Int) : Nat → Nat
  | 0 => 0
  | i + 1 => if fi xs i = i then nx xs i + 1 else nx xs i
/-- The block of item i. -/
def nb (xs : List Int) (i : Nat) : Nat := nx xs (fi xs i)
theorem nx_le (xs : List Int) (i : Nat) : nx xs i ≤ i := by
  induction i with
  | zero => exact Nat.le_refl _
  | succ i ih => unfold nx; split <;> omega
theorem nx_mono (xs : List Int) {i j : Nat} (h : i ≤ j) : nx xs i ≤ nx xs j := by
  induction j with
  | zero => obtain rfl : i = 0 := by omega
            exact Nat.le_refl _
  | succ j ih =>
    by_cases e : i = j + 1
    · rw [e]; exact Nat.le_refl _
    · have := ih (by omega)
      show _ ≤ nx xs (j + 1)
      rw [nx]
      split <;> omega
theorem nb_le (xs : List Int) (i : Nat) : nb xs i ≤ nx xs i := nx_mono xs (fi_spec xs i).1
theorem nb_lt (xs : List Int) {i k : Nat} (h : i < k) : nb xs i < nx xs k := by
  have h1 := fi_spec xs i
  have h2 : nx xs (fi xs i + 1) = nx xs (fi xs i) + 1 := by
    show (if _ then _ else _) = _
    rw [if_pos (fi_fi xs i)]
  have h3 : nx xs (fi xs i + 1) ≤ nx xs k := nx_mono xs (by omega)
  unfold nb
  omega
/-- Item i is new. -/
theorem nb_new {xs : List Int} {i : Nat} (h : ∀ j, j < i → nth xs j ≠ nth xs i) : nb xs i = nx xs i ∧ nx xs (i + 1) = nx xs i + 1 := by
  have e : fi xs i = i := fi_eq (Nat.le_refl _) rfl h
  refine ⟨by unfold nb; rw [e], ?_⟩
  show (if _ then _ else _) = _
  rw [if_pos e]
/-- Item i was there before, at j. -/
theorem nb_old {xs : List Int} {i j : Nat} (hj : j < i) (h : nth xs j = nth xs i) : nb xs i = nb xs j ∧ nx xs (i + 1) = nx xs i := by
  have e : fi xs i = fi xs j := fi_same h.symm
  have h1 := fi_spec xs j
  refine ⟨by unfold nb; rw [e], ?_⟩
  show (if _ then _ else _) = _
  rw [if_neg (by omega)]
theorem nb_onto (xs : List Int) (k v : Nat) (h : v < nx xs k) : ∃ j, j < k ∧ nb xs j = v := by
  induction k with
  | zero => exact absurd h (by simp [nx])
  | succ k ih =>
    by_cases hv : v < nx xs k
    · obtain ⟨j, h1, h2⟩ := ih hv
      exact ⟨j, by omega, h2⟩
    · rw [nx] at h
      split at h
      · rename_i e
        exact ⟨k, by omega, by unfold nb; rw [e]; omega⟩
      · omega

/-- The normal form. -/
def nrm (xs : List Int) : List Int := (List.range xs.length).map fun i => (nb xs i : Int)
theorem nrm_length (xs : List Int) : (nrm xs).length = xs.length := by simp [nrm]
theorem nth_nrm (xs : List Int) (i : Nat) (h : i < xs.length) : nth (nrm xs) i = nb xs i := by simp [nth, nrm, h]
theorem list_ext {xs ys : List Int} (hl : xs.length = ys.length) (h : ∀ i, i < xs.length → nth xs i = nth ys i) : xs = ys := by
  refine List.ext_getElem hl fun i h1 h2 => ?_
  have := h i h1
  rwa [nth_eq xs i h1, nth_eq ys i h2] at this
/-- Is a list a partition? -/
def isPart (xs : List Int) : Bool := decide (1 ≤ xs.length ∧ xs.length ≤ 40) && decide (xs = nrm xs)
theorem isPart_size {xs : List Int} (h : ¬ (1 ≤ xs.length ∧ xs.length ≤ 40)) : isPart xs = false := by simp [isPart, h]
theorem isPart_bad {xs : List Int} (i : Nat) (hi : i < xs.length) (h : nth xs i ≠ nb xs i) : isPart xs = false := by
  have : decide (xs = nrm xs) = false := decide_eq_false fun e => h (by
    have := congrArg (fun l => nth l i) e
    simpa [nth_nrm xs i hi] using this)
  simp [isPart, this]
theorem isPart_good {xs : List Int} (h1 : 1 ≤ xs.length) (h2 : xs.length ≤ 40) (h : ∀ i, i < xs.length → nth xs i = nb xs i) : isPart xs = true := by
  have : xs = nrm xs := list_ext (nrm_length xs).symm fun i hi => by rw [h i hi, nth_nrm xs i hi]
  simp [isPart, h1, h2, ← this]
/-- One step of the reference's test: the items before k are right; item k is the next new number. -/
theorem part_next {xs : List Int} {k : Nat} (h : ∀ i, i < k → nth xs i = nb xs i) (hk : nth xs k = nx xs k) : nth xs k = nb xs k ∧ nx xs (k + 1) = nx xs k + 1 := by
  have hn := nb_new (xs := xs) (i := k) fun j hj e => by
    have := nb_lt xs hj
    rw [h j hj, hk] at e
    omega
  exact ⟨by rw [hk, hn.1], hn.2⟩
/-- .. or an old number. -/
theorem part_old {xs : List Int} {k : Nat} (h : ∀ i, i < k → nth xs i = nb xs i) (h0 : 0 ≤ nth xs k) (hk : nth xs k < nx xs k) : nth xs k = nb xs k ∧ nx xs (k + 1) = nx xs k := by
  obtain ⟨v, hv⟩ := Int.eq_ofNat_of_zero_le h0
  obtain ⟨j, hj, hjv⟩ := nb_onto xs k v (by omega)
  have e : nth xs j = nth xs k := by rw [h j hj, hv, hjv]
  have ho := nb_old hj e
  exact ⟨by rw [hv, ho.1, hjv], ho.2⟩
/-- .. else no partition. -/
theorem part_not {xs : List Int} {k : Nat} (hk : nth xs k < 0 ∨ nx xs k < nth xs k) : nth xs k ≠ nb xs k := fun e => by
  have := nb_le xs k
  rw [e] at hk
  omega
theorem next_all {P : Nat → Prop} {k : Nat} (h : ∀ i, i < k → P i) (hk : P k) : ∀ i, i < k + 1 → P i := fun i hi => by
  by_cases e : i = k
  · rw [e]; exact hk
  · exact h i (by omega)
end Go.Proofs.Ytmfgabfnmpffpaa
