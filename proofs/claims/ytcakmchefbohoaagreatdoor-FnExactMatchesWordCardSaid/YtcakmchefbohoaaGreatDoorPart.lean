/- Partitions, plainly: block numbers by first occurrence, and which lists are partitions. No program in sight. -/
import Derived.Test.YtcakmchefbohoaaGreatDoorMem
import Derived.Test.YtcakmchefbohoaaGreatDoorMath
set_option linter.unusedVariables false
set_option linter.unusedSimpArgs false
namespace Go.Proofs.YtcakmchefbohoaaGreatDoor

/-- The first place that holds what place i holds. -/
def fi (xs : List Int) (i : Nat) : Nat := ((List.range i).find? fun k => nth xs k == nth xs i).getD i
theorem find_range (p : Nat → Bool) (n : Nat) : (∃ k, (List.range n).find? p = some k ∧ k < n ∧ p k = true ∧ ∀ j, j < k → p j = false) ∨ ((List.range n).find? p = none ∧ ∀ j, j < n → p j = false) := by
  induction n with
  | zero => exact Or.inr ⟨rfl, fun j h => by omega⟩
  | succ n ih =>
    rw [List.range_succ, List.find?_append]
    rcases ih with ⟨k, h1, h2, h3, h4⟩ | ⟨h1, h2⟩
    · exact Or.inl ⟨k, by rw [h1]; rfl, by omega, h3, h4⟩
    · rw [h1]
      cases hp : p n with
      | true => exact Or.inl ⟨n, by simp [hp], by omega, hp, h2⟩
      | false =>
        refine Or.inr ⟨by simp [hp], fun j hj => ?_⟩
        by_cases e : j = n
        · rw [e]; exact hp
        · exact h2 j (by omega)
theorem fi_spec (xs : List Int) (i : Nat) : fi xs i ≤ i ∧ nth xs (fi xs i) = nth xs i ∧ ∀ k, k < fi xs i → nth xs k ≠ nth xs i := by
  unfold fi
  rcases find_range (fun k => nth xs k == nth xs i) i with ⟨k, h1, h2, h3, h4⟩ | ⟨h1, h2⟩
  · rw [h1]
    exact ⟨by simp; omega, by simpa using h3, fun j hj => by simpa using h4 j (by simpa using hj)⟩
  · rw [h1]
    exact ⟨Nat.le_refl _, rfl, fun j hj => by simpa using h2 j (by simpa using hj)⟩
theorem fi_eq {xs : List Int} {i k : Nat} (h1 : k ≤ i) (h2 : nth xs k = nth xs i) (h3 : ∀ j, j < k → nth xs j ≠ nth xs i) : fi xs i = k := by
  obtain ⟨q1, q2, q3⟩ := fi_spec xs i
  rcases Nat.lt_trichotomy (fi xs i) k with h | h | h
  · exact absurd q2 (h3 _ h)
  · exact h
  · exact absurd h2 (q3 _ h)
theorem fi_fi (xs : List Int) (i : Nat) : fi xs (fi xs i) = fi xs i := by
  obtain ⟨q1, q2, q3⟩ := fi_spec xs i
  exact fi_eq (Nat.le_refl _) rfl fun j hj => by rw [q2]; exact q3 j hj
theorem fi_same {xs : List Int} {i j : Nat} (h : nth xs i = nth xs j) : fi xs i = fi xs j := by
  obtain ⟨p1, p2, p3⟩ := fi_spec xs i
  obtain ⟨q1, q2, q3⟩ := fi_spec xs j
  rcases Nat.lt_trichotomy (fi xs i) (fi xs j) with e | e | e
  · exact absurd (p2.trans h) (q3 _ e)
  · exact e
  · exact absurd (q2.trans h.symm) (p3 _ e)

/-- How many blocks the first i items have. -/
def nx (xs : List Int) : Nat → Nat
  | 0 => 0
  | i + 1 => if fi xs i = i then nx xs i + 1 else nx xs i
/-- The block of item i. -/
def nb (xs : List Int) (i : Nat) : Nat := nx xs (fi xs i)
theorem nx_le (xs : List Int) (i : Nat) : nx xs i ≤ i := by
  induction i with
  | zero => exact Nat.le_refl _
  | succ i ih => unfold nx; split <;> omega
theorem nx_mono (xs : List Int) {i j : Nat} (h : i ≤ j) : nx xs i ≤ nx xs j := by
  induction j with
  | zero => obtain rfl : i = 0 := by omega
            exact Nat.le_refl _
  | succ j ih =>
    by_cases e : i = j + 1
    · rw [e]; exact Nat.le_refl _
    · have := ih (by omega)
      show _ ≤ nx xs (j + 1)
      rw [nx]
      split <;> omega
theorem nb_le (xs : List Int) (i : Nat) : nb xs i ≤ nx xs i := nx_mono xs (fi_spec xs i).1
theorem nb_lt (xs : List Int) {i k : Nat} (h : i < k) : nb xs i < nx xs k := by
  have h1 := fi_spec xs i
  have h2 : nx xs (fi xs i + 1) = nx xs (fi xs i) + 1 := by
    show (if _ then _ else _) = _
    rw [if_pos (fi_fi xs i)]
  have h3 : nx xs (fi xs i + 1) ≤ nx xs k := nx_mono xs (by omega)
  unfold nb
  omega
/-- Item i is new. -/
theorem nb_new {xs : List Int} {i : Nat} (h : ∀ j, j < i → nth xs j ≠ nth xs i) : nb xs i = nx xs i ∧ nx xs (i + 1) = nx xs i + 1 := by
  have e : fi xs i = i := fi_eq (Nat.le_refl _) rfl h
  refine ⟨by unfold nb; rw [e], ?_⟩
  show (if _ then _ else _) = _
  rw [if_pos e]
/-- Item i was there before, at j. -/
theorem nb_old {xs : List Int} {i j : Nat} (hj : j < i) (h : nth xs j = nth xs i) : nb xs i = nb xs j ∧ nx xs (i + 1) = nx xs i := by
  have e : fi xs i = fi xs j := fi_same h.symm
  have h1 := fi_spec xs j
  refine ⟨by unfold nb; rw [e], ?_⟩
  show (if _ then _ else _) = _
  rw [if_neg (by omega)]
theorem nb_onto (xs : List Int) (k v : Nat) (h : v < nx xs k) : ∃ j, j < k ∧ nb xs j = v := by
  induction k with
  | zero => exact absurd h (by simp [nx])
  | succ k ih =>
    by_cases hv : v < nx xs k
    · obtain ⟨j, h1, h2⟩ := ih hv
      exact ⟨j, by omega, h2⟩
    · rw [nx] at h
      split at h
      · rename_i e
        exact ⟨k, by omega, by unfold nb; rw [e]; omega⟩
      · omega

/-- The normal form. -/
def nrm (xs : List Int) : List Int := (List.range xs.length).map fun i => (nb xs i : Int)
theorem nrm_length (xs : List Int) : (nrm xs).length = xs.length := by simp [nrm]
theorem nth_nrm (xs : List Int) (i : Nat) (h : i < xs.length) : nth (nrm xs) i = nb xs i := by simp [nth, nrm, h]
theorem list_ext {xs ys : List Int} (hl : xs.length = ys.length) (h : ∀ i, i < xs.length → nth xs i = nth ys i) : xs = ys := by
  refine List.ext_getElem hl fun i h1 h2 => ?_
  have := h i h1
  rwa [nth_eq xs i h1, nth_eq ys i h2] at this
/-- Is a list a partition? -/
def isPart (xs : List Int) : Bool := decide (1 ≤ xs.length ∧ xs.length ≤ 40) && decide (xs = nrm xs)
theorem isPart_size {xs : List Int} (h : ¬ (1 ≤ xs.length ∧ xs.length ≤ 40)) : isPart xs = false := by simp [isPart, h]
theorem isPart_bad {xs : List Int} (i : Nat) (hi : i < xs.length) (h : nth xs i ≠ nb xs i) : isPart xs = false := by
  have : decide (xs = nrm xs) = false := decide_eq_false fun e => h (by
    have := congrArg (fun l => nth l i) e
    simpa [nth_nrm xs i hi] using this)
  simp [isPart, this]
theorem isPart_good {xs : List Int} (h1 : 1 ≤ xs.length) (h2 : xs.length ≤ 40) (h : ∀ i, i < xs.length → nth xs i = nb xs i) : isPart xs = true := by
  have : xs = nrm xs := list_ext (nrm_length xs).symm fun i hi => by rw [h i hi, nth_nrm xs i hi]
  simp [isPart, h1, h2, ← this]
/-- One step of the reference's test: the items before k are right; item k is the next new number. -/
theorem part_next {xs : List Int} {k : Nat} (h : ∀ i, i < k → nth xs i = nb xs i) (hk : nth xs k = nx xs k) : nth xs k = nb xs k ∧ nx xs (k + 1) = nx xs k + 1 := by
  have hn := nb_new (xs := xs) (i := k) fun j hj e => by
    have := nb_lt xs hj
    rw [h j hj, hk] at e
    omega
  exact ⟨by rw [hk, hn.1], hn.2⟩
/-- .. or an old number. -/
theorem part_old {xs : List Int} {k : Nat} (h : ∀ i, i < k → nth xs i = nb xs i) (h0 : 0 ≤ nth xs k) (hk : nth xs k < nx xs k) : nth xs k = nb xs k ∧ nx xs (k + 1) = nx xs k := by
  obtain ⟨v, hv⟩ := Int.eq_ofNat_of_zero_le h0
  obtain ⟨j, hj, hjv⟩ := nb_onto xs k v (by omega)
  have e : nth xs j = nth xs k := by rw [h j hj, hv, hjv]
  have ho := nb_old hj e
  exact ⟨by rw [hv, ho.1, hjv], ho.2⟩
/-- .. else no partition. -/
theorem part_not {xs : List Int} {k : Nat} (hk : nth xs k < 0 ∨ nx xs k < nth xs k) : nth xs k ≠ nb xs k := fun e => by
  have := nb_le xs k
  rw [e] at hk
  omega
theorem next_all {P : Nat → Prop} {k : Nat} (h : ∀ i, i < k → P i) (hk : P k) : ∀ i, i < k + 1 → P i := fun i hi => by
  by_cases e : i = k
  · rw [e]; exact hk
  · exact h i (by omega)
/-- The normal form hangs on which items are equal, and on nothing else. -/
theorem fi_congr {a b : List Int} {n : Nat} (h : ∀ i j, i < n → j < n → (nth a i = nth a j ↔ nth b i = nth b j)) {i : Nat} (hi : i < n) : fi a i = fi b i := by
  obtain ⟨q1, q2, q3⟩ := fi_spec b i
  exact fi_eq q1 ((h _ _ (by omega) hi).2 q2) fun j hj e => q3 j hj ((h _ _ (by omega) hi).1 e)
theorem nx_congr {a b : List Int} {n : Nat} (h : ∀ i j, i < n → j < n → (nth a i = nth a j ↔ nth b i = nth b j)) {i : Nat} (hi : i ≤ n) : nx a i = nx b i := by
  induction i with
  | zero => rfl
  | succ i ih => rw [nx, nx, fi_congr h (by omega), ih (by omega)]
theorem nrm_congr {a b : List Int} (hl : a.length = b.length) (h : ∀ i j, i < a.length → j < a.length → (nth a i = nth a j ↔ nth b i = nth b j)) : nrm a = nrm b := by
  refine list_ext (by rw [nrm_length, nrm_length, hl]) fun i hi => ?_
  rw [nrm_length] at hi
  rw [nth_nrm a i hi, nth_nrm b i (by omega)]
  unfold nb
  have := (fi_spec b i).1
  rw [fi_congr h hi, nx_congr h (by omega)]
theorem isPart_iff {xs : List Int} : isPart xs = true ↔ 1 ≤ xs.length ∧ xs.length ≤ 40 ∧ ∀ i, i < xs.length → nth xs i = nb xs i := by
  constructor
  · intro h
    simp only [isPart, Bool.and_eq_true, decide_eq_true_eq] at h
    exact ⟨h.1.1, h.1.2, fun i hi => by rw [← nth_nrm xs i hi, ← h.2]⟩
  · exact fun ⟨h1, h2, h3⟩ => isPart_good h1 h2 h3
theorem part_bd {xs : List Int} (h : isPart xs = true) (i : Nat) (hi : i < xs.length) : 0 ≤ nth xs i ∧ nth xs i < xs.length := by
  have h3 := (isPart_iff.1 h).2.2 i hi
  have h4 := nb_lt xs hi
  have h5 := nx_le xs xs.length
  omega

/-- Two partitions, mixed into one list of numbers. -/
def mix (m : Int) (p q : List Int) (i : Nat) : Int := nth p i * m + nth q i
def mixL (m : Int) (p q : List Int) : List Int := (List.range p.length).map (mix m p q)
theorem mixL_length (m : Int) (p q : List Int) : (mixL m p q).length = p.length := by simp [mixL]
theorem nth_mixL (m : Int) (p q : List Int) (i : Nat) (h : i < p.length) : nth (mixL m p q) i = mix m p q i := by simp [nth, mixL, h]
theorem mix_iff {m a b c d : Int} (hb0 : 0 ≤ b) (hb : b < m) (hd0 : 0 ≤ d) (hd : d < m) : a * m + b = c * m + d ↔ a = c ∧ b = d := by
  constructor
  · intro h
    have h1 : (a * m + b) / m = (c * m + d) / m := by rw [h]
    have h2 : (a * m + b) % m = (c * m + d) % m := by rw [h]
    rw [Int.add_comm, Int.add_mul_ediv_right _ _ (by omega), Int.add_comm (c * m), Int.add_mul_ediv_right _ _ (by omega), Int.ediv_eq_zero_of_lt hb0 hb, Int.ediv_eq_zero_of_lt hd0 hd] at h1
    rw [Int.add_comm, Int.add_mul_emod_self_right, Int.add_comm (c * m), Int.add_mul_emod_self_right, Int.emod_eq_of_lt hb0 hb, Int.emod_eq_of_lt hd0 hd] at h2
    omega
  · rintro ⟨rfl, rfl⟩; rfl
theorem mix_nrm {p q : List Int} {m m' : Int} (q0 : ∀ i, i < p.length → 0 ≤ nth q i ∧ nth q i < m ∧ nth q i < m') : nrm (mixL m p q) = nrm (mixL m' p q) := by
  refine nrm_congr (by rw [mixL_length, mixL_length]) fun i j hi hj => ?_
  rw [mixL_length] at hi hj
  rw [nth_mixL _ _ _ _ hi, nth_mixL _ _ _ _ hj, nth_mixL _ _ _ _ hi, nth_mixL _ _ _ _ hj]
  unfold mix
  have h1 := q0 i hi
  have h2 := q0 j hj
  rw [mix_iff h1.1 h1.2.1 h2.1 h2.2.1, mix_iff h1.1 h1.2.2 h2.1 h2.2.2]

/-- Items in one block of p are in one block of q. -/
def refM (p q : List Int) : Bool := decide (∀ i, i < p.length → ∀ k, k < i → nth p i = nth p k → nth q i = nth q k)
theorem refM_bad {p q : List Int} {i k : Nat} (hi : i < p.length) (hk : k < i) (h1 : nth p i = nth p k) (h2 : nth q i ≠ nth q k) : refM p q = false :=
  decide_eq_false fun h => h2 (h i hi k hk h1)
theorem refM_good {p q : List Int} (h : ∀ i, i < p.length → ∀ k, k < i → nth p i = nth p k → nth q i = nth q k) : refM p q = true := decide_eq_true h
/-- What the map of p's blocks to q's holds after i items. -/
def fstv (p : List Int) (g : Nat → Int) (i : Nat) (x : Int) : Option Int := ((List.range i).find? fun k => nth p k == x).map g
theorem fstv_none {p : List Int} {g : Nat → Int} {i : Nat} {x : Int} (h : (fstv p g i x).isSome = false) : ∀ j, j < i → nth p j ≠ x := by
  unfold fstv at h
  rcases find_range (fun k => nth p k == x) i with ⟨k, h1, _⟩ | ⟨_, h2⟩
  · rw [h1] at h; cases h
  · exact fun j hj => by simpa using h2 j hj
theorem fstv_some {p : List Int} {g : Nat → Int} {i : Nat} {x : Int} (h : (fstv p g i x).isSome = true) : ∃ k, k < i ∧ nth p k = x ∧ fstv p g i x = some (g k) := by
  unfold fstv at h ⊢
  rcases find_range (fun k => nth p k == x) i with ⟨k, h1, h2, h3, _⟩ | ⟨h1, _⟩
  · exact ⟨k, h2, by simpa using h3, by rw [h1]; rfl⟩
  · rw [h1] at h; cases h
theorem fstv_put {p : List Int} {g : Nat → Int} {i : Nat} (h : ∀ v, fstv p g i (nth p i) = some v → v = g i) : (fun z => if z = nth p i then some (g i) else fstv p g i z) = fstv p g (i + 1) := by
  funext z
  unfold fstv at h ⊢
  rw [List.range_succ, List.find?_append]
  by_cases e : z = nth p i
  · subst e
    rw [if_pos rfl]
    rcases find_range (fun k => nth p k == nth p i) i with ⟨k, h1, _⟩ | ⟨h1, _⟩
    · rw [h1] at h ⊢
      rw [← h (g k) rfl]
      rfl
    · rw [h1]
      simp
  · rw [if_neg e]
    cases hf : (List.range i).find? (fun k => nth p k == z) with
    | none => simp [show nth p i ≠ z from fun q => e q.symm]
    | some k => simp
end Go.Proofs.YtcakmchefbohoaaGreatDoor
