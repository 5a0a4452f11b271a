/- The plain law of decimal numerals: which lists of bytes are one, and what it says. No program in sight. -/
import Derived.Lib.ItoaMem
import Derived.Lib.ItoaNum
import Derived.Lib.ParseIntB
import Derived.Lib.Strings
set_option linter.unusedVariables false
set_option linter.unusedSimpArgs false
namespace Go.Proofs.YtcakmchefbohoaaGreatDoor

def isDig (c : UInt8) : Bool := decide (48 ≤ c.toNat) && decide (c.toNat ≤ 57)
theorem isDig_iff {c : UInt8} : isDig c = true ↔ 48 ≤ c.toNat ∧ c.toNat ≤ 57 := by simp [isDig]
def dval (c : UInt8) : Nat := c.toNat - 48
def valD (acc : Nat) (l : List UInt8) : Nat := l.foldl (fun n c => 10 * n + dval c) acc
theorem valD_cons (a : Nat) (c : UInt8) (r : List UInt8) : valD a (c :: r) = valD (10 * a + (c.toNat - 48)) r := by
  unfold valD
  rw [List.foldl_cons]
  rfl
theorem valD_nil (a : Nat) : valD a [] = a := by
  unfold valD
  rw [List.foldl_nil]
theorem valD_append (a : Nat) (x y : List UInt8) : valD a (x ++ y) = valD (valD a x) y := by
  induction x generalizing a with
  | nil => rw [List.nil_append, valD_nil]
  | cons c r ih => rw [List.cons_append, valD_cons, valD_cons, ih]
theorem valD_ge (a : Nat) (x : List UInt8) : a ≤ valD a x := by
  induction x generalizing a with
  | nil => rw [valD_nil]; exact Nat.le_refl _
  | cons c r ih => rw [valD_cons]; exact Nat.le_trans (by omega) (ih _)
theorem valD_lt (a k : Nat) (x : List UInt8) (hx : x.all isDig = true) (hk : x.length ≤ k) (ha : a < 10 ^ (18 - k)) (h18 : k ≤ 18) : valD a x < 10 ^ 18 := by
  induction x generalizing a k with
  | nil => rw [valD_nil]; exact Nat.lt_of_lt_of_le ha (Nat.pow_le_pow_right (by decide) (by omega))
  | cons c r ih =>
    simp only [List.all_cons, Bool.and_eq_true] at hx
    have hc := isDig_iff.1 hx.1
    simp only [List.length_cons] at hk
    rw [valD_cons]
    refine ih (10 * a + (c.toNat - 48)) (k - 1) hx.2 (by omega) ?_ (by omega)
    rw [show 18 - (k - 1) = (18 - k) + 1 by omega, Nat.pow_succ]
    omega
theorem dec_ne (u : Nat) : Lib.decDigits u ≠ [] := by
  intro h
  have := congrArg List.length h
  rw [Lib.decDigits_length] at this
  have := Lib.nDigits_pos u
  simp at *
  omega
theorem digitC {d : Nat} (h : d ≤ 9) : (UInt8.ofNat (48 + d)).toNat = 48 + d := by rw [UInt8.toNat_ofNat']; omega
theorem dec_all (u : Nat) : (Lib.decDigits u).all isDig = true := by
  induction u using Nat.strongRecOn with
  | _ u ih =>
    rw [Lib.decDigits]
    split
    · rename_i h
      simp only [List.all_cons, List.all_nil, Bool.and_true]
      rw [isDig_iff, digitC (by omega)]; omega
    · rename_i h
      rw [List.all_append, ih (u / 10) (by omega)]
      simp only [List.all_cons, List.all_nil, Bool.and_true, Bool.true_and]
      rw [isDig_iff, digitC (by omega)]; omega
theorem dec_head (u : Nat) (hu : 1 ≤ u) : (Lib.decDigits u).head? ≠ some 48 := by
  induction u using Nat.strongRecOn with
  | _ u ih =>
    rw [Lib.decDigits]
    split
    · rename_i h
      intro e
      simp only [List.head?_cons, Option.some.injEq] at e
      have := congrArg UInt8.toNat e
      rw [digitC (by omega)] at this
      have h48 : (48 : UInt8).toNat = 48 := rfl
      omega
    · rename_i h
      have := ih (u / 10) (by omega) (by omega)
      rw [List.head?_append]
      cases hd : (Lib.decDigits (u / 10)).head? with
      | none => exact absurd (List.head?_eq_none_iff.1 hd) (dec_ne _)
      | some c => rw [hd] at this; simpa using this
theorem dec_val (u : Nat) : valD 0 (Lib.decDigits u) = u := by
  induction u using Nat.strongRecOn with
  | _ u ih =>
    by_cases h : u < 10
    · rw [Lib.decDigits, dif_pos h]
      rw [valD_cons, valD_nil, digitC (by omega)]; omega
    · rw [Lib.decDigits, dif_neg h, valD_append, ih (u / 10) (by omega)]
      rw [valD_cons, valD_nil, digitC (by omega)]; omega
theorem u8_of {c : UInt8} (h : 48 ≤ c.toNat ∧ c.toNat ≤ 57) : UInt8.ofNat (48 + (c.toNat - 48)) = c := by
  rw [show 48 + (c.toNat - 48) = c.toNat by omega]
  exact UInt8.ofNat_toNat
theorem dec_step (v c : Nat) (hv : 1 ≤ v) (hc : c ≤ 9) : Lib.decDigits (10 * v + c) = Lib.decDigits v ++ [UInt8.ofNat (48 + c)] := by
  conv => lhs; rw [Lib.decDigits]
  rw [dif_neg (by omega), show (10 * v + c) / 10 = v by omega, show (10 * v + c) % 10 = c by omega]
theorem dec_many (r : List UInt8) (v : Nat) (hv : 1 ≤ v) (hr : r.all isDig = true) : Lib.decDigits (valD v r) = Lib.decDigits v ++ r := by
  induction r generalizing v with
  | nil => simp [valD_nil]
  | cons c r ih =>
    simp only [List.all_cons, Bool.and_eq_true] at hr
    have hc := isDig_iff.1 hr.1
    have h1 := ih (10 * v + (c.toNat - 48)) (by omega) hr.2
    have h2 := dec_step v (c.toNat - 48) hv (by omega)
    rw [u8_of hc] at h2
    rw [h2] at h1
    rw [valD_cons, h1, List.append_assoc, List.singleton_append]
theorem dec_of (b : List UInt8) (hb : b.all isDig = true) (hn : b ≠ []) (hh : b.head? ≠ some 48 ∨ b.length ≤ 1) : Lib.decDigits (valD 0 b) = b := by
  match b, hn with
  | c :: r, _ =>
    simp only [List.all_cons, Bool.and_eq_true] at hb
    have hc := isDig_iff.1 hb.1
    have h0 : Lib.decDigits (c.toNat - 48) = [c] := by
      rw [Lib.decDigits, dif_pos (by omega), u8_of hc]
    have e : 10 * 0 + (c.toNat - 48) = c.toNat - 48 := by omega
    rw [valD_cons, e]
    by_cases h1 : 1 ≤ c.toNat - 48
    · rw [dec_many r _ h1 hb.2, h0, List.singleton_append]
    · have hr : r = [] := by
        rcases hh with h | h
        · exfalso
          apply h
          have : c = 48 := UInt8.toNat_inj.1 (by have h48 : (48 : UInt8).toNat = 48 := rfl; omega)
          rw [this]; rfl
        · simp only [List.length_cons] at h
          exact List.length_eq_zero_iff.1 (by omega)
      rw [hr, valD_nil]
      exact h0
theorem parse_of (M a : Nat) (b : List UInt8) (hb : b.all isDig = true) (hv : valD a b < 10 ^ 18) (hM : 10 ^ 18 ≤ M) : Lib.parseUintM M a b = .ok (valD a b) := by
  induction b generalizing a with
  | nil => rw [valD_nil, Lib.parseUintM]
  | cons c r ih =>
    simp only [List.all_cons, Bool.and_eq_true] at hb
    have hc := isDig_iff.1 hb.1
    rw [valD_cons] at hv ⊢
    have h1 := valD_ge (10 * a + (c.toNat - 48)) r
    have e : a * 10 + (c.toNat - 48) = 10 * a + (c.toNat - 48) := by omega
    rw [Lib.parseUintM, if_pos hc, if_neg (by omega), if_neg (by omega), e]
    exact ih _ hb.2 hv
/-- The digits of a numeral, its sign left out; whether it is the numeral of a number of at most 18 digits; the number. -/
def nbody (l : List UInt8) : List UInt8 := if l.head? = some 45 then l.tail else l
def canon (l : List UInt8) : Bool := !(nbody l).isEmpty && decide ((nbody l).length ≤ 18) && !(decide ((nbody l).head? = some 48) && decide (1 < l.length)) && (nbody l).all isDig
def numV (l : List UInt8) : Int := if l.head? = some 45 then -(valD 0 (nbody l) : Int) else (valD 0 (nbody l) : Int)
theorem trim_body (l : List UInt8) : Lib.trimPrefix l [45] = nbody l := by
  unfold Lib.trimPrefix Lib.hasPrefix nbody
  cases l with
  | nil => rfl
  | cons c r =>
    by_cases h : c = 45
    · subst h; simp
    · have h2 : ¬ (45 : UInt8) = c := fun e => h e.symm
      simp [h, h2]
theorem canon_parts {l : List UInt8} (h : canon l = true) : nbody l ≠ [] ∧ (nbody l).length ≤ 18 ∧ ((nbody l).head? ≠ some 48 ∨ l.length ≤ 1) ∧ (nbody l).all isDig = true := by
  simp only [canon, Bool.and_eq_true, Bool.not_eq_true', decide_eq_true_eq, Bool.and_eq_false_iff, decide_eq_false_iff_not] at h
  refine ⟨by intro e; rw [e] at h; simp at h, h.1.1.2, ?_, h.2⟩
  rcases h.1.2 with h2 | h2
  · exact Or.inl h2
  · exact Or.inr (by omega)
theorem canon_mk {l : List UInt8} (h1 : nbody l ≠ []) (h2 : (nbody l).length ≤ 18) (h3 : (nbody l).head? ≠ some 48 ∨ l.length ≤ 1) (h4 : (nbody l).all isDig = true) : canon l = true := by
  simp only [canon, Bool.and_eq_true, Bool.not_eq_true', decide_eq_true_eq, Bool.and_eq_false_iff, decide_eq_false_iff_not, h4, and_true]
  refine ⟨⟨by simpa using h1, h2⟩, ?_⟩
  rcases h3 with h | h
  · exact Or.inl h
  · exact Or.inr (by omega)
theorem canon_good {l : List UInt8} (h : canon l = true) : Lib.itoa (numV l) = l ∧ Lib.parseIntB 64 l = .ok (numV l) ∧ -1000000000000000000 < numV l ∧ numV l < 1000000000000000000 := by
  obtain ⟨h1, h2, h3, h4⟩ := canon_parts h
  have hlt : valD 0 (nbody l) < 10 ^ 18 := valD_lt 0 18 _ h4 h2 (by decide) (Nat.le_refl _)
  have hp := parse_of (2 ^ 64 - 1) 0 (nbody l) h4 hlt (by decide)
  obtain ⟨N, hN⟩ : ∃ N, N = valD 0 (nbody l) := ⟨_, rfl⟩
  have hlt2 : N < 1000000000000000000 := by rw [hN]; exact hlt
  cases l with
  | nil => exact absurd rfl h1
  | cons c r =>
    by_cases hc : c = 45
    · have hb : nbody (c :: r) = r := by unfold nbody; rw [if_pos (by rw [hc]; rfl)]; rfl
      have hv : numV (c :: r) = -(N : Int) := by unfold numV; rw [if_pos (by rw [hc]; rfl), hN]
      rw [hb] at h1 h3 h4 hp hN
      have hh : r.head? ≠ some 48 := by
        rcases h3 with h | h
        · exact h
        · simp only [List.length_cons] at h
          exact absurd (List.length_eq_zero_iff.1 (by omega)) h1
      have hd := dec_of r h4 h1 (Or.inl hh)
      rw [← hN] at hd hp
      have hN1 : 1 ≤ N := by
        match r, h1, hh, h4, hN with
        | d :: q, _, hh, h4, hN =>
          rw [List.all_cons, Bool.and_eq_true] at h4
          have := isDig_iff.1 h4.1
          have hne : d.toNat ≠ 48 := fun e => hh (by rw [List.head?_cons, UInt8.toNat_inj.1 (show d.toNat = (48 : UInt8).toNat from e)])
          rw [valD_cons] at hN
          have := valD_ge (10 * 0 + (d.toNat - 48)) q
          omega
      rw [hv]
      refine ⟨by rw [Lib.itoa_neg N hN1, hd, hc], ?_, by omega, by omega⟩
      have hcn : c.toNat = 45 := by rw [hc]; rfl
      unfold Lib.parseIntB
      simp only [hcn, or_true, if_true, Lib.parseUintB, if_neg h1, hp, not_true, false_and, if_false, true_and]
      rw [if_neg (Nat.not_lt.2 (Nat.le_of_lt (Nat.lt_trans hlt2 (by decide))))]
    · have hhd : ¬ (c :: r).head? = some 45 := by simpa using hc
      have hb : nbody (c :: r) = c :: r := by unfold nbody; rw [if_neg hhd]
      have hv : numV (c :: r) = (N : Int) := by unfold numV; rw [if_neg hhd, hN]
      rw [hb] at h1 h3 h4 hp hN
      have hd := dec_of (c :: r) h4 h1 h3
      rw [← hN] at hd hp
      rw [hv]
      refine ⟨by rw [Lib.itoa_nonneg N, hd], ?_, by omega, by omega⟩
      have hdig := isDig_iff.1 (by rw [List.all_cons, Bool.and_eq_true] at h4; exact h4.1)
      have h43 : ¬ c.toNat = 43 := by omega
      have h45 : ¬ c.toNat = 45 := by omega
      unfold Lib.parseIntB
      simp only [h43, h45, or_self, if_false, Lib.parseUintB, if_neg h1, hp, not_false_eq_true, true_and, false_and]
      rw [if_neg (Nat.not_le.2 (Nat.lt_trans hlt2 (by decide)))]
theorem canon_itoa {v : Int} (h18 : (nbody (Lib.itoa v)).length ≤ 18) : canon (Lib.itoa v) = true := by
  by_cases hv : v < 0
  · obtain ⟨N, hN, h1⟩ : ∃ N : Nat, v = -(N : Int) ∧ 1 ≤ N := ⟨v.natAbs, by omega, by omega⟩
    rw [hN, Lib.itoa_neg N h1] at h18 ⊢
    have hb : nbody (45 :: Lib.decDigits N) = Lib.decDigits N := by unfold nbody; rw [if_pos List.head?_cons]; rfl
    rw [hb] at h18
    exact canon_mk (by rw [hb]; exact dec_ne N) (by rw [hb]; exact h18) (Or.inl (by rw [hb]; exact dec_head N h1)) (by rw [hb]; exact dec_all N)
  · obtain ⟨N, hN⟩ : ∃ N : Nat, v = (N : Int) := ⟨v.natAbs, by omega⟩
    rw [hN, Lib.itoa_nonneg N] at h18 ⊢
    have hall := dec_all N
    have hb : nbody (Lib.decDigits N) = Lib.decDigits N := by
      unfold nbody
      rw [if_neg]
      intro e
      match hd : Lib.decDigits N, dec_ne N with
      | c :: r, _ =>
        rw [hd, List.all_cons, Bool.and_eq_true] at hall
        rw [hd, List.head?_cons, Option.some.injEq] at e
        have := isDig_iff.1 hall.1
        rw [e] at this
        exact absurd this.1 (by decide)
    rw [hb] at h18
    refine canon_mk (by rw [hb]; exact dec_ne N) (by rw [hb]; exact h18) ?_ (by rw [hb]; exact hall)
    rw [hb]
    by_cases h0 : N = 0
    · right
      rw [h0, Lib.decDigits, dif_pos (by omega)]
      exact Nat.le_refl _
    · exact Or.inl (dec_head N (by omega))
theorem canon_bad {l : List UInt8} (h : canon l = false) (h18 : (nbody l).length ≤ 18) (v : Int) : Lib.itoa v ≠ l := by
  intro e
  rw [← e] at h h18
  rw [canon_itoa h18] at h
  cases h
/-- Where the digits begin. -/
def nat0 (l : List UInt8) : Nat := if l.head? = some 45 then 1 else 0
theorem nbody_drop (l : List UInt8) : nbody l = l.drop (nat0 l) := by
  unfold nbody nat0
  by_cases h : l.head? = some 45
  · rw [if_pos h, if_pos h, List.drop_one]
  · rw [if_neg h, if_neg h, List.drop_zero]
theorem nbody_length (l : List UInt8) : (nbody l).length = l.length - nat0 l := by rw [nbody_drop, List.length_drop]
theorem valD_take (b : List UInt8) (j : Nat) (h : j < b.length) : valD 0 (b.take (j + 1)) = 10 * valD 0 (b.take j) + (b[j].toNat - 48) := by
  rw [List.take_succ_eq_append_getElem h, valD_append, valD_cons, valD_nil]
theorem all_take_bad (b : List UInt8) (j : Nat) (h : j < b.length) (hb : isDig b[j] = false) : b.all isDig = false := by
  cases e : b.all isDig with
  | false => rfl
  | true =>
    rw [List.all_eq_true.1 e _ (List.getElem_mem h)] at hb
    cases hb
theorem all_take_succ (b : List UInt8) (j : Nat) (h : j < b.length) (h1 : (b.take j).all isDig = true) (h2 : isDig b[j] = true) : (b.take (j + 1)).all isDig = true := by
  rw [List.take_succ_eq_append_getElem h, List.all_append, h1]
  simp [h2]
end Go.Proofs.YtcakmchefbohoaaGreatDoor
