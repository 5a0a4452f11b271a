/- Contracts: a partition from its blocks, of the program and of the reference. -/
import Derived.Test.YtcakmchefbohoaaGreatDoorProg
import Derived.Test.YtcakmchefbohoaaGreatDoorMem
import Derived.Test.YtcakmchefbohoaaGreatDoorMath
import Derived.Test.YtcakmchefbohoaaGreatDoorBasics
import Derived.Test.YtcakmchefbohoaaGreatDoorOpenI
import Derived.Test.YtcakmchefbohoaaGreatDoorHelpI
import Derived.Test.YtcakmchefbohoaaGreatDoorGrid
import Derived.Test.YtcakmchefbohoaaGreatDoorPart
import Derived.Test.YtcakmchefbohoaaGreatDoorCmp
import Derived.Test.YtcakmchefbohoaaGreatDoorPartW
import Derived.Test.YtcakmchefbohoaaGreatDoorConc
import Derived.Test.YtcakmchefbohoaaGreatDoorRel
import Derived.Test.YtcakmchefbohoaaGreatDoorSpan
import Derived.Test.YtcakmchefbohoaaGreatDoorRept
import Derived.WalkKit
import Derived.BigQuiet
import Derived.BigRegion
import Derived.Deep.QuietTactic
import Derived.Maps.AppendAt
import Derived.Laws.OwnMore
import Derived.Lib.SliceRun
import Derived.Lib.Hide
import Derived.Outline
set_option linter.unusedVariables false
set_option linter.unusedSimpArgs false
namespace Go.Proofs.YtcakmchefbohoaaGreatDoor
open Go.RowKit

/-- A list that has no items; the items of a list all lie in a range. -/
def noItems (b : List Int) : Bool := decide (b.length = 0)
def rowIn (m : Int) (b : List Int) : Bool := b.all fun x => inR x 0 m
/-- One item put into the list of blocks; the first k items of a block; the first i blocks. -/
def fbStep (id x : Int) (L : List Int) : Option (List Int) := if 0 ≤ nth L x.toNat then none else some (L.set x.toNat id)
def fbRow (id : Int) (b : List Int) (L : List Int) : Nat → Option (List Int)
  | 0 => some L
  | k + 1 => (fbRow id b L k).bind (fbStep id (nth b k))
def fbAll (n : Nat) (B : List (List Int)) : Nat → Option (List Int)
  | 0 => some (List.replicate n (-1))
  | i + 1 => (fbAll n B i).bind fun L => fbRow i (rnth B i) L (rnth B i).length
def hasI (L : List Int) (n : Int) : Bool := L.contains n
def fbRes (n : Nat) (B : List (List Int)) : Option (List Int) := fbAll n B B.length
def fbCode (n : Int) (B : List (List Int)) : Int :=
  if B.any noItems = true then 1 else if (inR n 1 40 && B.all (rowIn (n - 1))) = false then 2
  else match fbRes n.toNat B with
    | none => 4
    | some L => if hasI L (-1) = true then 3 else 0
def fbOut (n : Int) (B : List (List Int)) : List Int :=
  if fbCode n B = 0 then (match fbRes n.toNat B with | none => [] | some L => nrm L) else []
theorem fbRow_none {id : Int} {b L : List Int} {k : Nat} (h : fbRow id b L k = none) : ∀ q, k ≤ q → fbRow id b L q = none := by
  intro q hq
  induction q with
  | zero => obtain rfl : k = 0 := by omega
            exact h
  | succ q ih =>
    by_cases e : k = q + 1
    · rw [← e]; exact h
    · rw [fbRow, ih (by omega)]; rfl
theorem fbAll_none {n : Nat} {B : List (List Int)} {k : Nat} (h : fbAll n B k = none) : ∀ q, k ≤ q → fbAll n B q = none := by
  intro q hq
  induction q with
  | zero => obtain rfl : k = 0 := by omega
            exact h
  | succ q ih =>
    by_cases e : k = q + 1
    · rw [← e]; exact h
    · rw [fbAll, ih (by omega)]; rfl
theorem fbStep_len {id x : Int} {L M : List Int} (h : fbStep id x L = some M) : M.length = L.length := by
  unfold fbStep at h
  split at h
  · cases h
  · cases h; rw [List.length_set]
theorem fbRow_len {id : Int} {b L : List Int} : ∀ {k : Nat} {M : List Int}, fbRow id b L k = some M → M.length = L.length
  | 0, M, h => by cases h; rfl
  | k + 1, M, h => by
    rw [fbRow] at h
    cases h2 : fbRow id b L k with
    | none => rw [h2] at h; cases h
    | some X =>
      rw [h2] at h
      exact (fbStep_len h).trans (fbRow_len h2)
theorem fbAll_len {n : Nat} {B : List (List Int)} : ∀ {k : Nat} {M : List Int}, fbAll n B k = some M → M.length = n
  | 0, M, h => by cases h; rw [List.length_replicate]
  | k + 1, M, h => by
    rw [fbAll] at h
    cases h2 : fbAll n B k with
    | none => rw [h2] at h; cases h
    | some X =>
      rw [h2] at h
      exact (fbRow_len h).trans (fbAll_len h2)
/-- All items of a list of lists lie in a range. -/
theorem rows_in {m : Int} {B : List (List Int)} (h : B.all (rowIn m) = true) {i : Nat} (hi : i < B.length) {k : Nat} (hk : k < (rnth B i).length) : 0 ≤ nth (rnth B i) k ∧ nth (rnth B i) k ≤ m := by
  have h1 := List.all_eq_true.1 h (rnth B i) (by rw [rnth_eq B i hi]; exact List.getElem_mem hi)
  have h2 := List.all_eq_true.1 h1 (nth (rnth B i) k) (by rw [nth_eq _ _ hk]; exact List.getElem_mem hk)
  exact inR_true h2
theorem flat_in (m : Int) (B : List (List Int)) : B.flatten.all (fun x => inR x 0 m) = B.all (rowIn m) := by
  induction B with
  | nil => rfl
  | cons a r ih => rw [List.flatten_cons, List.all_append, ih, List.all_cons]; rfl
theorem fbOut_len (n : Int) (B : List (List Int)) : (fbOut n B).length ≤ 40 := by
  unfold fbOut
  split
  · next h =>
    split
    · simp
    · next L hL =>
      rw [nrm_length]
      have := fbAll_len hL
      unfold fbCode at h
      split at h
      · cases h
      · split at h
        · cases h
        · next h2 =>
          simp only [Bool.not_eq_false, Bool.and_eq_true] at h2
          have := inR_true h2.1
          omega
  · simp
theorem has_at {xs : List Int} {n : Int} {k : Nat} (hk : k < xs.length) (h : nth xs k = n) : hasI xs n = true := by
  unfold hasI
  rw [List.contains_iff_mem, ← h, nth_eq xs k hk]
  exact List.getElem_mem hk
theorem has_none {xs : List Int} {n : Int} (h : ∀ i, i < xs.length → nth xs i ≠ n) : hasI xs n = false := by
  cases hc : hasI xs n with
  | false => rfl
  | true =>
    unfold hasI at hc
    rw [List.contains_iff_mem] at hc
    obtain ⟨i, hi, e⟩ := List.getElem_of_mem hc
    exact absurd (by rw [nth_eq xs i hi]; exact e) (h i hi)
theorem nth_set_same {L : List Int} {p : Nat} {x : Int} (h : p < L.length) : nth (L.set p x) p = x := by
  rw [nth_eq _ _ (by rw [List.length_set]; exact h), List.getElem_set_self]
theorem nth_set_other {L : List Int} {p i : Nat} {x : Int} (h : i ≠ p) : nth (L.set p x) i = nth L i := by
  unfold nth
  rw [List.getD_eq_getElem?_getD, List.getD_eq_getElem?_getD, List.getElem?_set_ne (fun e => h e.symm)]
theorem nth_replicate {n k : Nat} {x : Int} (h : k < n) : nth (List.replicate n x) k = x := by
  rw [nth_eq _ _ (by rw [List.length_replicate]; exact h), List.getElem_replicate]
theorem fbStep_hit {id : Int} {p : Nat} {L : List Int} (h : 0 ≤ nth L p) : fbStep id (p : Int) L = none := by
  unfold fbStep; rw [show ((p : Int)).toNat = p by omega, if_pos h]
theorem fbStep_miss {id : Int} {p : Nat} {L : List Int} (h : ¬ 0 ≤ nth L p) : fbStep id (p : Int) L = some (L.set p id) := by
  unfold fbStep; rw [show ((p : Int)).toNat = p by omega, if_neg h]
/-- The list behind i blocks and k items of the next one. -/
def fbAt (n : Nat) (B : List (List Int)) (i k : Nat) : Option (List Int) := (fbAll n B i).bind fun L => fbRow i (rnth B i) L k
theorem fbAt_zero {n : Nat} {B : List (List Int)} {i : Nat} {L : List Int} (h : fbAll n B i = some L) : fbAt n B i 0 = some L := by rw [fbAt, h]; rfl
theorem fbAt_end {n : Nat} {B : List (List Int)} {i : Nat} {L : List Int} (h : fbAt n B i (rnth B i).length = some L) : fbAll n B (i + 1) = some L := h
theorem fbAt_next {n : Nat} {B : List (List Int)} {i k : Nat} {L : List Int} (h : fbAt n B i k = some L) : fbAt n B i (k + 1) = fbStep i (nth (rnth B i) k) L := by
  unfold fbAt at h ⊢
  cases h2 : fbAll n B i with
  | none => rw [h2] at h; cases h
  | some X =>
    rw [h2] at h
    simp only [Option.bind_some] at h ⊢
    rw [fbRow, h]; rfl
theorem fbAt_len {n : Nat} {B : List (List Int)} {i k : Nat} {L : List Int} (h : fbAt n B i k = some L) : L.length = n := by
  unfold fbAt at h
  cases h2 : fbAll n B i with
  | none => rw [h2] at h; cases h
  | some X =>
    rw [h2] at h
    exact (fbRow_len h).trans (fbAll_len h2)
theorem fbAt_bad {n : Nat} {B : List (List Int)} {i k : Nat} (hi : i < B.length) (hk : k < (rnth B i).length) (h : fbAt n B i (k + 1) = none) : fbRes n B = none := by
  refine fbAll_none (k := i + 1) ?_ _ hi
  unfold fbAt at h
  rw [fbAll]
  cases h2 : fbAll n B i with
  | none => rfl
  | some X =>
    rw [h2] at h
    exact fbRow_none h _ hk
theorem any_hit {B : List (List Int)} {k : Nat} (h : k < B.length) (hp : (rnth B k).length = 0) : B.any noItems = true := by
  rw [List.any_eq_true]
  exact ⟨_, List.getElem_mem h, by rw [← rnth_eq B k h]; exact decide_eq_true hp⟩
theorem any_miss {B : List (List Int)} (h : ∀ k, k < B.length → (rnth B k).length ≠ 0) : B.any noItems = false := by
  cases hc : B.any noItems with
  | false => rfl
  | true =>
    obtain ⟨b, hb, h2⟩ := List.any_eq_true.1 hc
    obtain ⟨i, hi, rfl⟩ := List.getElem_of_mem hb
    exact absurd (by rw [rnth_eq B i hi]; exact of_decide_eq_true h2) (h i hi)
theorem all_hitR {p : Int → Bool} {xs : List Int} {k : Nat} (h : k < xs.length) (hp : p (nth xs k) = false) : xs.all p = false := by
  cases he : xs.all p with
  | false => rfl
  | true =>
    have := List.all_eq_true.1 he _ (List.getElem_mem h)
    rw [← nth_eq xs k h, hp] at this
    cases this
theorem all_good {p : Int → Bool} {xs : List Int} (h : ∀ k, k < xs.length → p (nth xs k) = true) : xs.all p = true := by
  rw [List.all_eq_true]
  intro x hx
  obtain ⟨i, hi, rfl⟩ := List.getElem_of_mem hx
  rw [← nth_eq xs i hi]
  exact h i hi
theorem rows_hit {m : Int} {B : List (List Int)} {i : Nat} (hi : i < B.length) (h : rowIn m (rnth B i) = false) : B.all (rowIn m) = false := by
  cases he : B.all (rowIn m) with
  | false => rfl
  | true =>
    have := List.all_eq_true.1 he _ (List.getElem_mem hi)
    rw [← rnth_eq B i hi, h] at this
    cases this
theorem rows_good {m : Int} {B : List (List Int)} (h : ∀ i, i < B.length → rowIn m (rnth B i) = true) : B.all (rowIn m) = true := by
  rw [List.all_eq_true]
  intro x hx
  obtain ⟨i, hi, rfl⟩ := List.getElem_of_mem hx
  rw [← rnth_eq B i hi]
  exact h i hi
theorem row_hit {m : Int} {b : List Int} {k : Nat} (hk : k < b.length) (h : inR (nth b k) 0 m = false) : rowIn m b = false := all_hitR hk h
theorem fbCode_ok {j : Nat} {B : List (List Int)} (h1 : B.any noItems = false) (h2 : inR (j : Int) 1 40 = true) (h3 : B.all (rowIn ((j : Int) - 1)) = true) :
    (fbRes j B = none → fbCode j B = 4) ∧ ∀ L, fbRes j B = some L → fbCode j B = if hasI L (-1) = true then 3 else 0 := by
  have e : fbCode j B = match fbRes j B with | none => 4 | some L => if hasI L (-1) = true then 3 else 0 := by
    unfold fbCode; rw [h1, if_neg (by simp), h2, h3, if_neg (by simp)]; rw [show ((j : Int)).toNat = j by omega]
  exact ⟨fun h => by rw [e, h], fun L h => by rw [e, h]⟩
theorem fbOut_ok {j : Nat} {B : List (List Int)} : (fbCode j B ≠ 0 → fbOut j B = []) ∧ ∀ L, fbRes j B = some L → fbCode j B = 0 → fbOut j B = nrm L := by
  have e : fbOut j B = if fbCode j B = 0 then (match fbRes j B with | none => [] | some L => nrm L) else [] := by unfold fbOut; rw [show ((j : Int)).toNat = j by omega]
  exact ⟨fun h => by rw [e, if_neg h], fun L h h2 => by rw [e, if_pos h2, h]⟩
theorem l00Has_any (v : Value) (xs : List Int) (n : Int) (w : World) (hv : RdI w v xs) : Calls Tryz.prog 72 #[v, .int .i64 n] w fun e w' => e = .returned (.bool (hasI xs n)) ∧ w = w' := by
  obtain ⟨a, cap, rfl, hcap, hm, hv⟩ := hv
  unfold maxLen at hm
  go_enter Tryz.func72, Tryz.ntmps72
  go_wp2
  go_loop [5] (fun si => ∃ k : Nat, k ≤ xs.length ∧ si = .int .i64 k ∧ Hid (∀ i, i < k → nth xs i ≠ n)) (fun si => xs.length - (intOf si).toNat)
  case atStart => exact ⟨0, Nat.zero_le _, rfl, Lib.hid fun i h => absurd h (by omega)⟩
  case round =>
    obtain ⟨k, hk, rfl, hn⟩ := hrel
    by_cases hlt : k < xs.length
    · obtain ⟨b, o, rfl, hb, hc⟩ := hv (by omega)
      have g1 : w.cell? ⟨b, o + k, none⟩ = some (.int .i64 (nth xs k)) := hc k (by omega)
      clear hc
      by_cases he : nth xs k = n
      · have he2 : (nth xs k == n) = true := by simp [he]
        have H : Hid (hasI xs n = true) := Lib.hid (has_at hlt he)
        clear he
        go_wp2
        go_ret
        exact ⟨by rw [H.out]; rfl, rfl⟩
      · have he2 : (nth xs k == n) = false := by simp [he]
        have H : Hid (∀ i, i < k + 1 → nth xs i ≠ n) := Lib.hid (next_all hn.out he)
        clear he
        go_wp2
        go_round
        case rel => exact ⟨k + 1, by omega, by go_num, H⟩
        case measure => simp [intOf]; omega
    · have H : Hid (hasI xs n = false) := Lib.hid (has_none fun i hi => hn.out i (by omega))
      go_wp2
      go_ret
      exact ⟨by rw [H.out]; rfl, rfl⟩
theorem slicesContainsI_index (v : Value) (xs : List Int) (n : Int) (w : World) (hv : RdI w v xs) : Calls Tryz.prog 90 #[v, .int .i64 n] w fun e w' => ∃ r : Int, e = .returned (.int .i64 r) ∧ decide (0 ≤ r) = hasI xs n ∧ w = w' := by
  obtain ⟨a, cap, rfl, hcap, hm, hv⟩ := hv
  unfold maxLen at hm
  go_enter Tryz.func90, Tryz.ntmps90
  go_wp2
  go_loop [8] (fun si => ∃ k : Nat, k ≤ xs.length ∧ si = .int .i64 k ∧ Hid (∀ i, i < k → nth xs i ≠ n)) (fun si => xs.length - (intOf si).toNat)
  case atStart => exact ⟨0, Nat.zero_le _, rfl, Lib.hid fun i h => absurd h (by omega)⟩
  case round =>
    obtain ⟨k, hk, rfl, hn⟩ := hrel
    by_cases hlt : k < xs.length
    · obtain ⟨b, o, rfl, hb, hc⟩ := hv (by omega)
      have g1 : w.cell? ⟨b, o + k, none⟩ = some (.int .i64 (nth xs k)) := hc k (by omega)
      clear hc
      by_cases he : nth xs k = n
      · have he2 : (n == nth xs k) = true := by simp [he]
        have H : Hid (hasI xs n = true) := Lib.hid (has_at hlt he)
        clear he
        go_wp2
        go_ret
        exact ⟨k, rfl, by rw [H.out]; exact decide_eq_true (by omega), rfl⟩
      · have he2 : (n == nth xs k) = false := by simp; exact fun e => he e.symm
        have H : Hid (∀ i, i < k + 1 → nth xs i ≠ n) := Lib.hid (next_all hn.out he)
        clear he
        go_wp2
        go_round
        case rel => exact ⟨k + 1, by omega, by go_num, H⟩
        case measure => simp [intOf]; omega
    · have H : Hid (hasI xs n = false) := Lib.hid (has_none fun i hi => hn.out i (by omega))
      go_wp2
      go_ret
      exact ⟨-1, rfl, by rw [H.out]; rfl, rfl⟩
theorem slicesContainsI_any (v : Value) (xs : List Int) (n : Int) (w : World) (hv : RdI w v xs) : Calls Tryz.prog 53 #[v, .int .i64 n] w fun e w' => e = .returned (.bool (hasI xs n)) ∧ w = w' := by
  obtain ⟨a, cap, rfl⟩ := hv.slice
  have HV := Lib.hid hv
  clear hv
  go_enter Tryz.func53, Tryz.ntmps53
  go_wp2_with fail
  refine (slicesContainsI_index _ xs n _ HV.out).mono ?_
  rintro e w' ⟨r, rfl, hr, rfl⟩
  go_wp2_with fail
  go_ret
  exact ⟨by rw [← hr]; rfl, rfl⟩
set_option maxRecDepth 100000 in
set_option maxHeartbeats 2000000 in
theorem spec_FromBlocks_any (n : Int) (vb : Value) (B : List (List Int)) (w : World) (rb : RdII w vb B) :
    Calls Tryz.prog 58 #[.int .i64 n, vb] w fun e w' => ∃ u, e = .returned (.tuple #[u, .int .i64 (fbCode n B)]) ∧ OwI w' w.heap.size u (fbOut n B) ∧ Below w.heap.size w w' := by
  obtain ⟨vs, ⟨a, cap, rfl, hcap, hcm, hc⟩, hrows⟩ := rb
  have Hrows := Lib.hid hrows; clear hrows
  unfold maxLen at hcm
  obtain ⟨i0, hi, hz0, hz1, hz2⟩ := info_parts infoI64
  obtain ⟨q, hq⟩ : ∃ q, q = B.length := ⟨_, rfl⟩
  rw [← hq] at hcap hc ⊢
  have Hq := Lib.hid hq
  clear hq
  go_enter Tryz.func58, Tryz.ntmps58
  go_wp2_with fail
  go_loop [6] (fun si => ∃ k : Nat, k ≤ q ∧ si = .int .i64 k ∧ Hid (∀ i, i < k → (rnth B i).length ≠ 0)) (fun si => q - (intOf si).toNat)
  case atStart => exact ⟨0, Nat.zero_le _, rfl, Lib.hid fun i h => absurd h (by omega)⟩
  case round =>
  obtain ⟨k, hk, rfl, hne⟩ := hrel
  by_cases hlt : k < q
  · obtain ⟨b1, o1, rfl, hb1, hc1⟩ := hc (by omega)
    obtain ⟨ak, ck, hvk⟩ := (Hrows.out k (by rw [← Hq.out]; exact hlt)).slice
    have g1 : w.cell? ⟨b1, o1 + k, none⟩ = some (.slice ak (rnth B k).length ck) := by rw [hc1 k (by omega), hvk]
    clear hc1 hc hvk
    by_cases h0 : (rnth B k).length = 0
    · have H : Hid (fbCode n B = 1) := Lib.hid (by unfold fbCode; rw [if_pos (any_hit (by rw [← Hq.out]; exact hlt) h0)])
      have H2 : Hid (fbOut n B = []) := Lib.hid (by unfold fbOut; rw [H.out]; rfl)
      rw [h0] at g1
      clear h0
      go_wp2_with fail
      go_ret2
      rw [H.out, H2.out]
      exact ⟨_, rfl, OwI_nil _ _, Below.refl _ _⟩
    · have H : Hid (∀ i, i < k + 1 → (rnth B i).length ≠ 0) := Lib.hid (next_all hne.out h0)
      obtain ⟨m, hm⟩ : ∃ m, m = (rnth B k).length := ⟨_, rfl⟩
      rw [← hm] at h0 g1
      have hb : ((m : Int) == 0) = false := by simp; omega
      clear hm
      go_wp2_with fail
      go_round
      case rel => exact ⟨k + 1, by omega, by go_num, H⟩
      case measure => simp [intOf]; omega
  obtain rfl : k = q := by omega
  have hA : Hid (B.any noItems = false) := Lib.hid (any_miss fun i hi => hne.out i (by rw [Hq.out]; exact hi))
  clear hne
  cases hN : inR n 1 40 with
  | false =>
    have HN := Lib.hid hN
    have H : Hid (fbCode n B = 2) := Lib.hid (by unfold fbCode; rw [hA.out, if_neg (by simp), hN]; rfl)
    have H2 : Hid (fbOut n B = []) := Lib.hid (by unfold fbOut; rw [H.out]; rfl)
    clear hN
    go_wp2_with fail
    refine (l00In_any _ _ _ _).mono ?_
    rw [HN.out]
    rintro e w' ⟨rfl, rfl⟩
    go_wp2_with fail
    go_ret2
    rw [H.out, H2.out]
    exact ⟨_, rfl, OwI_nil _ _, Below.refl _ _⟩
  | true =>
  have HN := Lib.hid hN
  obtain ⟨hn1, hn2⟩ := inR_true hN
  clear hN
  go_wp2_with fail
  refine (l00In_any _ _ _ _).mono ?_
  rw [HN.out]
  rintro e w' ⟨rfl, rfl⟩
  go_wp2_with fail
  go_loop [7] (fun si => ∃ i : Nat, i ≤ k ∧ si = .int .i64 i ∧ Hid (∀ j, j < i → rowIn (n - 1) (rnth B j) = true)) (fun si => k - (intOf si).toNat)
  case atStart => exact ⟨0, Nat.zero_le _, rfl, Lib.hid fun i h => absurd h (by omega)⟩
  case round =>
  obtain ⟨i, hi2, rfl, hne⟩ := hrel
  by_cases hlt2 : i < k
  · obtain ⟨b1, o1, rfl, hb1, hc1⟩ := hc (by omega)
    have hrk := Hrows.out i (by rw [← Hq.out]; exact hlt2)
    obtain ⟨m, hm⟩ : ∃ m, m = (rnth B i).length := ⟨_, rfl⟩
    unfold RdI at hrk
    rw [← hm] at hrk
    obtain ⟨ak, ck, hvk, hmc, hmm, hck⟩ := hrk
    unfold maxLen at hmm
    have g1 : w.cell? ⟨b1, o1 + i, none⟩ = some (.slice ak m ck) := by rw [hc1 i (by omega), hvk]
    have Hm := Lib.hid hm
    clear hc1 hc hvk hm
    go_wp2_with fail
    go_loop [8] (fun si => ∃ j : Nat, j ≤ m ∧ si = .int .i64 j ∧ Hid (∀ t, t < j → inR (nth (rnth B i) t) 0 (n - 1) = true)) (fun si => m - (intOf si).toNat)
    case atStart => exact ⟨0, Nat.zero_le _, rfl, Lib.hid fun i h => absurd h (by omega)⟩
    case round =>
    obtain ⟨j, hj, rfl, hin⟩ := hrel
    by_cases hlt3 : j < m
    · obtain ⟨b2, o2, rfl, hb2, hc2⟩ := hck (by omega)
      have g2 : w.cell? ⟨b2, o2 + j, none⟩ = some (.int .i64 (nth (rnth B i) j)) := hc2 j (by omega)
      clear hc2
      cases hx : inR (nth (rnth B i) j) 0 (n - 1) with
      | false =>
        have HX := Lib.hid hx
        have H : Hid (fbCode n B = 2) := Lib.hid (by unfold fbCode; rw [hA.out, if_neg (by simp), rows_hit (by rw [← Hq.out]; exact hlt2) (row_hit (by rw [← Hm.out]; exact hlt3) hx)]; simp)
        have H2 : Hid (fbOut n B = []) := Lib.hid (by unfold fbOut; rw [H.out]; rfl)
        clear hx
        go_wp2_with fail
        refine (l00In_any _ _ _ _).mono ?_
        rw [HX.out]
        rintro e w' ⟨rfl, rfl⟩
        go_wp2_with fail
        go_ret2
        rw [H.out, H2.out]
        exact ⟨_, rfl, OwI_nil _ _, Below.refl _ _⟩
      | true =>
        have HX := Lib.hid hx
        have H : Hid (∀ t, t < j + 1 → inR (nth (rnth B i) t) 0 (n - 1) = true) := Lib.hid (next_all hin.out hx)
        clear hx
        go_wp2_with fail
        refine (l00In_any _ _ _ _).mono ?_
        rw [HX.out]
        rintro e w' ⟨rfl, rfl⟩
        go_wp2_with fail
        go_round
        case rel => exact ⟨j + 1, by omega, by go_num, H⟩
        case measure => simp [intOf]; omega
    · have H : Hid (∀ j, j < i + 1 → rowIn (n - 1) (rnth B j) = true) := Lib.hid (next_all hne.out (all_good fun t ht => hin.out t (by have := Hm.out; omega)))
      go_wp2_with fail
      go_round
      case rel => exact ⟨i + 1, by omega, by go_num, H⟩
      case measure => simp [intOf]; omega
  obtain rfl : i = k := by omega
  have hAll : Hid (B.all (rowIn (n - 1)) = true) := Lib.hid (rows_good fun j hj => hne.out j (by rw [Hq.out]; exact hj))
  obtain ⟨m, rfl⟩ : ∃ m : Nat, n = (m : Int) := ⟨n.toNat, by omega⟩
  have hFC : Hid (fbCode m B = match fbRes m B with | none => 4 | some L => if hasI L (-1) = true then 3 else 0) := Lib.hid (by
    unfold fbCode; rw [hA.out, if_neg (by simp), HN.out, hAll.out, if_neg (by simp)]; rw [show ((m : Int)).toNat = m by omega])
  have hFO : Hid (fbOut m B = if fbCode m B = 0 then (match fbRes m B with | none => [] | some L => nrm L) else []) := Lib.hid (by unfold fbOut; rw [show ((m : Int)).toNat = m by omega])
  clear hne hA HN
  go_wp2_with (at_make; refine wpList_make_full _ rfl _ _ 47 rfl w.heap.size 2 i0 (.int .i64 0) 1 Tryz.underlying47 hi hz0 hz1 _ _ _ _ m rfl rfl rfl rfl ?b2 ?b3 (Nat.le_refl _) ?_)
  case b2 => first | omega | (rw [hz2]; omega)
  case b3 => unfold maxLen; omega
  intro w0 hown0 hgrow0
  rw [toList_madeCells_one] at hown0
  rw [← fillRow_zero (ic (List.replicate m (-1)))] at hown0
  go_wp2_with fail
  go_loopw [10] (fun si wr => ∃ k : Nat, k ≤ m ∧ si = .int .i64 k ∧ wr.ownsRow w.heap.size 2 1 (.slice (some ⟨w.heap.size, 0, none⟩) m m) m (fillRow (ic (List.replicate m (-1))) m k (.int .i64 0)) ∧ Below w.heap.size w wr)
    (fun si _ => m - (intOf si).toNat)
  case atStart => exact ⟨0, Nat.zero_le _, rfl, hown0, (Below.refl _ _).grown hgrow0 (Nat.le_refl _) (fun k h => by cases h)⟩
  case round =>
  obtain ⟨j, hj, rfl, hown, hbl⟩ := hrel
  by_cases hlt : j < m
  · have hold := (hown.cellAt j (by omega)).trans (fillRow_get (ic (List.replicate m (-1))) m j (.int .i64 0) hlt)
    have hfz := hown.frozenAt j
    have e : ic (List.replicate m (-1)) j = .int .i64 (-1) := by unfold ic; rw [nth_replicate hlt]
    have hs1 := (hown.stored j (ic (List.replicate m (-1)) j)).1
    rw [fillRow_set _ _ _ _ hlt, e] at hs1
    have hs2 : Below w.heap.size w (wr.setCell ⟨w.heap.size, j, none⟩ (.int .i64 (-1))) := hbl.setCell (Nat.le_refl _) _
    clear e
    go_wp2_with fail
    go_roundw
    case rel => exact ⟨j + 1, by omega, by go_num, hs1, hs2⟩
    case measure => simp [intOf]; omega
  obtain rfl : j = m := by omega
  have hin : OwI wr w.heap.size (.slice (some ⟨w.heap.size, 0, none⟩) j j) (List.replicate j (-1)) := by
    unfold OwI
    rw [List.length_replicate]
    exact ownsRow_ow hown _ fun i hi => fillRow_full _ _ _ _ (by omega)
  obtain ⟨h1, hh1⟩ : ∃ h1, h1 = wr.heap.size := ⟨_, rfl⟩
  have hin2 := hin.inn
  rw [← hh1] at hin2
  obtain ⟨wx, hwx⟩ : ∃ wx : World, wx = wr := ⟨_, rfl⟩
  have hh2 : w.heap.size ≤ h1 := by rw [hh1]; exact hbl.size
  rw [← hwx] at hbl hin2 ⊢
  have Hin := Lib.hid hin2
  clear hin hin2 hown hown0 hgrow0 hh1 hwx
  go_wp2_with fail
  go_loopw [11] (fun si wr => ∃ (t : Nat) (L : List Int), t ≤ i ∧ si = .int .i64 t ∧ Hid (fbAll j B t = some L ∧ InI wr w.heap.size h1 (.slice (some ⟨w.heap.size, 0, none⟩) j j) L) ∧ Below w.heap.size w wr) (fun si _ => i - (intOf si).toNat)
  case atStart => exact ⟨0, _, Nat.zero_le _, rfl, Lib.hid ⟨rfl, Hin.out⟩, hbl⟩
  case round =>
  clear hbl Hin
  obtain ⟨t, L, ht, rfl, HI, hbl⟩ := hrel
  by_cases hlt2 : t < i
  · obtain ⟨b1, o1, rfl, hb1, hc1⟩ := hc (by omega)
    have hrk := Hrows.out t (by rw [← Hq.out]; exact hlt2)
    obtain ⟨m, hm⟩ : ∃ m, m = (rnth B t).length := ⟨_, rfl⟩
    unfold RdI at hrk
    rw [← hm] at hrk
    obtain ⟨ak, ck, hvk, hmc, hmm, hck⟩ := hrk
    unfold maxLen at hmm
    have G1 : Hid (w.cell? ⟨b1, o1 + t, none⟩ = some (.slice ak m ck)) := Lib.hid (by rw [hc1 t (by omega), hvk])
    have g1 : wr.cell? ⟨b1, o1 + t, none⟩ = some (.slice ak m ck) := (hbl.cell (by exact hb1)).trans G1.out
    have Hm := Lib.hid hm
    have Hck := Lib.hid hck
    clear hc hc1 hvk hm hck
    go_wp2_with fail
    clear g1
    go_loopw [12] (fun si wr => ∃ (u : Nat) (L : List Int), u ≤ m ∧ si = .int .i64 u ∧ Hid (fbAt j B t u = some L ∧ InI wr w.heap.size h1 (.slice (some ⟨w.heap.size, 0, none⟩) j j) L) ∧ Below w.heap.size w wr) (fun si _ => m - (intOf si).toNat)
    case atStart => exact ⟨0, L, Nat.zero_le _, rfl, Lib.hid ⟨fbAt_zero HI.out.1, HI.out.2⟩, hbl⟩
    case round =>
    clear hbl HI
    obtain ⟨u, L, hu, rfl, HI, hbl⟩ := hrel
    have g1 : wr.cell? ⟨b1, o1 + t, none⟩ = some (.slice ak m ck) := (hbl.cell (by exact hb1)).trans G1.out
    have hLl : L.length = j := fbAt_len HI.out.1
    by_cases hlt3 : u < m
    · obtain ⟨b2, o2, rfl, hb2, hc2⟩ := Hck.out (by omega)
      have g2 : wr.cell? ⟨b2, o2 + u, none⟩ = some (.int .i64 (nth (rnth B t) u)) := (hbl.cell (by exact hb2)).trans (hc2 u (by omega))
      obtain ⟨x1, x2⟩ := rows_in hAll.out (i := t) (by rw [← Hq.out]; exact hlt2) (k := u) (by rw [← Hm.out]; exact hlt3)
      obtain ⟨p, hp⟩ : ∃ p : Nat, nth (rnth B t) u = (p : Int) := ⟨(nth (rnth B t) u).toNat, by omega⟩
      rw [hp] at g2 x1 x2
      have hpj : p < j := by omega
      have hnx := fbAt_next HI.out.1
      rw [hp] at hnx
      have hI : In wr w.heap.size h1 1 (.slice (some ⟨w.heap.size, 0, none⟩) j j) j (ic L) := by have := HI.out.2; unfold InI at this; rwa [hLl] at this
      have HIn := Lib.hid hI
      obtain ⟨_, _, e1, _, _, hcl⟩ := hI
      cases e1
      obtain ⟨_, _, e1, _, _, _, hcl⟩ := hcl (by omega)
      cases e1
      have g3 : wr.cell? ⟨w.heap.size, p, none⟩ = some (.int .i64 (nth L p)) := by have := (hcl p (by omega)).1; rw [Nat.zero_add] at this; exact this
      have hfz : wr.frozen? ⟨w.heap.size, p, none⟩ = false := by have := (hcl p (by omega)).2; rw [Nat.zero_add] at this; exact this
      clear hcl hc2 hp x1 x2
      by_cases hx : 0 ≤ nth L p
      · rw [fbStep_hit hx] at hnx
        have hR := fbAt_bad (by rw [← Hq.out]; exact hlt2) (by rw [← Hm.out]; exact hlt3) hnx
        have H : Hid (fbCode j B = 4) := Lib.hid (by rw [hFC.out, hR])
        have H2 : Hid (fbOut j B = []) := Lib.hid (by rw [hFO.out, H.out]; rfl)
        clear hnx hR
        go_wp2_with fail
        go_ret2
        rw [H.out, H2.out]
        exact ⟨_, rfl, OwI_nil _ _, hbl⟩
      · rw [fbStep_miss hx] at hnx
        have hst := In_store HIn.out hpj (x := .int .i64 t) (cs' := ic (L.set p t)) (by unfold ic; rw [nth_set_same (by omega)]) (fun i _ h => by unfold ic; rw [nth_set_other h])
        rw [Nat.zero_add] at hst
        have hb' : Below w.heap.size w (wr.setCell ⟨w.heap.size, p, none⟩ (.int .i64 t)) := hbl.setCell (Nat.le_refl _) _
        have HI2 : Hid (fbAt j B t (u + 1) = some (L.set p t) ∧ InI (wr.setCell ⟨w.heap.size, p, none⟩ (.int .i64 t)) w.heap.size h1 (.slice (some ⟨w.heap.size, 0, none⟩) j j) (L.set p t)) := Lib.hid ⟨hnx, by unfold InI; rw [List.length_set, hLl]; exact hst.1⟩
        clear hnx hst HIn HI
        go_wp2_with fail
        go_roundw
        case rel => exact ⟨u + 1, _, by omega, by go_num, HI2, hb'⟩
        case measure => simp [intOf]; omega
    · obtain rfl : u = m := by omega
      have HI2 : Hid (fbAll j B (t + 1) = some L ∧ InI wr w.heap.size h1 (.slice (some ⟨w.heap.size, 0, none⟩) j j) L) := Lib.hid ⟨fbAt_end (by rw [← Hm.out]; exact HI.out.1), HI.out.2⟩
      clear HI
      go_wp2_with fail
      go_roundw
      case rel => exact ⟨t + 1, L, by omega, by go_num, HI2, hbl⟩
      case measure => simp [intOf]; omega
  obtain rfl : t = i := by omega
  have hR : fbRes j B = some L := by unfold fbRes; rw [← Hq.out]; exact HI.out.1
  have hLl : L.length = j := fbAll_len HI.out.1
  have HIn := Lib.hid HI.out.2
  cases hC : hasI L (-1) with
  | true =>
    have H : Hid (fbCode j B = 3) := Lib.hid (by rw [hFC.out, hR]; simp only [hC, if_true])
    have H2 : Hid (fbOut j B = []) := Lib.hid (by rw [hFO.out, H.out]; rfl)
    have HC := Lib.hid hC
    clear hC hR HI
    go_wp2_with fail
    refine (l00Has_any _ L (-1) _ HIn.out.rd).mono ?_
    rw [HC.out]
    rintro e w' ⟨rfl, rfl⟩
    go_wp2_with fail
    go_ret2
    rw [H.out, H2.out]
    exact ⟨_, rfl, OwI_nil _ _, hbl⟩
  | false =>
    have H : Hid (fbCode j B = 0) := Lib.hid (by rw [hFC.out, hR]; simp only [hC]; rfl)
    have H2 : Hid (fbOut j B = nrm L) := Lib.hid (by rw [hFO.out, H.out, if_pos rfl, hR])
    have HC := Lib.hid hC
    clear hC hR HI
    go_wp2_with fail
    refine (l00Has_any _ L (-1) _ HIn.out.rd).mono ?_
    rw [HC.out]
    rintro e w' ⟨rfl, rfl⟩
    go_wp2_with fail
    refine (l02Norm_any _ L _ (by omega) HIn.out.rd).mono ?_
    rintro e w3 ⟨u, rfl, hu, hb3⟩
    go_wp2_with fail
    go_ret2
    rw [H.out, H2.out]
    exact ⟨_, rfl, hu.mono' hbl.size, hbl.trans (hb3.mono hbl.size)⟩
theorem from1_any (a : Option Addr) (m c : Nat) (w : World) : Calls Tryz.prog 102 #[.slice a m c] w fun e w' => e = .returned (.bool (decide (m = 0))) ∧ w = w' := by
  by_cases h : m = 0
  · subst h
    go_enter Tryz.func102, Tryz.ntmps102
    go_wp2_with fail
    go_ret
    exact ⟨rfl, rfl⟩
  · have hb : ((m : Int) == 0) = false := by simp; omega
    have H : Hid (decide (m = 0) = false) := Lib.hid (decide_eq_false h)
    clear h
    go_enter Tryz.func102, Tryz.ntmps102
    go_wp2_with fail
    go_ret
    exact ⟨by rw [H.out]; rfl, rfl⟩
theorem from1_index (v : Value) (B : List (List Int)) (w : World) (rb : RdII w v B) :
    Calls Tryz.prog 137 #[v, .func (.func 102) #[] #[]] w fun e w' => ∃ r : Int, e = .returned (.int .i64 r) ∧ decide (0 ≤ r) = B.any noItems ∧ w = w' := by
  obtain ⟨vs, ⟨a, cap, rfl, hcap, hcm, hc⟩, hrows⟩ := rb
  have Hrows := Lib.hid hrows; clear hrows
  unfold maxLen at hcm
  obtain ⟨q, hq⟩ : ∃ q, q = B.length := ⟨_, rfl⟩
  rw [← hq] at hcap hc ⊢
  have Hq := Lib.hid hq
  clear hq
  go_enter Tryz.func137, Tryz.ntmps137
  go_wp2_with fail
  go_loop [8] (fun si => ∃ k : Nat, k ≤ q ∧ si = .int .i64 k ∧ Hid (∀ i, i < k → (rnth B i).length ≠ 0)) (fun si => q - (intOf si).toNat)
  case atStart => exact ⟨0, Nat.zero_le _, rfl, Lib.hid fun i h => absurd h (by omega)⟩
  case round =>
    obtain ⟨k, hk, rfl, hne⟩ := hrel
    by_cases hlt : k < q
    · obtain ⟨b1, o1, rfl, hb1, hc1⟩ := hc (by omega)
      obtain ⟨ak, ck, hvk⟩ := (Hrows.out k (by rw [← Hq.out]; exact hlt)).slice
      obtain ⟨m, hm⟩ : ∃ m, m = (rnth B k).length := ⟨_, rfl⟩
      have g1 : w.cell? ⟨b1, o1 + k, none⟩ = some (.slice ak m ck) := by rw [hc1 k (by omega), hvk, hm]
      clear hc1 hc hvk
      by_cases h0 : m = 0
      · have H : Hid (B.any noItems = true) := Lib.hid (any_hit (by rw [← Hq.out]; exact hlt) (by rw [← hm]; exact h0))
        have hd : decide (m = 0) = true := decide_eq_true h0
        clear h0 hm
        go_wp2_with fail
        refine (from1_any _ _ _ _).mono ?_
        rw [hd]
        rintro e w' ⟨rfl, rfl⟩
        go_wp2_with fail
        go_ret
        exact ⟨k, rfl, by rw [H.out]; exact decide_eq_true (by omega), rfl⟩
      · have H : Hid (∀ i, i < k + 1 → (rnth B i).length ≠ 0) := Lib.hid (next_all hne.out (by rw [← hm]; exact h0))
        have hd : decide (m = 0) = false := decide_eq_false h0
        clear h0 hm
        go_wp2_with fail
        refine (from1_any _ _ _ _).mono ?_
        rw [hd]
        rintro e w' ⟨rfl, rfl⟩
        go_wp2_with fail
        go_round
        case rel => exact ⟨k + 1, by omega, by go_num, H⟩
        case measure => simp [intOf]; omega
    · obtain rfl : k = q := by omega
      have H2 : Hid (B.any noItems = false) := Lib.hid (any_miss fun i hi => hne.out i (by rw [Hq.out]; exact hi))
      go_wp2_with fail
      go_ret
      exact ⟨-1, rfl, by rw [H2.out]; rfl, rfl⟩
theorem from1_contains (v : Value) (B : List (List Int)) (w : World) (rb : RdII w v B) :
    Calls Tryz.prog 101 #[v, .func (.func 102) #[] #[]] w fun e w' => e = .returned (.bool (B.any noItems)) ∧ w = w' := by
  obtain ⟨a, cap, rfl⟩ := rb.slice
  have HV := Lib.hid rb
  clear rb
  go_enter Tryz.func101, Tryz.ntmps101
  go_wp2_with fail
  refine (from1_index _ B _ HV.out).mono ?_
  rintro e w' ⟨r, rfl, hr, rfl⟩
  go_wp2_with fail
  go_ret
  exact ⟨by rw [← hr]; rfl, rfl⟩
def outR (m n : Int) : Bool := !inR n 0 m
theorem from2_any (n i : Int) (c : Nat) (w : World) (hc : w.cell? ⟨c, 0, none⟩ = some (.int .i64 n)) : Calls Tryz.prog 105 #[.int .i64 i, .pointer (some ⟨c, 0, none⟩)] w fun e w' => e = .returned (.bool (outR (wrap64 (n - 1)) i)) ∧ w = w' := by
  go_enter Tryz.func105, Tryz.ntmps105
  go_wp2_with (go_at_call 78; refine (within_any _ _ _ _).mono ?_; rintro e w' ⟨rfl, rfl⟩)
  go_ret
  exact ⟨rfl, rfl⟩
theorem from2_index (v : Value) (n : Int) (c : Nat) (xs : List Int) (w : World) (hcc : w.cell? ⟨c, 0, none⟩ = some (.int .i64 n)) (hn : xs.length ≤ 4611686018427387904) (hv : RdI w v xs) :
    Calls Tryz.prog 138 #[v, .func (.func 105) #[] #[.pointer (some ⟨c, 0, none⟩)]] w fun e w' => ∃ r : Int, e = .returned (.int .i64 r) ∧ decide (0 ≤ r) = !rowIn (wrap64 (n - 1)) xs ∧ w = w' := by
  obtain ⟨a, cap, rfl, hcap, hm, hv⟩ := hv
  obtain ⟨q, hxn⟩ : ∃ n, n = xs.length := ⟨_, rfl⟩
  rw [← hxn] at hcap hv hn ⊢
  have Hxn := Lib.hid hxn; clear hxn
  go_enter Tryz.func138, Tryz.ntmps138
  go_wp2_with fail
  go_loop [8] (fun si => ∃ k : Nat, k ≤ q ∧ si = .int .i64 k ∧ Hid (∀ t, t < k → inR (nth xs t) 0 (wrap64 (n - 1)) = true)) (fun si => q - (intOf si).toNat)
  case atStart => exact ⟨0, Nat.zero_le _, rfl, Lib.hid fun i h => absurd h (by omega)⟩
  case round =>
    obtain ⟨k, hk, rfl, HL⟩ := hrel
    by_cases hlt : k < q
    · obtain ⟨b, o, rfl, hb, hc⟩ := hv (by omega)
      have hg : w.cell? ⟨b, o + k, none⟩ = some (.int .i64 (nth xs k)) := hc k (by omega)
      clear hc
      cases hp : inR (nth xs k) 0 (wrap64 (n - 1)) with
      | true =>
        have H2 : Hid (∀ t, t < k + 1 → inR (nth xs t) 0 (wrap64 (n - 1)) = true) := Lib.hid (next_all HL.out hp)
        have hq : Hid (outR (wrap64 (n - 1)) (nth xs k) = false) := Lib.hid (by rw [outR, hp]; rfl)
        clear HL hp
        go_wp2_with fail
        refine (from2_any n _ c _ hcc).mono ?_
        rw [hq.out]
        rintro e w' ⟨rfl, rfl⟩
        go_wp2_with fail
        go_round
        case rel => exact ⟨k + 1, by omega, by go_num, H2⟩
        case measure => simp [intOf]; omega
      | false =>
        have H2 : Hid (rowIn (wrap64 (n - 1)) xs = false) := Lib.hid (row_hit (by rw [← Hxn.out]; exact hlt) hp)
        have hq : Hid (outR (wrap64 (n - 1)) (nth xs k) = true) := Lib.hid (by rw [outR, hp]; rfl)
        clear HL hp
        go_wp2_with fail
        refine (from2_any n _ c _ hcc).mono ?_
        rw [hq.out]
        rintro e w' ⟨rfl, rfl⟩
        go_wp2_with fail
        go_ret
        exact ⟨k, rfl, by rw [H2.out]; exact decide_eq_true (by omega), rfl⟩
    · obtain rfl : k = q := by omega
      have H2 : Hid (rowIn (wrap64 (n - 1)) xs = true) := Lib.hid (all_good fun t ht => HL.out t (by rw [Hxn.out]; exact ht))
      go_wp2_with fail
      go_ret
      exact ⟨-1, rfl, by rw [H2.out]; rfl, rfl⟩
theorem from2_contains (v : Value) (n : Int) (c : Nat) (xs : List Int) (w : World) (hcc : w.cell? ⟨c, 0, none⟩ = some (.int .i64 n)) (hn : xs.length ≤ 4611686018427387904) (hv : RdI w v xs) :
    Calls Tryz.prog 104 #[v, .func (.func 105) #[] #[.pointer (some ⟨c, 0, none⟩)]] w fun e w' => e = .returned (.bool (!rowIn (wrap64 (n - 1)) xs)) ∧ w = w' := by
  obtain ⟨a, cap, rfl⟩ := hv.slice
  have HV := Lib.hid hv
  clear hv
  go_enter Tryz.func104, Tryz.ntmps104
  go_wp2_with fail
  refine (from2_index _ n c xs _ hcc hn HV.out).mono ?_
  rintro e w' ⟨r, rfl, hr, rfl⟩
  go_wp2_with fail
  go_ret
  exact ⟨by rw [← hr]; rfl, rfl⟩
end Go.Proofs.YtcakmchefbohoaaGreatDoor
