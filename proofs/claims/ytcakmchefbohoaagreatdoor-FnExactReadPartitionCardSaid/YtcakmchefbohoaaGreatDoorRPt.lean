/- ReadPartition: the plain law of what is read. -/
import Derived.Test.YtcakmchefbohoaaGreatDoorProg
import Derived.Test.YtcakmchefbohoaaGreatDoorMem
import Derived.Test.YtcakmchefbohoaaGreatDoorMath
import Derived.Test.YtcakmchefbohoaaGreatDoorPart
import Derived.Test.YtcakmchefbohoaaGreatDoorBlocks
import Derived.Test.YtcakmchefbohoaaGreatDoorNum
import Derived.Test.YtcakmchefbohoaaGreatDoorText
import Derived.Test.YtcakmchefbohoaaGreatDoorFld
import Derived.Test.YtcakmchefbohoaaGreatDoorList
import Derived.Test.YtcakmchefbohoaaGreatDoorPText
import Derived.Test.YtcakmchefbohoaaGreatDoorNumbers
import Derived.Test.YtcakmchefbohoaaGreatDoorWords
import Derived.Test.YtcakmchefbohoaaGreatDoorFrom
set_option linter.unusedVariables false
set_option linter.unusedSimpArgs false
namespace Go.Proofs.YtcakmchefbohoaaGreatDoor
open Go.RowKit

theorem nb_same {xs : List Int} {i j : Nat} : nb xs i = nb xs j ↔ nth xs i = nth xs j := by
  constructor
  · intro h
    obtain ⟨p1, p2, p3⟩ := fi_spec xs i
    obtain ⟨q1, q2, q3⟩ := fi_spec xs j
    have key : ∀ a b, fi xs a = a → fi xs b = b → a < b → nx xs a < nx xs b := by
      intro a b ha hb hab
      have := nb_lt xs (i := a) (k := b) hab
      unfold nb at this
      rwa [ha] at this
    unfold nb at h
    rcases Nat.lt_trichotomy (fi xs i) (fi xs j) with e | e | e
    · have := key _ _ (fi_fi xs i) (fi_fi xs j) e
      omega
    · rw [← p2, ← q2, e]
    · have := key _ _ (fi_fi xs j) (fi_fi xs i) e
      omega
  · intro h
    unfold nb
    rw [fi_same h]
theorem nrm_nrm (xs : List Int) : nrm (nrm xs) = nrm xs := by
  refine nrm_congr (nrm_length xs) fun i j hi hj => ?_
  rw [nrm_length] at hi hj
  rw [nth_nrm xs i hi, nth_nrm xs j hj]
  have := @nb_same xs i j
  omega
theorem isPart_nrm {xs : List Int} (h1 : 1 ≤ xs.length) (h2 : xs.length ≤ 40) : isPart (nrm xs) = true := by
  unfold isPart
  rw [nrm_nrm, nrm_length]
  simp [h1, h2]
theorem fb_part {n : Int} {B : List (List Int)} (h : fbCode n B = 0) : isPart (fbOut n B) = true := by
  have h0 := h
  unfold fbCode at h
  split at h
  · cases h
  · split at h
    · cases h
    · rename_i h2
      have h3 : inR n 1 40 = true := by
        cases e : inR n 1 40 with
        | true => rfl
        | false => rw [e] at h2; simp at h2
      simp only [inR, decide_eq_true_eq, Bool.and_eq_true] at h3
      unfold fbOut
      rw [if_pos h0]
      cases hr : fbRes n.toNat B with
      | none => rw [hr] at h; cases h
      | some L =>
        have hl := fbAll_len hr
        exact isPart_nrm (by omega) (by omega)

theorem splitD_joined {c : UInt8} : ∀ xs : List (List UInt8), xs ≠ [] → (∀ x ∈ xs, c ∉ x) → splitD c (Lib.join xs [c]) = xs := by
  intro xs
  induction xs with
  | nil => intro h; exact absurd rfl h
  | cons x r ih =>
    intro _ hx
    cases r with
    | nil => rw [Lib.join_one]; exact splitD_none (hx x (by simp))
    | cons y r =>
      have e : Lib.join (x :: y :: r) [c] = x ++ c :: Lib.join (y :: r) [c] := by
        rw [Lib.join_cons, Lib.join_cons]
        simp [Lib.joinTail]
      rw [e, splitD_at _ (hx x (by simp)), ih (by simp) (fun z hz => hx z (by simp [hz]))]
theorem not_mem_join {c d : UInt8} (hcd : c ≠ d) : ∀ xs : List (List UInt8), (∀ x ∈ xs, c ∉ x) → c ∉ Lib.join xs [d] := by
  intro xs h
  cases xs with
  | nil => rw [Lib.join_nil]; simp
  | cons x r =>
    rw [Lib.join_cons, List.mem_append]
    intro hm
    rcases hm with hm | hm
    · exact h x (by simp) hm
    · unfold Lib.joinTail at hm
      obtain ⟨l, hl, hc⟩ := List.mem_flatten.1 hm
      obtain ⟨y, hy, rfl⟩ := List.mem_map.1 hl
      rw [List.mem_append] at hc
      rcases hc with hc | hc
      · simp at hc; exact hcd hc
      · exact h y (by simp [hy]) hc
/-- The numerals of small numbers. -/
def smallOk (n : Nat) : Bool := canon (Lib.itoa (n : Int)) && !(Lib.itoa (n : Int)).contains 32 && !(Lib.itoa (n : Int)).contains 124
theorem small_all : (List.range 41).all smallOk = true := by decide +kernel
theorem small_num {x : Int} (h0 : 0 ≤ x) (h1 : x ≤ 40) : canon (Lib.itoa x) = true ∧ (32 : UInt8) ∉ Lib.itoa x ∧ (124 : UInt8) ∉ Lib.itoa x := by
  have := List.all_eq_true.1 small_all x.toNat (List.mem_range.2 (by omega))
  unfold smallOk at this
  rw [Int.toNat_of_nonneg h0] at this
  simp only [Bool.and_eq_true, Bool.not_eq_true', List.contains_eq_mem, decide_eq_false_iff_not] at this
  exact ⟨this.1.1, this.1.2, this.2⟩
def rpP (s : ByteArray) : List ByteArray := wordsB 124 s
def rpOk (s : ByteArray) : Bool := (rpP s).all fun p => canons (wordsB 32 p)
def rpB (s : ByteArray) : List (List Int) := (rpP s).map fun p => numsV (wordsB 32 p)
def rpOkI (s : ByteArray) : Bool := (rpP s).all fun p => canons (wordsF p)
def rpBI (s : ByteArray) : List (List Int) := (rpP s).map fun p => numsV (wordsF p)
def tot2 (B : List (List Int)) : Int := (total B : Int)
theorem text_ok {p : List Int} (h : isPart p = true) : rpOk (partText p) = true := by
  have hrow : ∀ xs ∈ blocksL p, xs ≠ [] ∧ ∀ x ∈ xs, 0 ≤ x ∧ x ≤ 40 := by
    intro xs hxs
    obtain ⟨b, hb, rfl⟩ := List.mem_map.1 hxs
    have hb := List.mem_range.1 hb
    obtain ⟨h1, h2, h3⟩ := isPart_iff.1 h
    constructor
    · obtain ⟨j, hj, hjb⟩ := nb_onto p p.length b hb
      intro e
      have hm : (j : Int) ∈ itemsTo p b p.length := by
        unfold itemsTo
        refine List.mem_map.2 ⟨j, List.mem_filter.2 ⟨List.mem_range.2 hj, ?_⟩, rfl⟩
        rw [h3 j hj, hjb]
        simp
      rw [e] at hm
      cases hm
    · intro x hx
      have := items_bd p b p.length x hx
      omega
  unfold partText rpOk rpP
  rw [if_pos h]
  have h124 : ∀ x ∈ (blocksL p).map rowT, (124 : UInt8) ∉ x := by
    intro x hx
    obtain ⟨xs, hxs, rfl⟩ := List.mem_map.1 hx
    unfold rowT joinN
    refine not_mem_join (by decide) _ fun y hy => ?_
    obtain ⟨n, hn, rfl⟩ := List.mem_map.1 hy
    have := (hrow xs hxs).2 n hn
    exact (small_num this.1 this.2).2.2
  have hne : (blocksL p).map rowT ≠ [] := by
    intro e
    have := (blocks_count h).1
    have hl := congrArg List.length e
    rw [List.length_map] at hl
    simp at hl
    rw [hl] at this
    simp at this
  have hs : wordsB 124 (ba (rowsT (blocksL p))) = ((blocksL p).map rowT).map ba := by
    unfold wordsB rowsT
    rw [ba_data, splitD_joined _ hne h124]
  rw [hs]
  refine List.all_eq_true.2 fun q hq => ?_
  obtain ⟨l, hl, rfl⟩ := List.mem_map.1 hq
  obtain ⟨xs, hxs, rfl⟩ := List.mem_map.1 hl
  obtain ⟨hx0, hx1⟩ := hrow xs hxs
  have hw : wordsB 32 (ba (rowT xs)) = (xs.map Lib.itoa).map ba := by
    unfold wordsB rowT joinN
    rw [ba_data, splitD_joined _ (by simpa using hx0) (fun y hy => by
      obtain ⟨n, hn, rfl⟩ := List.mem_map.1 hy
      have := hx1 n hn
      exact (small_num this.1 this.2).2.1)]
  rw [hw]
  refine List.all_eq_true.2 fun y hy => ?_
  obtain ⟨l, hl, rfl⟩ := List.mem_map.1 hy
  obtain ⟨n, hn, rfl⟩ := List.mem_map.1 hl
  rw [ba_data]
  have := hx1 n hn
  exact (small_num this.1 this.2).1
theorem canon_full {x : ByteArray} (h : canon x.data.toList = true) : fullB x = true := by
  unfold fullB
  refine full_ne fun e => ?_
  rw [e] at h
  exact absurd h (by decide)
theorem words_same {p : ByteArray} (h : canons (wordsB 32 p) = true) : wordsF p = wordsB 32 p := by
  unfold wordsF
  exact List.filter_eq_self.2 fun x hx => canon_full (List.all_eq_true.1 h x hx)
theorem rp_same {s : ByteArray} (h : rpOk s = true) : rpOkI s = true ∧ rpBI s = rpB s := by
  have hp : ∀ p ∈ rpP s, canons (wordsB 32 p) = true := fun p hp => List.all_eq_true.1 h p hp
  refine ⟨List.all_eq_true.2 fun p hq => ?_, List.map_congr_left fun p hq => ?_⟩
  · rw [words_same (hp p hq)]; exact hp p hq
  · rw [words_same (hp p hq)]
def rpGood (s : ByteArray) : Bool := rpOk s && decide (fbCode (tot2 (rpB s)) (rpB s) = 0) && decide (partText (fbOut (tot2 (rpB s)) (rpB s)) = s)
def rpOut (s : ByteArray) : List Int := if rpGood s = true then fbOut (tot2 (rpB s)) (rpB s) else []
theorem rpOut_len (s : ByteArray) : (rpOut s).length ≤ 40 := by
  unfold rpOut
  split
  · exact fbOut_len _ _
  · simp
theorem rp_parse_bad {s : ByteArray} (h : rpOk s = false) : rpGood s = false := by unfold rpGood; rw [h]; rfl
theorem rp_code_bad {s : ByteArray} (h : fbCode (tot2 (rpB s)) (rpB s) ≠ 0) : rpGood s = false := by unfold rpGood; rw [decide_eq_false h]; simp
theorem rp_text_bad {s : ByteArray} (h : partText (fbOut (tot2 (rpB s)) (rpB s)) ≠ s) : rpGood s = false := by unfold rpGood; rw [decide_eq_false h]; simp
theorem rp_good {s : ByteArray} (h0 : rpOk s = true) (h1 : fbCode (tot2 (rpB s)) (rpB s) = 0) (h2 : partText (fbOut (tot2 (rpB s)) (rpB s)) = s) : rpGood s = true ∧ rpOut s = fbOut (tot2 (rpB s)) (rpB s) := by
  have : rpGood s = true := by unfold rpGood; rw [h0, decide_eq_true h1, decide_eq_true h2]; rfl
  exact ⟨this, by unfold rpOut; rw [if_pos this]⟩
theorem rp_bad {s : ByteArray} (h : rpGood s = false) : rpOut s = [] := by unfold rpOut; rw [h]; rfl
/-- The program's own reading. -/
theorem rpI_parse_bad {s : ByteArray} (h : rpOkI s = false) : rpGood s = false := by
  cases h0 : rpOk s with
  | false => exact rp_parse_bad h0
  | true => rw [(rp_same h0).1] at h; cases h
theorem rpI_code_bad {s : ByteArray} (h : fbCode (tot2 (rpBI s)) (rpBI s) ≠ 0) : rpGood s = false := by
  cases h0 : rpOk s with
  | false => exact rp_parse_bad h0
  | true => rw [(rp_same h0).2] at h; exact rp_code_bad h
theorem rpI_text_bad {s : ByteArray} (h : partText (fbOut (tot2 (rpBI s)) (rpBI s)) ≠ s) : rpGood s = false := by
  cases h0 : rpOk s with
  | false => exact rp_parse_bad h0
  | true => rw [(rp_same h0).2] at h; exact rp_text_bad h
theorem rpI_good {s : ByteArray} (h1 : fbCode (tot2 (rpBI s)) (rpBI s) = 0) (h2 : partText (fbOut (tot2 (rpBI s)) (rpBI s)) = s) : rpGood s = true ∧ rpOut s = fbOut (tot2 (rpBI s)) (rpBI s) := by
  have h0 : rpOk s = true := by rw [← h2]; exact text_ok (fb_part h1)
  rw [(rp_same h0).2] at h1 h2 ⊢
  exact rp_good h0 h1 h2
/-- How much is read. -/
theorem pieces_len (c : UInt8) : ∀ l : List UInt8, ((splitD c l).map List.length).sum ≤ l.length := by
  intro l
  induction l with
  | nil => simp [splitD]
  | cons b r ih =>
    by_cases h : b = c
    · rw [h, splitD_hit]; simp; omega
    · rw [splitD_miss r h]
      cases hs : splitD c r with
      | nil => exact absurd hs (splitD_ne c r)
      | cons x q => rw [hs] at ih; simp [consHead] at ih ⊢; omega
theorem offs_sum (B : List (List Int)) : ∀ k, k ≤ B.length → offs B k = ((B.take k).map List.length).sum
  | 0, _ => rfl
  | k + 1, h => by
    rw [offs, offs_sum B k (by omega), take_rnth B k h, List.map_append, List.sum_append]
    simp
theorem wordsF_len2 (p : ByteArray) : (wordsF p).length ≤ p.size + 1 := by
  have h1 := wordsB_length 32 p
  have h2 := List.length_filter_le fullB (wordsB 32 p)
  unfold wordsF; omega
theorem rp_total (s : ByteArray) : total (rpBI s) ≤ 2 * s.size + 2 := by
  unfold total
  rw [offs_sum _ _ (Nat.le_refl _), List.take_length]
  have h1 : ∀ L : List ByteArray, ((L.map fun p => numsV (wordsF p)).map List.length).sum ≤ (L.map ByteArray.size).sum + L.length := by
    intro L
    induction L with
    | nil => simp
    | cons p q ih =>
      have := wordsF_len2 p
      simp only [List.map_cons, List.sum_cons, List.length_cons, numsV_length]
      omega
  have h2 := h1 (rpP s)
  have h3 : ((rpP s).map ByteArray.size).sum = ((splitD 124 s.data.toList).map List.length).sum := by
    unfold rpP wordsB
    rw [List.map_map]
    rfl
  have h4 := pieces_len 124 s.data.toList
  have h5 := wordsB_length 124 s
  have h6 : s.data.toList.length = s.size := by rw [Array.length_toList]; rfl
  unfold rpBI
  unfold rpP at h2 h3 ⊢
  omega
end Go.Proofs.YtcakmchefbohoaaGreatDoor
