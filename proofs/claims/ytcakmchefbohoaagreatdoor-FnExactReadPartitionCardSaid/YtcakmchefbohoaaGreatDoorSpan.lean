/- Plain laws of merged partitions; contracts: the span of a relation and the join of partitions, of the program and of the reference. -/
import Derived.Test.YtcakmchefbohoaaGreatDoorProg
import Derived.Test.YtcakmchefbohoaaGreatDoorMem
import Derived.Test.YtcakmchefbohoaaGreatDoorMath
import Derived.Test.YtcakmchefbohoaaGreatDoorBasics
import Derived.Test.YtcakmchefbohoaaGreatDoorGrid
import Derived.Test.YtcakmchefbohoaaGreatDoorPart
import Derived.Test.YtcakmchefbohoaaGreatDoorPartW
import Derived.Test.YtcakmchefbohoaaGreatDoorHelpI
import Derived.Test.YtcakmchefbohoaaGreatDoorRel
import Derived.WalkKit
import Derived.BigQuiet
import Derived.BigRegion
import Derived.StillTailTactics
import Derived.Deep.QuietTactic
import Derived.Lib.Hide
import Derived.Outline
set_option linter.unusedVariables false
set_option linter.unusedSimpArgs false
namespace Go.Proofs.YtcakmchefbohoaaGreatDoor
open Go.RowKit

def ident (n : Nat) : List Int := (List.range n).map fun (i : Nat) => (i : Int)
theorem ident_length (n : Nat) : (ident n).length = n := by simp [ident]
theorem nth_ident (n i : Nat) (h : i < n) : nth (ident n) i = (i : Int) := by simp [nth, ident, h]
def mergeL (f t : Int) (xs : List Int) : List Int := xs.map fun x => if x = f then t else x
theorem mergeL_length (f t : Int) (xs : List Int) : (mergeL f t xs).length = xs.length := by simp [mergeL]
theorem nth_mergeL (f t : Int) (xs : List Int) (i : Nat) (h : i < xs.length) : nth (mergeL f t xs) i = if nth xs i = f then t else nth xs i := by simp [nth, mergeL, h]
def mgv (xs : List Int) (f t : Int) (d i : Nat) : Int := if i < d ∧ nth xs i = f then t else nth xs i
theorem mgv_zero (xs : List Int) (f t : Int) (i : Nat) : mgv xs f t 0 i = nth xs i := by rw [mgv, if_neg (by omega)]
theorem mgv_at (xs : List Int) (f t : Int) (d i : Nat) (h : d ≤ i) : mgv xs f t d i = nth xs i := by rw [mgv, if_neg (by omega)]
theorem mgv_yes (xs : List Int) (f t : Int) (k : Nat) (h : nth xs k = f) : mgv xs f t (k + 1) k = t := by rw [mgv, if_pos ⟨by omega, h⟩]
theorem mgv_other (xs : List Int) (f t : Int) (k i : Nat) (h : i ≠ k) : mgv xs f t (k + 1) i = mgv xs f t k i := by
  unfold mgv
  by_cases h1 : i < k ∧ nth xs i = f
  · rw [if_pos h1, if_pos ⟨by omega, h1.2⟩]
  · rw [if_neg h1, if_neg (fun h2 => h1 ⟨by omega, h2.2⟩)]
theorem mgv_no (xs : List Int) (f t : Int) (k i : Nat) (h : nth xs k ≠ f) : mgv xs f t (k + 1) i = mgv xs f t k i := by
  by_cases e : i = k
  · rw [e, mgv_at _ _ _ _ _ (Nat.le_refl _), mgv, if_neg (fun h2 => h h2.2)]
  · exact mgv_other _ _ _ _ _ e
theorem mgv_full (xs : List Int) (f t : Int) (i : Nat) (h : i < xs.length) : mgv xs f t xs.length i = nth (mergeL f t xs) i := by
  rw [nth_mergeL _ _ _ _ h, mgv]
  by_cases h1 : nth xs i = f
  · rw [if_pos h1, if_pos ⟨h, h1⟩]
  · rw [if_neg h1, if_neg (fun h2 => h1 h2.2)]

/-- A list in which just those items are alike that the pairs P join. -/
def Merged (n : Nat) (P : Nat → Nat → Prop) (ys : List Int) : Prop :=
  ys.length = n ∧ (∀ i j, i < n → j < n → P i j → nth ys i = nth ys j) ∧
    ∀ E : Nat → Int, (∀ i j, i < n → j < n → P i j → E i = E j) → ∀ i j, i < n → j < n → nth ys i = nth ys j → E i = E j
theorem Merged.ident (n : Nat) : Merged n (fun _ _ => False) (ident n) :=
  ⟨ident_length n, fun _ _ _ _ h => h.elim, fun E _ i j hi hj h => by rw [nth_ident n i hi, nth_ident n j hj] at h; rw [show i = j by omega]⟩
theorem Merged.base (p : List Int) : Merged p.length (fun i j => nth p i = nth p j) p := ⟨rfl, fun _ _ _ _ h => h, fun E h i j hi hj e => h i j hi hj e⟩
theorem Merged.congr {n : Nat} {P Q : Nat → Nat → Prop} {ys : List Int} (h : Merged n P ys) (hPQ : ∀ i j, i < n → j < n → (P i j ↔ Q i j)) : Merged n Q ys :=
  ⟨h.1, fun i j hi hj hq => h.2.1 i j hi hj ((hPQ i j hi hj).2 hq), fun E hE => h.2.2 E fun i j hi hj hp => hE i j hi hj ((hPQ i j hi hj).1 hp)⟩
theorem Merged.step {n : Nat} {P : Nat → Nat → Prop} {ys : List Int} (h : Merged n P ys) {a b : Nat} (ha : a < n) (hb : b < n) :
    Merged n (fun i j => P i j ∨ (i = a ∧ j = b)) (mergeL (nth ys a) (nth ys b) ys) := by
  obtain ⟨hl, h1, h2⟩ := h
  refine ⟨by rw [mergeL_length, hl], fun i j hi hj hp => ?_, fun E hE i j hi hj e => ?_⟩
  · rw [nth_mergeL _ _ _ _ (by omega), nth_mergeL _ _ _ _ (by omega)]
    rcases hp with hp | ⟨rfl, rfl⟩
    · rw [h1 i j hi hj hp]
    · rw [if_pos rfl]; split <;> rfl
  · have key := h2 E fun i j hi hj hp => hE i j hi hj (Or.inl hp)
    have hab : E a = E b := hE a b ha hb (Or.inr ⟨rfl, rfl⟩)
    rw [nth_mergeL _ _ _ _ (by omega), nth_mergeL _ _ _ _ (by omega)] at e
    by_cases e1 : nth ys i = nth ys a
    · by_cases e2 : nth ys j = nth ys a
      · exact key i j hi hj (e1.trans e2.symm)
      · rw [if_pos e1, if_neg e2] at e
        exact (key i a hi ha e1).trans (hab.trans (key b j hb hj e))
    · by_cases e2 : nth ys j = nth ys a
      · rw [if_neg e1, if_pos e2] at e
        exact (key i b hi hb e).trans (hab.symm.trans (key a j ha hj e2.symm))
      · rw [if_neg e1, if_neg e2] at e
        exact key i j hi hj e
theorem Merged.nrm_eq {n : Nat} {P Q : Nat → Nat → Prop} {ys zs : List Int} (hy : Merged n P ys) (hz : Merged n Q zs)
    (h1 : ∀ i j, i < n → j < n → P i j → nth zs i = nth zs j) (h2 : ∀ i j, i < n → j < n → Q i j → nth ys i = nth ys j) : nrm ys = nrm zs :=
  nrm_congr (by rw [hy.1, hz.1]) fun i j hi hj => by
    rw [hy.1] at hi hj
    exact ⟨hy.2.2 _ h1 i j hi hj, hz.2.2 _ h2 i j hi hj⟩
theorem Merged.step' {n : Nat} {P : Nat → Nat → Prop} {ys : List Int} (h : Merged n P ys) {a b : Nat} (ha : a < n) (hb : b < n) :
    Merged n (fun i j => P i j ∨ (i = a ∧ j = b)) (mergeL (nth ys b) (nth ys a) ys) := by
  have h3 := h.step hb ha
  refine ⟨h3.1, fun i j hi hj hp => ?_, fun E hE => h3.2.2 E fun i j hi hj hp => ?_⟩
  · rcases hp with hp | ⟨rfl, rfl⟩
    · exact h3.2.1 i j hi hj (Or.inl hp)
    · exact (h3.2.1 j i hj hi (Or.inr ⟨rfl, rfl⟩)).symm
  · rcases hp with hp | ⟨rfl, rfl⟩
    · exact hE i j hi hj (Or.inl hp)
    · exact (hE j i hj hi (Or.inr ⟨rfl, rfl⟩)).symm
def pairA (r : List (List Int)) (k : Nat) : Nat := (nth (rnth r k) 0).toNat
def pairB (r : List (List Int)) (k : Nat) : Nat := (nth (rnth r k) 1).toNat
def spanF (xs : List Int) (r : List (List Int)) : Nat → List Int
  | 0 => xs
  | k + 1 => mergeL (nth (spanF xs r k) (pairA r k)) (nth (spanF xs r k) (pairB r k)) (spanF xs r k)
theorem spanF_length (xs : List Int) (r : List (List Int)) (k : Nat) : (spanF xs r k).length = xs.length := by
  induction k with
  | zero => rfl
  | succ k ih => rw [spanF, mergeL_length, ih]
def inPairs (r : List (List Int)) (k : Nat) (i j : Nat) : Prop := ∃ q, q < k ∧ i = pairA r q ∧ j = pairB r q
theorem inPairs_succ (r : List (List Int)) (k i j : Nat) : inPairs r (k + 1) i j ↔ (inPairs r k i j ∨ (i = pairA r k ∧ j = pairB r k)) := by
  constructor
  · rintro ⟨q, h, h1, h2⟩
    by_cases e : q = k
    · subst e; exact Or.inr ⟨h1, h2⟩
    · exact Or.inl ⟨q, by omega, h1, h2⟩
  · rintro (⟨q, h, h1, h2⟩ | ⟨h1, h2⟩)
    · exact ⟨q, by omega, h1, h2⟩
    · exact ⟨k, by omega, h1, h2⟩
theorem pairAB {n : Nat} {m : Int} {r : List (List Int)} {k : Nat} (hm : m = (n : Int) - 1) (h : pairOk m (rnth r k) = true) : pairA r k < n ∧ pairB r k < n ∧ nth (rnth r k) 0 = (pairA r k : Int) ∧ nth (rnth r k) 1 = (pairB r k : Int) ∧ (rnth r k).length = 2 := by
  obtain ⟨h1, h2, h3, h4, h5⟩ := pairOk_parts h
  unfold pairA pairB
  exact ⟨by omega, by omega, by omega, by omega, h1⟩
theorem spanF_merged (n : Nat) (r : List (List Int)) (k : Nat) (hk : k ≤ r.length) (h : ∀ q, q < r.length → pairOk ((n : Int) - 1) (rnth r q) = true) : Merged n (inPairs r k) (spanF (ident n) r k) := by
  induction k with
  | zero => exact (Merged.ident n).congr fun i j _ _ => ⟨False.elim, fun ⟨q, h, _⟩ => absurd h (by omega)⟩
  | succ k ih =>
    obtain ⟨h1, h2, _⟩ := pairAB rfl (h k (by omega))
    exact ((ih (by omega)).step h1 h2).congr fun i j _ _ => (inPairs_succ r k i j).symm
theorem In_store {w : World} {lo hi b o n cap : Nat} {cs cs' : Nat → Value} (h : In w lo hi 1 (.slice (some ⟨b, o, none⟩) n cap) n cs) {k : Nat} (hk : k < n) {x : Value} (hx : cs' k = x) (hcs : ∀ i, i < n → i ≠ k → cs' i = cs i) :
    In (w.setCell ⟨b, o + k, none⟩ x) lo hi 1 (.slice (some ⟨b, o, none⟩) n cap) n cs' ∧ Mod lo hi w (w.setCell ⟨b, o + k, none⟩ x) := by
  obtain ⟨a', cap', e, h1, h2, h3⟩ := h
  cases e
  obtain ⟨b', o', e, q1, q2, q3, q4⟩ := h3 (by omega)
  cases e
  refine ⟨⟨_, cap, rfl, h1, h2, fun _ => ⟨b, o, rfl, q1, q2, by rw [size_setCell]; exact q3, fun i hi => ?_⟩⟩, (Mod.refl _ _ _).setCell q1 q2 x⟩
  refine ⟨?_, by rw [frozen_setCell]; exact (q4 i hi).2⟩
  by_cases e : i = k
  · subst e; rw [hx]; exact World.cell?_setCell_same _ _ _ (q4 i hi).1
  · rw [World.cell?_setCell_other _ _ _ _ (addr_ne (by omega)), hcs i (by omega) e]; exact (q4 i hi).1
theorem In_congr {w : World} {lo hi : Nat} {v : Value} {n : Nat} {cs cs' : Nat → Value} (h : In w lo hi 1 v n cs) (hcs : ∀ i, i < n → cs' i = cs i) : In w lo hi 1 v n cs' := by
  obtain ⟨a, cap, rfl, h1, h2, h3⟩ := h
  refine ⟨a, cap, rfl, h1, h2, fun hn => ?_⟩
  obtain ⟨b, o, rfl, q1, q2, q3, q4⟩ := h3 hn
  exact ⟨b, o, rfl, q1, q2, q3, fun i hi => ⟨by rw [hcs i (by omega)]; exact (q4 i hi).1, (q4 i hi).2⟩⟩
theorem nth_bd {ys : List Int} {m : Int} (hm : 0 ≤ m) (h : ∀ x ∈ ys, 0 ≤ x ∧ x ≤ m) (i : Nat) : 0 ≤ nth ys i ∧ nth ys i ≤ m := by
  by_cases hi : i < ys.length
  · rw [nth_eq ys i hi]; exact h _ (List.getElem_mem hi)
  · have : nth ys i = 0 := by simp [nth, hi]
    omega
theorem spanF_bd {xs : List Int} {m : Int} (hm : 0 ≤ m) (h : ∀ x ∈ xs, 0 ≤ x ∧ x ≤ m) (r : List (List Int)) (k : Nat) : ∀ x ∈ spanF xs r k, 0 ≤ x ∧ x ≤ m := by
  induction k with
  | zero => exact h
  | succ k ih =>
    intro x hx
    rw [spanF] at hx
    obtain ⟨y, hy, rfl⟩ := List.mem_map.1 hx
    split
    · exact nth_bd hm ih _
    · exact ih y hy
theorem ident_bd (n : Nat) : ∀ x ∈ ident n, 0 ≤ x ∧ x ≤ (n : Int) := by
  intro x hx
  obtain ⟨i, hi, rfl⟩ := List.mem_map.1 hx
  have := List.mem_range.1 hi
  omega
end Go.Proofs.YtcakmchefbohoaaGreatDoor
