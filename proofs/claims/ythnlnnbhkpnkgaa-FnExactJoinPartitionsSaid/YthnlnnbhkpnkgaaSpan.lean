/- Plain laws of merged partitions; contracts: the span of a relation and the join of partitions, of the program and of the reference. -/
import Derived.Test.YthnlnnbhkpnkgaaProg
import Derived.Test.YthnlnnbhkpnkgaaMem
import Derived.Test.YthnlnnbhkpnkgaaMath
import Derived.Test.YthnlnnbhkpnkgaaBasics
import Derived.Test.YthnlnnbhkpnkgaaGrid
import Derived.Test.YthnlnnbhkpnkgaaPart
import Derived.Test.YthnlnnbhkpnkgaaPartW
import Derived.Test.YthnlnnbhkpnkgaaHelpI
import Derived.Test.YthnlnnbhkpnkgaaRel
import Derived.WalkKit
import Derived.BigQuiet
import Derived.BigRegion
import Derived.StillTailTactics
import Derived.Deep.QuietTactic
import Derived.Lib.Hide
import Derived.Outline
set_option linter.unusedVariables false
set_option linter.unusedSimpArgs false
namespace Go.Proofs.Ythnlnnbhkpnkgaa
open Go.RowKit

def ident (n : Nat) : List Int := (List.range n).map fun (i : Nat) => (i : Int)
theorem ident_length (n : Nat) : (ident n).length = n := by simp [ident]
theorem nth_ident (n i : Nat) (h : i < n) : nth (ident n) i = (i : Int) := by simp [nth, ident, h]
def mergeL (f t : Int) (xs : List Int) : List Int := xs.map fun x => if x = f then t else x
theorem mergeL_length (f t : Int) (xs : List Int) : (mergeL f t xs).length = xs.length := by simp [mergeL]
theorem nth_mergeL (f t : Int) (xs : List Int) (i : Nat) (h : i < xs.length) : nth (mergeL f t xs) i = if nth xs i = f then t else nth xs i := by simp [nth, mergeL, h]
def mgv (xs : List Int) (f t : Int) (d i : Nat) : Int := if i < d ∧ nth xs i = f then t else nth xs i
theorem mgv_zero (xs : List Int) (f t : Int) (i : Nat) : mgv xs f t 0 i = nth xs i := by rw [mgv, if_neg (by omega)]
theorem mgv_at (xs : List Int) (f t : Int) (d i : Nat) (h : d ≤ i) : mgv xs f t d i = nth xs i := by rw [mgv, if_neg (by omega)]
theorem mgv_yes (xs : List Int) (f t : Int) (k : Nat) (h : nth xs k = f) : mgv xs f t (k + 1) k = t := by rw [mgv, if_pos ⟨by omega, h⟩]
theorem mgv_other (xs : List Int) (f t : Int) (k i : Nat) (h : i ≠ k) : mgv xs f t (k + 1) i = mgv xs f t k i := by
  unfold mgv
  by_cases h1 : i < k ∧ nth xs i = f
  · rw [if_pos h1, if_pos ⟨by omega, h1.2⟩]
  · rw [if_neg h1, if_neg (fun h2 => h1 ⟨by omega, h2.2⟩)]
theorem mgv_no (xs : List Int) (f t : Int) (k i : Nat) (h : nth xs k ≠ f) : mgv xs f t (k + 1) i = mgv xs f t k i := by
  by_cases e : i = k
  · rw [e, mgv_at _ _ _ _ _ (Nat.le_refl _), mgv, if_neg (fun h2 => h h2.2)]
  · exact mgv_other _ _ _ _ _ e
theorem mgv_full (xs : List Int) (f t : Int) (i : Nat) (h : i < xs.length) : mgv xs f t xs.length i = nth (mergeL f t xs) i := by
  rw [nth_mergeL _ _ _ _ h, mgv]
  by_cases h1 : nth xs i = f
  · rw [if_pos h1, if_pos ⟨h, h1⟩]
  · rw [if_neg h1, if_neg (fun h2 => h1 h2.2)]

/-- A list in which just those items are alike that the pairs P join. -/
def Merged (n : Nat) (P : Nat → Nat → Prop) (ys : List Int) : Prop :=
  ys.length = n ∧ (∀ i j, i < n → j < n → P i j → nth ys i = nth ys j) ∧
    ∀ E : Nat → Int, (∀ i j, i < n → j < n → P i j → E i = E j) → ∀ i j, i < n → j < n → nth ys i = nth ys j → E i = E j
theorem Merged.ident (n : Nat) : Merged n (fun _ _ => False) (ident n) :=
  ⟨ident_length n, fun _ _ _ _ h => h.elim, fun E _ i j hi hj h => by rw [nth_ident n i hi, nth_ident n j hj] at h; rw [show i = j by omega]⟩
theorem Merged.base (p : List Int) : Merged p.length (fun i j => nth p i = nth p j) p := ⟨rfl, fun _ _ _ _ h => h, fun E h i j hi hj e => h i j hi hj e⟩
theorem Merged.congr {n : Nat} {P Q : Nat → Nat → Prop} {ys : List Int} (h : Merged n P ys) (hPQ : ∀ i j, i < n → j < n → (P i j ↔ Q i j)) : Merged n Q ys :=
  ⟨h.1, fun i j hi hj hq => h.2.1 i j hi hj ((hPQ i j hi hj).2 hq), fun E hE => h.2.2 E fun i j hi hj hp => hE i j hi hj ((hPQ i j hi hj).1 hp)⟩
theorem Merged.step {n : Nat} {P : Nat → Nat → Prop} {ys : List Int} (h : Merged n P ys) {a b : Nat} (ha : a < n) (hb : b < n) :
    Merged n (fun i j => P i j ∨ (i = a ∧ j = b)) (mergeL (nth ys a) (nth ys b) ys) := by
  obtain ⟨hl, h1, h2⟩ := h
  refine ⟨by rw [mergeL_length, hl], fun i j hi hj hp => ?_, fun E hE i j hi hj e => ?_⟩
  · rw [nth_mergeL _ _ _ _ (by omega), nth_mergeL _ _ _ _ (by omega)]
    rcases hp with hp | ⟨rfl, rfl⟩
    · rw [h1 i j hi hj hp]
    · rw [if_pos rfl]; split <;> rfl
  · have key := h2 E fun i j hi hj hp => hE i j hi hj (Or.inl hp)
    have hab : E a = E b := hE a b ha hb (Or.inr ⟨rfl, rfl⟩)
    rw [nth_mergeL _ _ _ _ (by omega), nth_mergeL _ _ _ _ (by omega)] at e
    by_cases e1 : nth ys i = nth ys a
    · by_cases e2 : nth ys j = nth ys a
      · exact key i j hi hj (e1.trans e2.symm)
      · rw [if_pos e1, if_neg e2] at e
        exact (key i a hi ha e1).trans (hab.trans (key b j hb hj e))
    · by_cases e2 : nth ys j = nth ys a
      · rw [if_neg e1, if_pos e2] at e
        exact (key i b hi hb e).trans (hab.symm.trans (key a j ha hj e2.symm))
      · rw [if_neg e1, if_neg e2] at e
        exact key i j hi hj e
theorem Merged.nrm_eq {n : Nat} {P Q : Nat → Nat → Prop} {ys zs : List Int} (hy : Merged n P ys) (hz : Merged n Q zs)
    (h1 : ∀ i j, i < n → j < n → P i j → nth zs i = nth zs j) (h2 : ∀ i j, i < n → j < n → Q i j → nth ys i = nth ys j) : nrm ys = nrm zs :=
  nrm_congr (by rw [hy.1, hz.1]) fun i j hi hj => by
    rw [hy.1] at hi hj
    exact ⟨hy.2.2 _ h1 i j hi hj, hz.2.2 _ h2 i j hi hj⟩
theorem Merged.step' {n : Nat} {P : Nat → Nat → Prop} {ys : List Int} (h : Merged n P ys) {a b : Nat} (ha : a < n) (hb : b < n) :
    Merged n (fun i j => P i j ∨ (i = a ∧ j = b)) (mergeL (nth ys b) (nth ys a) ys) := by
  have h3 := h.step hb ha
  refine ⟨h3.1, fun i j hi hj hp => ?_, fun E hE => h3.2.2 E fun i j hi hj hp => ?_⟩
  · rcases hp with hp | ⟨rfl, rfl⟩
    · exact h3.2.1 i j hi hj (Or.inl hp)
    · exact (h3.2.1 j i hj hi (Or.inr ⟨rfl, rfl⟩)).symm
  · rcases hp with hp | ⟨rfl, rfl⟩
    · exact hE i j hi hj (Or.inl hp)
    · exact (hE j i hj hi (Or.inr ⟨rfl, rfl⟩)).symm
def pairA (r : List (List Int)) (k : Nat) : Nat := (nth (rnth r k) 0).toNat
def pairB (r : List (List Int)) (k : Nat) : Nat := (nth (rnth r k) 1).toNat
def spanF (xs : List Int) (r : List (List Int)) : Nat → List Int
  | 0 => xs
  | k + 1 => mergeL (nth (spanF xs r k) (pairA r k)) (nth (spanF xs r k) (pairB r k)) (spanF xs r k)
theorem spanF_length (xs : List Int) (r : List (List Int)) (k : Nat) : (spanF xs r k).length = xs.length := by
  induction k with
  | zero => rfl
  | succ k ih => rw [spanF, mergeL_length, ih]
def inPairs (r : List (List Int)) (k : Nat) (i j : Nat) : Prop := ∃ q, q < k ∧ i = pairA r q ∧ j = pairB r q
theorem inPairs_succ (r : List (List Int)) (k i j : Nat) : inPairs r (k + 1) i j ↔ (inPairs r k i j ∨ (i = pairA r k ∧ j = pairB r k)) := by
  constructor
  · rintro ⟨q, h, h1, h2⟩
    by_cases e : q = k
    · subst e; exact Or.inr ⟨h1, h2⟩
    · exact Or.inl ⟨q, by omega, h1, h2⟩
  · rintro (⟨q, h, h1, h2⟩ | ⟨h1, h2⟩)
    · exact ⟨q, by omega, h1, h2⟩
    · exact ⟨k, by omega, h1, h2⟩
theorem pairAB {n : Nat} {m : Int} {r : List (List Int)} {k : Nat} (hm : m = (n : Int) - 1) (h : pairOk m (rnth r k) = true) : pairA r k < n ∧ pairB r k < n ∧ nth (rnth r k) 0 = (pairA r k : Int) ∧ nth (rnth r k) 1 = (pairB r k : Int) ∧ (rnth r k).length = 2 := by
  obtain ⟨h1, h2, h3, h4, h5⟩ := pairOk_parts h
  unfold pairA pairB
  exact ⟨by omega, by omega, by omega, by omega, h1⟩
theorem spanF_merged (n : Nat) (r : List (List Int)) (k : Nat) (hk : k ≤ r.length) (h : ∀ q, q < r.length → pairOk ((n : Int) - 1) (rnth r q) = true) : Merged n (inPairs r k) (spanF (ident n) r k) := by
  induction k with
  | zero => exact (Merged.ident n).congr fun i j _ _ => ⟨False.elim, fun ⟨q, h, _⟩ => absurd h (by omega)⟩
  | succ k ih =>
    obtain ⟨h1, h2, _⟩ := pairAB rfl (h k (by omega))
    exact ((ih (by omega)).step h1 h2).congr fun i j _ _ => (inPairs_succ r k i j).symm
theorem In_store {w : World} {lo hi b o n cap : Nat} {cs cs' : Nat → Value} (h : In w lo hi 1 (.slice (some ⟨b, o, none⟩) n cap) n cs) {k : Nat} (hk : k < n) {x : Value} (hx : cs' k = x) (hcs : ∀ i, i < n → i ≠ k → cs' i = cs i) :
    In (w.setCell ⟨b, o + k, none⟩ x) lo hi 1 (.slice (some ⟨b, o, none⟩) n cap) n cs' ∧ Mod lo hi w (w.setCell ⟨b, o + k, none⟩ x) := by
  obtain ⟨a', cap', e, h1, h2, h3⟩ := h
  cases e
  obtain ⟨b', o', e, q1, q2, q3, q4⟩ := h3 (by omega)
  cases e
  refine ⟨⟨_, cap, rfl, h1, h2, fun _ => ⟨b, o, rfl, q1, q2, by rw [size_setCell]; exact q3, fun i hi => ?_⟩⟩, (Mod.refl _ _ _).setCell q1 q2 x⟩
  refine ⟨?_, by rw [frozen_setCell]; exact (q4 i hi).2⟩
  by_cases e : i = k
  · subst e; rw [hx]; exact World.cell?_setCell_same _ _ _ (q4 i hi).1
  · rw [World.cell?_setCell_other _ _ _ _ (addr_ne (by omega)), hcs i (by omega) e]; exact (q4 i hi).1
theorem In_congr {w : World} {lo hi : Nat} {v : Value} {n : Nat} {cs cs' : Nat → Value} (h : In w lo hi 1 v n cs) (hcs : ∀ i, i < n → cs' i = cs i) : In w lo hi 1 v n cs' := by
  obtain ⟨a, cap, rfl, h1, h2, h3⟩ := h
  refine ⟨a, cap, rfl, h1, h2, fun hn => ?_⟩
  obtain ⟨b, o, rfl, q1, q2, q3, q4⟩ := h3 hn
  exact ⟨b, o, rfl, q1, q2, q3, fun i hi => ⟨by rw [hcs i (by omega)]; exact (q4 i hi).1, (q4 i hi).2⟩⟩
set_option maxHeartbeats 800000 in
theorem l02Merge_any (lo hi : Nat) (v : Value) (xs : List Int) (a b : Nat) (w : World) (ha : a < xs.length) (hb : b < xs.length) (hn : xs.length ≤ 1048576) (hv : InI w lo hi v xs) :
    Calls Try.prog 90 #[v, .int .i64 a, .int .i64 b] w fun e w' => e = .returned (.tuple #[]) ∧ InI w' lo hi v (mergeL (nth xs b) (nth xs a) xs) ∧ Mod lo hi w w' := by
  obtain ⟨n, hxn⟩ : ∃ n, n = xs.length := ⟨_, rfl⟩
  obtain ⟨f, hf⟩ : ∃ f, f = nth xs b := ⟨_, rfl⟩
  obtain ⟨t, ht⟩ : ∃ t, t = nth xs a := ⟨_, rfl⟩
  unfold InI at hv ⊢
  rw [mergeL_length]
  rw [← hxn] at hv ha hb hn ⊢
  rw [← hf, ← ht]
  have Hv := Lib.hid hv
  obtain ⟨ao, cap, rfl, hcap, hcm, hc⟩ := hv
  unfold maxLen at hcm
  obtain ⟨b1, o1, rfl, q1, q2, q3, hc⟩ := hc (by omega)
  have g1 : w.cell? ⟨b1, o1 + b, none⟩ = some (.int .i64 f) := by rw [(hc b (by omega)).1, hf]; rfl
  have g2 : w.cell? ⟨b1, o1 + a, none⟩ = some (.int .i64 t) := by rw [(hc a (by omega)).1, ht]; rfl
  have Hxn := Lib.hid hxn
  clear hc hf ht hxn
  go_enter Try.func90, Try.ntmps90
  go_wp2
  clear g1 g2
  go_loopw [8] (fun si wr => ∃ k : Nat, k ≤ n ∧ si = .int .i64 k ∧ Hid (In wr lo hi 1 (.slice (some ⟨b1, o1, none⟩) n cap) n (fun i => .int .i64 (mgv xs f t k i)) ∧ Mod lo hi w wr)) (fun si _ => n - (intOf si).toNat)
  case atStart => exact ⟨0, Nat.zero_le _, rfl, Lib.hid ⟨In_congr Hv.out fun i _ => by rw [mgv_zero]; rfl, Mod.refl _ _ _⟩⟩
  case round =>
    obtain ⟨k, hk, rfl, HI⟩ := hrel
    by_cases hlt : k < n
    · have hI := HI.out.1
      obtain ⟨_, _, e1, _, _, hc⟩ := hI
      cases e1
      obtain ⟨_, _, e1, _, _, _, hc⟩ := hc (by omega)
      cases e1
      have hg : wr.cell? ⟨b1, o1 + k, none⟩ = some (.int .i64 (nth xs k)) := by rw [(hc k (by omega)).1]; show some (Value.int .i64 (mgv xs f t k k)) = _; rw [mgv_at _ _ _ _ _ (Nat.le_refl _)]
      have hfz := (hc k (by omega)).2
      clear hc
      by_cases he : nth xs k = f
      · have heb : (nth xs k == f) = true := by simp [he]
        have hst := In_store HI.out.1 hlt (x := .int .i64 t) (cs' := fun i => .int .i64 (mgv xs f t (k + 1) i)) (by rw [mgv_yes _ _ _ _ he]) (fun i _ h => by rw [mgv_other _ _ _ _ _ h])
        have Hst := Lib.hid (And.intro hst.1 (HI.out.2.trans hst.2))
        clear hst he
        go_wp2
        go_roundw
        case rel => exact ⟨k + 1, by omega, by go_num, Hst⟩
        case measure => simp [intOf]; omega
      · have heb : (nth xs k == f) = false := by simp [he]
        have Hst := Lib.hid (And.intro (In_congr HI.out.1 (cs' := fun i => .int .i64 (mgv xs f t (k + 1) i)) fun i _ => by rw [mgv_no _ _ _ _ _ he]) HI.out.2)
        clear he
        go_wp2
        go_roundw
        case rel => exact ⟨k + 1, by omega, by go_num, Hst⟩
        case measure => simp [intOf]; omega
    · go_wp2
      go_end0
      obtain rfl : k = n := by omega
      refine ⟨by rfl, In_congr HI.out.1 fun i hi => ?_, HI.out.2⟩
      have := Hxn.out
      rw [this, mgv_full _ _ _ _ (by omega)]
      rfl
theorem nth_bd {ys : List Int} {m : Int} (hm : 0 ≤ m) (h : ∀ x ∈ ys, 0 ≤ x ∧ x ≤ m) (i : Nat) : 0 ≤ nth ys i ∧ nth ys i ≤ m := by
  by_cases hi : i < ys.length
  · rw [nth_eq ys i hi]; exact h _ (List.getElem_mem hi)
  · have : nth ys i = 0 := by simp [nth, hi]
    omega
theorem spanF_bd {xs : List Int} {m : Int} (hm : 0 ≤ m) (h : ∀ x ∈ xs, 0 ≤ x ∧ x ≤ m) (r : List (List Int)) (k : Nat) : ∀ x ∈ spanF xs r k, 0 ≤ x ∧ x ≤ m := by
  induction k with
  | zero => exact h
  | succ k ih =>
    intro x hx
    rw [spanF] at hx
    obtain ⟨y, hy, rfl⟩ := List.mem_map.1 hx
    split
    · exact nth_bd hm ih _
    · exact ih y hy
theorem ident_bd (n : Nat) : ∀ x ∈ ident n, 0 ≤ x ∧ x ≤ (n : Int) := by
  intro x hx
  obtain ⟨i, hi, rfl⟩ := List.mem_map.1 hx
  have := List.mem_range.1 hi
  omega
set_option maxHeartbeats 1600000 in
theorem span_any (vr : Value) (n : Nat) (r : List (List Int)) (w : World) (h0 : 0 < n) (h40 : n ≤ 40) (hr : ∀ q, q < r.length → pairOk ((n : Int) - 1) (rnth r q) = true) (rr : RdII w vr r) :
    Calls Try.prog 92 #[.int .i64 n, vr] w fun e w' => ∃ u, e = .returned u ∧ OwI w' w.heap.size u (nrm (spanF (ident n) r r.length)) ∧ Below w.heap.size w w' := by
  obtain ⟨vs, ⟨a, cap, rfl, hcap, hcm, hc⟩, hrows⟩ := rr
  have Hrows := Lib.hid hrows
  have Hr := Lib.hid hr
  clear hrows hr
  unfold maxLen at hcm
  obtain ⟨i0, hi, hz0, hz1, hz2⟩ := info_parts infoI64
  go_enter Try.func92, Try.ntmps92
  go_wp2_with (at_make; refine wpList_make_full _ rfl _ _ 27 rfl w.heap.size 2 i0 (.int .i64 0) 1 Try.underlying27 hi hz0 hz1 _ _ _ _ n rfl rfl rfl rfl ?b2 ?b3 (Nat.le_refl _) ?_)
  case b2 => rw [hz2]; omega
  case b3 => unfold maxLen; omega
  intro w0 hown0 hgrow0
  rw [toList_madeCells_one] at hown0
  go_wp2
  rw [← fillRow_zero (ic (ident n))] at hown0
  go_loopw [16] (fun si wr => ∃ k : Nat, k ≤ n ∧ si = .int .i64 k ∧ wr.ownsRow w.heap.size 2 1 (.slice (some ⟨w.heap.size, 0, none⟩) n n) n (fillRow (ic (ident n)) n k (.int .i64 0)) ∧ Below w.heap.size w wr)
    (fun si _ => n - (intOf si).toNat)
  case atStart => exact ⟨0, Nat.zero_le _, rfl, hown0, (Below.refl _ _).grown hgrow0 (Nat.le_refl _) (fun k h => by cases h)⟩
  case round =>
    obtain ⟨k, hk, rfl, hown, hbl⟩ := hrel
    by_cases hlt : k < n
    · have hold := (hown.cellAt k (by omega)).trans (fillRow_get (ic (ident n)) n k (.int .i64 0) hlt)
      have hfz := hown.frozenAt k
      have e : ic (ident n) k = .int .i64 k := by unfold ic; rw [nth_ident _ _ hlt]
      have hs1 := (hown.stored k (ic (ident n) k)).1
      rw [fillRow_set _ _ _ _ hlt, e] at hs1
      have hs2 : Below w.heap.size w (wr.setCell ⟨w.heap.size, k, none⟩ (.int .i64 k)) := hbl.setCell (Nat.le_refl _) _
      clear e
      go_wp2
      go_roundw
      case rel => exact ⟨k + 1, by omega, by go_num, hs1, hs2⟩
      case measure => simp [intOf]; omega
    · obtain rfl : k = n := by omega
      have hin : OwI wr w.heap.size (.slice (some ⟨w.heap.size, 0, none⟩) k k) (ident k) := by
        unfold OwI
        rw [ident_length]
        exact ownsRow_ow hown _ fun i hi => fillRow_full _ _ _ _ (by omega)
      obtain ⟨h1, hh1⟩ : ∃ h1, h1 = wr.heap.size := ⟨_, rfl⟩
      have hin2 := hin.inn
      rw [← hh1] at hin2
      obtain ⟨w1, hw1⟩ : ∃ w1 : World, w1 = wr := ⟨_, rfl⟩
      have hh2 : w.heap.size ≤ h1 := by rw [hh1]; exact hbl.size
      rw [← hw1] at hbl hin2 ⊢
      have Hin := Lib.hid hin2
      clear hin hin2 hown hown0 hgrow0 hh1 hw1
      go_wp2
      go_loopw [26] (fun si wr => ∃ q : Nat, q ≤ r.length ∧ si = .int .i64 q ∧ Hid (InI wr w.heap.size h1 (.slice (some ⟨w.heap.size, 0, none⟩) k k) (spanF (ident k) r q)) ∧ Below w.heap.size w wr) (fun si _ => r.length - (intOf si).toNat)
      case atStart => exact ⟨0, Nat.zero_le _, rfl, Hin, hbl⟩
      case round =>
        clear hbl Hin
        obtain ⟨q, hq, rfl, HI, hbl⟩ := hrel
        by_cases hlt : q < r.length
        · obtain ⟨b1, o1, rfl, hb1, hc1⟩ := hc (by omega)
          obtain ⟨pA, pB, eA, eB, hlen⟩ := pairAB rfl (Hr.out q hlt)
          obtain ⟨X, hX⟩ : ∃ X, X = spanF (ident k) r q := ⟨_, rfl⟩
          have hXl : X.length = k := by rw [hX, spanF_length, ident_length]
          have hsucc : Hid (spanF (ident k) r (q + 1) = mergeL (nth X (pairA r q)) (nth X (pairB r q)) X) := Lib.hid (by rw [hX]; rfl)
          rw [← hX] at HI
          obtain ⟨pa, hpa⟩ : ∃ pa, pa = pairA r q := ⟨_, rfl⟩
          obtain ⟨pb, hpb⟩ : ∃ pb, pb = pairB r q := ⟨_, rfl⟩
          rw [← hpa] at pA eA hsucc
          rw [← hpb] at pB eB hsucc
          obtain ⟨ak, ck, hvk⟩ := (Hrows.out q hlt).slice
          have g1 : wr.cell? ⟨b1, o1 + q, none⟩ = some (.slice ak (rnth r q).length ck) := (hbl.cell (by exact hb1)).trans (by rw [hc1 q (by omega), hvk])
          have hrk := (Hrows.out q hlt).below hbl
          rw [hvk] at hrk
          obtain ⟨_, _, e1, _, _, hr2⟩ := hrk
          cases e1
          rw [hlen] at hr2 g1
          obtain ⟨b2, o2, rfl, hb2, hc2⟩ := hr2 (by omega)
          have g2 : wr.cell? ⟨b2, o2, none⟩ = some (.int .i64 pa) := by rw [← eA]; exact hc2 0 (by omega)
          have g3 : wr.cell? ⟨b2, o2 + 1, none⟩ = some (.int .i64 pb) := by rw [← eB]; exact hc2 1 (by omega)
          have hI2 := HI.out
          unfold InI at hI2
          rw [hXl] at hI2
          have HI2 := Lib.hid hI2
          obtain ⟨_, _, e1, _, _, hcx⟩ := hI2
          cases e1
          obtain ⟨_, _, e1, _, _, _, hcx⟩ := hcx (by omega)
          cases e1
          have g4 : wr.cell? ⟨w.heap.size, pa, none⟩ = some (.int .i64 (nth X pa)) := by have := (hcx pa (by omega)).1; rw [Nat.zero_add] at this; exact this
          have g5 : wr.cell? ⟨w.heap.size, pb, none⟩ = some (.int .i64 (nth X pb)) := by have := (hcx pb (by omega)).1; rw [Nat.zero_add] at this; exact this
          obtain ⟨f, hf⟩ : ∃ f, f = nth X pa := ⟨_, rfl⟩
          obtain ⟨t, ht⟩ : ∃ t, t = nth X pb := ⟨_, rfl⟩
          rw [← hf] at g4 hsucc
          rw [← ht] at g5 hsucc
          have HXl := Lib.hid hXl
          clear hcx hc2 hc1 hc hr2 hvk hf ht hX hXl eA eB hpa hpb HI
          go_wp2
          go_quiet (fail)
          go_wp2
          obtain ⟨wo, hwo⟩ : ∃ wo : World, wo = wr.drewN nq := ⟨_, rfl⟩
          have HI3 : Hid (In wo w.heap.size h1 1 (.slice (some ⟨w.heap.size, 0, none⟩) k k) k (fun i => .int .i64 (mgv X f t 0 i))) := by
            rw [hwo]
            exact Lib.hid (In_congr (HI2.out.below (B := h1) ⟨rfl, rfl, rfl, Nat.le_refl _, fun _ _ => rfl⟩ (Nat.le_refl _)) fun i _ => by rw [mgv_zero]; rfl)
          have hbl2 : Below w.heap.size w wo := by rw [hwo]; exact hbl.trans ⟨rfl, rfl, rfl, Nat.le_refl _, fun _ _ => rfl⟩
          rw [← hwo]
          clear hwo g1 g2 g3 g4 g5 HI2 hbl
          go_loopw [44] (fun si wr => ∃ d : Nat, d ≤ k ∧ si = .int .i64 d ∧ Hid (In wr w.heap.size h1 1 (.slice (some ⟨w.heap.size, 0, none⟩) k k) k (fun i => .int .i64 (mgv X f t d i))) ∧ Below w.heap.size w wr) (fun si _ => k - (intOf si).toNat)
          case atStart => exact ⟨0, Nat.zero_le _, rfl, HI3, hbl2⟩
          case round =>
            clear hbl2 HI3
            obtain ⟨d, hd, rfl, HI, hbl⟩ := hrel
            by_cases hlt2 : d < k
            · have hI := HI.out
              obtain ⟨_, _, e1, _, _, hc⟩ := hI
              cases e1
              obtain ⟨_, _, e1, _, _, _, hc⟩ := hc (by omega)
              cases e1
              have hc' := hc d (by omega)
              rw [Nat.zero_add] at hc'
              have hg : wr.cell? ⟨w.heap.size, d, none⟩ = some (.int .i64 (nth X d)) := by rw [hc'.1]; show some (Value.int .i64 (mgv X f t d d)) = _; rw [mgv_at _ _ _ _ _ (Nat.le_refl _)]
              have hfz := hc'.2
              clear hc hc'
              by_cases he : nth X d = f
              · have heb : (nth X d == f) = true := by simp [he]
                have hst := In_store HI.out hlt2 (x := .int .i64 t) (cs' := fun i => .int .i64 (mgv X f t (d + 1) i)) (by rw [mgv_yes _ _ _ _ he]) (fun i _ h => by rw [mgv_other _ _ _ _ _ h])
                rw [Nat.zero_add] at hst
                have Hst := Lib.hid hst.1
                have hbl2 : Below w.heap.size w (wr.setCell ⟨w.heap.size, d, none⟩ (.int .i64 t)) := hbl.setCell (Nat.le_refl _) _
                clear hst he
                go_wp2
                go_roundw
                case rel => exact ⟨d + 1, by omega, by go_num, Hst, hbl2⟩
                case measure => simp [intOf]; omega
              · have heb : (nth X d == f) = false := by simp [he]
                have Hst := Lib.hid (In_congr HI.out (cs' := fun i => .int .i64 (mgv X f t (d + 1) i)) fun i _ => by rw [mgv_no _ _ _ _ _ he])
                clear he
                go_wp2
                go_roundw
                case rel => exact ⟨d + 1, by omega, by go_num, Hst, hbl⟩
                case measure => simp [intOf]; omega
            · obtain rfl : d = k := by omega
              have HN : Hid (InI wr w.heap.size h1 (.slice (some ⟨w.heap.size, 0, none⟩) d d) (spanF (ident d) r (q + 1))) := by
                rw [hsucc.out]
                refine Lib.hid ?_
                unfold InI
                rw [mergeL_length, HXl.out]
                refine In_congr HI.out fun i hi => ?_
                have := HXl.out
                have h9 := mgv_full X f t i (by omega)
                rw [HXl.out] at h9
                rw [h9]
                rfl
              go_wp2
              go_roundw
              case rel => exact ⟨q + 1, by omega, by go_num, HN, hbl⟩
              case measure => simp [intOf]; omega
        · obtain rfl : q = r.length := by omega
          have H64 : Hid (∀ x ∈ spanF (ident k) r r.length, -9223372036854775808 ≤ x ∧ x ≤ 9223372036854775807) := Lib.hid fun x hx => by
            have := spanF_bd (by omega) (ident_bd k) r r.length x hx
            omega
          go_wp2_with fail
          refine (normal_any _ (spanF (ident k) r r.length) _ (by rw [spanF_length, ident_length]; omega) H64.out HI.out.rd).mono ?_
          rintro e w2 ⟨u, rfl, hu, hb2⟩
          go_wp2_with fail
          go_ret
          exact ⟨_, rfl, hu.mono' hbl.size, below_trans' hbl hb2⟩
def spanCode (n : Int) (r : List (List Int)) : Int := if isRel n r = true then 0 else 1
def spanOut (n : Int) (r : List (List Int)) : List Int := if isRel n r = true then nrm (spanF (ident n.toNat) r r.length) else []
theorem spanOut_length (n : Int) (r : List (List Int)) : (spanOut n r).length ≤ 40 := by
  unfold spanOut
  split
  · rename_i h
    rw [isRel, Bool.and_eq_true] at h
    have := inR_true h.1
    rw [nrm_length, spanF_length, ident_length]
    omega
  · simp
theorem isRel_parts {n : Int} {r : List (List Int)} (h : isRel n r = true) : 1 ≤ n ∧ n ≤ 40 ∧ ∀ q, q < r.length → pairOk (((n.toNat : Nat) : Int) - 1) (rnth r q) = true := by
  rw [isRel, Bool.and_eq_true] at h
  obtain ⟨h1, h2⟩ := inR_true h.1
  refine ⟨h1, h2, fun q hq => ?_⟩
  have h3 := relAll_get h.2 hq
  rw [relStep, Bool.and_eq_true] at h3
  rw [show ((n.toNat : Nat) : Int) = n by omega]
  exact h3.1
set_option maxHeartbeats 800000 in
theorem SpanOf_any (vr : Value) (n : Int) (r : List (List Int)) (w : World) (hn : -9223372036854775808 ≤ n ∧ n ≤ 9223372036854775807) (rr : RdII w vr r) :
    Calls Try.prog 51 #[.int .i64 n, vr] w fun e w' => ∃ u, e = .returned (.tuple #[u, .int .i64 (spanCode n r)]) ∧ OwI w' w.heap.size u (spanOut n r) ∧ Below w.heap.size w w' := by
  have Rr := Lib.hid rr
  clear rr
  cases h1 : isRel n r with
  | true =>
    have H : Hid (spanOut n r = nrm (spanF (ident n.toNat) r r.length)) := Lib.hid (by simp [spanOut, h1])
    have Hc : Hid (spanCode n r = 0) := Lib.hid (by simp [spanCode, h1])
    obtain ⟨b1, b2, b3⟩ := isRel_parts h1
    obtain ⟨m, hm⟩ : ∃ m : Nat, n = (m : Int) := ⟨n.toNat, by omega⟩
    have H1 := Lib.hid h1
    rw [H.out, Hc.out]
    rw [hm] at b3 b1 b2 ⊢
    rw [hm] at H1
    rw [show ((m : Int).toNat) = m by omega] at b3 ⊢
    have B3 := Lib.hid b3
    clear b3 h1 H Hc hm hn
    go_enter Try.func51, Try.ntmps51
    go_wp2_with fail
    refine (IsRelation_any _ (m : Int) r _ (by omega) Rr.out).mono ?_
    rw [H1.out]
    rintro e w1 ⟨rfl, hb1⟩
    go_wp2_with fail
    refine (span_any _ m r _ (by omega) (by omega) B3.out (Rr.out.below hb1)).mono ?_
    rintro e w2 ⟨u, rfl, hu, hb2⟩
    go_wp2_with fail
    go_ret2
    exact ⟨_, rfl, hu.mono' hb1.size, below_trans' hb1 hb2⟩
  | false =>
    have H : Hid (spanOut n r = []) := Lib.hid (by simp [spanOut, h1])
    have Hc : Hid (spanCode n r = 1) := Lib.hid (by simp [spanCode, h1])
    have H1 := Lib.hid h1
    rw [H.out, Hc.out]
    clear h1
    have Hn := Lib.hid hn
    clear hn
    go_enter Try.func51, Try.ntmps51
    go_wp2_with fail
    refine (IsRelation_any _ n r _ Hn.out Rr.out).mono ?_
    rw [H1.out]
    rintro e w1 ⟨rfl, hb1⟩
    go_wp2_with fail
    go_ret2
    exact ⟨_, rfl, OwI_nil _ _, hb1⟩
set_option maxRecDepth 100000 in
set_option maxHeartbeats 1600000 in
theorem spec_SpanOf_any (vr : Value) (n : Int) (r : List (List Int)) (w : World) (rr : RdII w vr r) :
    Calls Try.prog 50 #[.int .i64 n, vr] w fun e w' => ∃ u, e = .returned (.tuple #[u, .int .i64 (spanCode n r)]) ∧ OwI w' w.heap.size u (spanOut n r) ∧ Below w.heap.size w w' := by
  have Rr := Lib.hid rr
  clear rr
  cases h1 : isRel n r with
  | false =>
    have H : Hid (spanOut n r = []) := Lib.hid (by simp [spanOut, h1])
    have Hc : Hid (spanCode n r = 1) := Lib.hid (by simp [spanCode, h1])
    have H1 := Lib.hid h1
    rw [H.out, Hc.out]
    clear h1
    go_enter Try.func50, Try.ntmps50
    go_wp2_with fail
    refine (l02Relation_any _ n r _ Rr.out).mono ?_
    rw [H1.out]
    rintro e w1 ⟨rfl, hb1⟩
    go_wp2_with fail
    go_ret2
    exact ⟨_, rfl, OwI_nil _ _, hb1⟩
  | true =>
    have H : Hid (spanOut n r = nrm (spanF (ident n.toNat) r r.length)) := Lib.hid (by simp [spanOut, h1])
    have Hc : Hid (spanCode n r = 0) := Lib.hid (by simp [spanCode, h1])
    obtain ⟨b1, b2, b3⟩ := isRel_parts h1
    obtain ⟨m, hm⟩ : ∃ m : Nat, n = (m : Int) := ⟨n.toNat, by omega⟩
    have H1 := Lib.hid h1
    rw [H.out, Hc.out]
    rw [hm] at b3 b1 b2 ⊢
    rw [hm] at H1
    rw [show ((m : Int).toNat) = m by omega] at b3 ⊢
    have Hr := Lib.hid b3
    clear b3 h1 H Hc hm
    obtain ⟨i0, hi, hz0, hz1, hz2⟩ := info_parts infoI64
    go_enter Try.func50, Try.ntmps50
    go_wp2_with fail
    refine (l02Relation_any _ (m : Int) r _ Rr.out).mono ?_
    rw [H1.out]
    rintro e w1 ⟨rfl, hb1⟩
    have Rr1 := Lib.hid (Rr.out.below hb1)
    obtain ⟨vs, ⟨a, cap, rfl, hcap, hcm, hc⟩, hrows⟩ := Rr1.out
    have Hrows := Lib.hid hrows
    unfold maxLen at hcm
    clear hrows Rr Rr1
    have hs1 := hb1.size
    go_wp2_with (at_make; refine wpList_make_full _ rfl _ _ 27 rfl w1.heap.size 2 i0 (.int .i64 0) 1 Try.underlying27 hi hz0 hz1 _ _ _ _ m rfl rfl rfl rfl ?b2 ?b3 (Nat.le_refl _) ?_)
    case b2 => rw [hz2]; omega
    case b3 => unfold maxLen; omega
    intro w0 hown0 hgrow0
    rw [toList_madeCells_one] at hown0
    go_wp2
    rw [← fillRow_zero (ic (ident m))] at hown0
    go_loopw [7] (fun si wr => ∃ k : Nat, k ≤ m ∧ si = .int .i64 k ∧ wr.ownsRow w1.heap.size 2 1 (.slice (some ⟨w1.heap.size, 0, none⟩) m m) m (fillRow (ic (ident m)) m k (.int .i64 0)) ∧ Below w1.heap.size w1 wr)
      (fun si _ => m - (intOf si).toNat)
    case atStart => exact ⟨0, Nat.zero_le _, rfl, hown0, (Below.refl _ _).grown hgrow0 (Nat.le_refl _) (fun k h => by cases h)⟩
    case round =>
      obtain ⟨k, hk, rfl, hown, hbl⟩ := hrel
      by_cases hlt : k < m
      · have hold := (hown.cellAt k (by omega)).trans (fillRow_get (ic (ident m)) m k (.int .i64 0) hlt)
        have hfz := hown.frozenAt k
        have e : ic (ident m) k = .int .i64 k := by unfold ic; rw [nth_ident _ _ hlt]
        have hs1 := (hown.stored k (ic (ident m) k)).1
        rw [fillRow_set _ _ _ _ hlt, e] at hs1
        have hs2 : Below w1.heap.size w1 (wr.setCell ⟨w1.heap.size, k, none⟩ (.int .i64 k)) := hbl.setCell (Nat.le_refl _) _
        clear e
        go_wp2
        go_roundw
        case rel => exact ⟨k + 1, by omega, by go_num, hs1, hs2⟩
        case measure => simp [intOf]; omega
      · obtain rfl : k = m := by omega
        have hin : OwI wr w1.heap.size (.slice (some ⟨w1.heap.size, 0, none⟩) k k) (ident k) := by
          unfold OwI
          rw [ident_length]
          exact ownsRow_ow hown _ fun i hi => fillRow_full _ _ _ _ (by omega)
        obtain ⟨h1, hh1⟩ : ∃ h1, h1 = wr.heap.size := ⟨_, rfl⟩
        have hin2 := hin.inn
        rw [← hh1] at hin2
        obtain ⟨wx, hwx⟩ : ∃ wx : World, wx = wr := ⟨_, rfl⟩
        have hh2 : w1.heap.size ≤ h1 := by rw [hh1]; exact hbl.size
        rw [← hwx] at hbl hin2 ⊢
        have Hin := Lib.hid hin2
        clear hin hin2 hown hown0 hgrow0 hh1 hwx
        go_wp2
        go_loopw [8] (fun si wr => ∃ q : Nat, q ≤ r.length ∧ si = .int .i64 q ∧ Hid (∃ ys, Merged k (inPairs r q) ys ∧ InI wr w1.heap.size h1 (.slice (some ⟨w1.heap.size, 0, none⟩) k k) ys) ∧ Below w1.heap.size w1 wr) (fun si _ => r.length - (intOf si).toNat)
        case atStart => exact ⟨0, Nat.zero_le _, rfl, Lib.hid ⟨_, spanF_merged k r 0 (Nat.zero_le _) Hr.out, Hin.out⟩, hbl⟩
        case round =>
          clear hbl Hin
          obtain ⟨q, hq, rfl, HI, hbl⟩ := hrel
          obtain ⟨X, hM, hX⟩ := HI.out
          by_cases hlt : q < r.length
          · obtain ⟨b1, o1, rfl, hbb1, hc1⟩ := hc (by omega)
            obtain ⟨pA, pB, eA, eB, hlen⟩ := pairAB rfl (Hr.out q hlt)
            have hXl : X.length = k := hM.1
            have hM2 := Lib.hid ((hM.step' pA pB).congr fun i j _ _ => (inPairs_succ r q i j).symm)
            obtain ⟨pa, hpa⟩ : ∃ pa, pa = pairA r q := ⟨_, rfl⟩
            obtain ⟨pb, hpb⟩ : ∃ pb, pb = pairB r q := ⟨_, rfl⟩
            rw [← hpa] at pA eA hM2
            rw [← hpb] at pB eB hM2
            obtain ⟨ak, ck, hvk⟩ := (Hrows.out q hlt).slice
            have g1 : wr.cell? ⟨b1, o1 + q, none⟩ = some (.slice ak (rnth r q).length ck) := (hbl.cell (by exact hbb1)).trans (by rw [hc1 q (by omega), hvk])
            have hrk := (Hrows.out q hlt).below hbl
            rw [hvk] at hrk
            obtain ⟨_, _, e1, _, _, hr2⟩ := hrk
            cases e1
            rw [hlen] at hr2 g1
            obtain ⟨b2, o2, rfl, hb2, hc2⟩ := hr2 (by omega)
            have g2 : wr.cell? ⟨b2, o2, none⟩ = some (.int .i64 pa) := by rw [← eA]; exact hc2 0 (by omega)
            have g3 : wr.cell? ⟨b2, o2 + 1, none⟩ = some (.int .i64 pb) := by rw [← eB]; exact hc2 1 (by omega)
            have HX := Lib.hid hX
            have HXl := Lib.hid hXl
            clear hc2 hc1 hc hr2 hvk hX hXl eA eB hpa hpb HI hM
            go_wp2
            refine wp_region_still_tail 13 (by kernel_rfl) (by kernel_rfl) ?_
            simp only [List.take_succ_cons, List.take_zero, List.drop_succ_cons, List.drop_zero]
            change wpStill _ _ wr.drew (fun a' => wpList _ _ _ _ a' wr.drew) _ _
            have hbd : Below h1 wr wr.drew := ⟨rfl, rfl, rfl, Nat.le_refl _, fun _ _ => rfl⟩
            have hbe : Below w1.heap.size w1 wr.drew := hbl.trans ⟨rfl, rfl, rfl, Nat.le_refl _, fun _ _ => rfl⟩
            replace g1 : wr.drew.cell? ⟨b1, o1 + q, none⟩ = _ := g1
            replace g2 : wr.drew.cell? ⟨b2, o2, none⟩ = _ := g2
            replace g3 : wr.drew.cell? ⟨b2, o2 + 1, none⟩ = _ := g3
            have HX2 := Lib.hid (HX.out.below hbd (Nat.le_refl _))
            generalize wr.drew = w2 at *
            clear hbl HX
            repeat still_step
            refine wpStill_nil ?_
            go_wp2_with fail
            refine (l02Merge_any w1.heap.size h1 _ X pa pb _ (by have := HXl.out; omega) (by have := HXl.out; omega) (by have := HXl.out; omega) HX2.out).mono ?_
            rintro e w3 ⟨rfl, hu, hm3⟩
            have Hu := Lib.hid hu
            have Hfin : Hid (∃ ys, Merged k (inPairs r (q + 1)) ys ∧ InI w3 w1.heap.size h1 (.slice (some ⟨w1.heap.size, 0, none⟩) k k) ys) := Lib.hid ⟨_, hM2.out, hu⟩
            have hbf : Below w1.heap.size w1 w3 := hbe.trans (hm3.below (Nat.le_refl _) hbe.size)
            clear hu
            go_wp2
            go_roundw
            case rel => exact ⟨q + 1, by omega, by go_num, Hfin, hbf⟩
            case measure => simp [intOf]; omega
          · obtain rfl : q = r.length := by omega
            have hfin : Hid (nrm X = nrm (spanF (ident k) r r.length)) := Lib.hid (hM.nrm_eq (spanF_merged k r r.length (Nat.le_refl _) Hr.out)
              (fun i j hi hj h => (spanF_merged k r r.length (Nat.le_refl _) Hr.out).2.1 i j hi hj h) (fun i j hi hj h => hM.2.1 i j hi hj h))
            have HX := Lib.hid hX
            have hXl : X.length = k := hM.1
            clear hX hM HI
            go_wp2_with fail
            refine (l02Norm_any _ X _ (by omega) HX.out.rd).mono ?_
            rw [hfin.out]
            rintro e w2 ⟨u, rfl, hu, hb2⟩
            go_wp2_with fail
            go_ret2
            have hs3 := hbl.size
            exact ⟨_, rfl, hu.mono' (by omega), below_trans' hb1 (below_trans' hbl hb2)⟩
end Go.Proofs.Ythnlnnbhkpnkgaa
