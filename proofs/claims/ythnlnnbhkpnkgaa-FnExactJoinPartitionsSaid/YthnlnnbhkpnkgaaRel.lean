/- Contracts: relations as lists of pairs, of the program and of the reference. -/
import Derived.Test.YthnlnnbhkpnkgaaProg
import Derived.Test.YthnlnnbhkpnkgaaMem
import Derived.Test.YthnlnnbhkpnkgaaMath
import Derived.Test.YthnlnnbhkpnkgaaBasics
import Derived.Test.YthnlnnbhkpnkgaaGrid
import Derived.Test.YthnlnnbhkpnkgaaPart
import Derived.Test.YthnlnnbhkpnkgaaPartW
import Derived.Test.YthnlnnbhkpnkgaaCmp
import Derived.WalkKit
import Derived.BigQuiet
import Derived.BigRegion
import Derived.Deep.QuietTactic
import Derived.Lib.Hide
import Derived.Outline
set_option linter.unusedVariables false
set_option linter.unusedSimpArgs false
namespace Go.Proofs.Ythnlnnbhkpnkgaa
open Go.RowKit

def pairOk (m : Int) (a : List Int) : Bool := decide (a.length = 2) && inR (nth a 0) 0 m && inR (nth a 1) 0 m
def relStep (m : Int) (r : List (List Int)) (k : Nat) : Bool := pairOk m (rnth r k) && (decide (k = 0) || decide (cmpL (rnth r (k - 1)) (rnth r k) < 0))
def relAll (m : Int) (r : List (List Int)) : Nat → Bool
  | 0 => true
  | k + 1 => relAll m r k && relStep m r k
def isRel (n : Int) (r : List (List Int)) : Bool := inR n 1 40 && relAll (n - 1) r r.length
theorem relAll_mono {m : Int} {r : List (List Int)} {k q : Nat} (h : relAll m r k = false) (hq : k ≤ q) : relAll m r q = false := by
  induction q with
  | zero => obtain rfl : k = 0 := by omega
            exact h
  | succ q ih =>
    by_cases e : k = q + 1
    · rw [← e]; exact h
    · rw [relAll, ih (by omega)]; rfl
theorem relAll_bad {m : Int} {r : List (List Int)} {k : Nat} (h : relStep m r k = false) (hk : k < r.length) : relAll m r r.length = false :=
  relAll_mono (k := k + 1) (by rw [relAll, h, Bool.and_false]) hk
theorem relAll_next {m : Int} {r : List (List Int)} {k : Nat} (h : relAll m r k = true) (h2 : relStep m r k = true) : relAll m r (k + 1) = true := by rw [relAll, h, h2]; rfl
theorem relAll_get {m : Int} {r : List (List Int)} {k j : Nat} (h : relAll m r k = true) (hj : j < k) : relStep m r j = true := by
  induction k with
  | zero => omega
  | succ k ih =>
    rw [relAll, Bool.and_eq_true] at h
    by_cases e : j = k
    · rw [e]; exact h.2
    · exact ih h.1 (by omega)
theorem pairOk_parts {m : Int} {a : List Int} (h : pairOk m a = true) : a.length = 2 ∧ 0 ≤ nth a 0 ∧ nth a 0 ≤ m ∧ 0 ≤ nth a 1 ∧ nth a 1 ≤ m := by
  simp only [pairOk, Bool.and_eq_true, decide_eq_true_eq] at h
  have h1 := inR_true h.1.2
  have h2 := inR_true h.2
  exact ⟨h.1.1, h1.1, h1.2, h2.1, h2.2⟩
theorem isRel_bad {n m : Int} {r : List (List Int)} (hm : n = -9223372036854775808 ∨ m = n - 1) (h : relAll m r r.length = false) : isRel n r = false := by
  rcases hm with e | e
  · rw [isRel, e]; simp [inR]
  · rw [isRel, ← e, h, Bool.and_false]
theorem isRel_good {n m : Int} {r : List (List Int)} (hm : n = -9223372036854775808 ∨ m = n - 1) (h : relAll m r r.length = true) : isRel n r = inR n 1 40 := by
  rcases hm with e | e
  · rw [isRel, e]; simp [inR]
  · rw [isRel, ← e, h, Bool.and_true]
theorem cmpL_two {a b : List Int} (ha : a.length = 2) (hb : b.length = 2) : (cmpL a b < 0 ↔ nth a 0 < nth b 0 ∨ nth a 0 = nth b 0 ∧ nth a 1 < nth b 1) := by
  obtain ⟨x, y, rfl⟩ : ∃ x y, a = [x, y] := by
    match a, ha with | [x, y], _ => exact ⟨x, y, rfl⟩
  obtain ⟨u, v, rfl⟩ : ∃ x y, b = [x, y] := by
    match b, hb with | [x, y], _ => exact ⟨x, y, rfl⟩
  have e1 : nth [x, y] 0 = x := by simp [nth]
  have e2 : nth [x, y] 1 = y := by simp [nth]
  have e3 : nth [u, v] 0 = u := by simp [nth]
  have e4 : nth [u, v] 1 = v := by simp [nth]
  rw [e1, e2, e3, e4]
  simp only [cmpL]
  split
  · constructor <;> intro h <;> omega
  · split
    · constructor <;> intro h <;> omega
    · split
      · constructor <;> intro h <;> omega
      · split <;> constructor <;> intro h <;> omega
theorem cmpL_num {m : Int} {a b : List Int} (hm : m < 40) (ha : pairOk m a = true) (hb : pairOk m b = true) : (cmpL a b < 0 ↔ nth a 0 * 40 + nth a 1 < nth b 0 * 40 + nth b 1) := by
  have h1 := pairOk_parts ha
  have h2 := pairOk_parts hb
  rw [cmpL_two h1.1 h2.1]
  omega
set_option maxHeartbeats 1600000 in
theorem IsRelation_any (vr : Value) (n : Int) (r : List (List Int)) (w : World) (hn : -9223372036854775808 ≤ n ∧ n ≤ 9223372036854775807) (rr : RdII w vr r) :
    Calls Try.prog 26 #[.int .i64 n, vr] w fun e w' => e = .returned (.bool (isRel n r)) ∧ Below w.heap.size w w' := by
  obtain ⟨vs, ⟨a, cap, rfl, hcap, hcm, hc⟩, hrows⟩ := rr
  have Hrows := Lib.hid hrows; clear hrows
  unfold maxLen at hcm
  obtain ⟨m, hm, hmm⟩ : ∃ m, m = wrap64 (n - 1) ∧ (n = -9223372036854775808 ∨ m = n - 1) := by
    refine ⟨_, rfl, ?_⟩
    by_cases e : n = -9223372036854775808
    · exact Or.inl e
    · exact Or.inr (by unfold wrap64; omega)
  have Hmm := Lib.hid hmm; clear hmm
  have Hm := Lib.hid hm; clear hm
  go_enter Try.func26, Try.ntmps26
  go_wp2
  go_loopw [9] (fun si wr => ∃ k : Nat, k ≤ r.length ∧ si = .int .i64 k ∧ Hid (relAll m r k = true) ∧ Below w.heap.size w wr) (fun si _ => r.length - (intOf si).toNat)
  case atStart => exact ⟨0, Nat.zero_le _, rfl, Lib.hid rfl, Below.refl _ _⟩
  case round =>
    obtain ⟨k, hk, rfl, hI, hbl⟩ := hrel
    by_cases hlt : k < r.length
    · obtain ⟨b1, o1, rfl, hb1, hc1⟩ := hc (by omega)
      obtain ⟨ak, ck, hvk⟩ := (Hrows.out k hlt).slice
      have g1 : wr.cell? ⟨b1, o1 + k, none⟩ = some (.slice ak (rnth r k).length ck) := (hbl.cell (by exact hb1)).trans (by rw [hc1 k (by omega), hvk])
      have g0 : 0 < k → ∃ aj cj, vs (k - 1) = .slice aj (rnth r (k - 1)).length cj ∧ wr.cell? ⟨b1, o1 + (k - 1), none⟩ = some (.slice aj (rnth r (k - 1)).length cj) := by
        intro h
        obtain ⟨aj, cj, hvj⟩ := (Hrows.out (k - 1) (by omega)).slice
        exact ⟨aj, cj, hvj, (hbl.cell (by exact hb1)).trans (by rw [hc1 (k - 1) (by omega), hvj])⟩
      have G0 := Lib.hid g0; clear g0
      have hrk := (Hrows.out k hlt).below hbl
      rw [hvk] at hrk
      have Hrk := Lib.hid hrk
      clear hrk hc1 hc hvk
      by_cases h2 : (rnth r k).length = 2
      · have hr2 := Hrk.out
        rw [h2] at g1
        have h2b : (((rnth r k).length : Int) != 2) = false := by simp; omega
        obtain ⟨_, _, e1, _, _, hr2⟩ := hr2
        cases e1
        rw [h2] at hr2
        obtain ⟨b2, o2, rfl, hb2, hc2⟩ := hr2 (by omega)
        have g2 : wr.cell? ⟨b2, o2, none⟩ = some (.int .i64 (nth (rnth r k) 0)) := hc2 0 (by omega)
        have g3 : wr.cell? ⟨b2, o2 + 1, none⟩ = some (.int .i64 (nth (rnth r k) 1)) := hc2 1 (by omega)
        clear hc2 h2b
        cases hA : inR (nth (rnth r k) 0) 0 m with
        | false =>
          have HA := Lib.hid hA
          have hB : Hid (isRel n r = false) := Lib.hid (isRel_bad Hmm.out (relAll_bad (k := k) (by simp [relStep, pairOk, hA]) hlt))
          clear hA
          go_wp2_with (go_at_call 64; refine (within_any _ _ _ _).mono ?_; rw [← Hm.out, HA.out]; rintro e w' ⟨rfl, rfl⟩)
          go_ret
          rw [hB.out]
          exact ⟨rfl, hbl⟩
        | true =>
        have HA := Lib.hid hA
        clear hA
        cases hA' : inR (nth (rnth r k) 1) 0 m with
        | false =>
          have HA' := Lib.hid hA'
          have hB : Hid (isRel n r = false) := Lib.hid (isRel_bad Hmm.out (relAll_bad (k := k) (by simp [relStep, pairOk, hA']) hlt))
          clear hA'
          go_wp2_with (go_at_call 64; refine (within_any _ _ _ _).mono ?_; rw [← Hm.out]; (first | rw [HA.out] | rw [HA'.out]); rintro e w' ⟨rfl, rfl⟩)
          go_ret
          rw [hB.out]
          exact ⟨rfl, hbl⟩
        | true =>
        have HA' := Lib.hid hA'
        clear hA'
        have hP : Hid (pairOk m (rnth r k) = true) := Lib.hid (by simp [pairOk, h2, HA.out, HA'.out])
        by_cases h0 : k = 0
        · have hI2 : Hid (relAll m r (k + 1) = true) := Lib.hid (relAll_next hI.out (by rw [relStep, hP.out, decide_eq_true h0]; rfl))
          have hk0 : ¬ (0 : Int) < (k : Int) := by omega
          clear h0
          go_wp2_with (go_at_call 64; refine (within_any _ _ _ _).mono ?_; rw [← Hm.out]; (first | rw [HA.out] | rw [HA'.out]); rintro e w' ⟨rfl, rfl⟩)
          go_roundw
          case rel => exact ⟨k + 1, by omega, by go_num, hI2, hbl⟩
          case measure => simp [intOf]; omega
        · have h0' : 0 < k := by omega
          obtain ⟨aj, cj, hvj, g4⟩ := G0.out h0'
          obtain ⟨j, rfl⟩ : ∃ j, k = j + 1 := ⟨k - 1, by omega⟩
          rw [Nat.add_sub_cancel] at g4 hvj
          have hrj := (Hrows.out j (by omega)).below hbl
          rw [hvj] at hrj
          have Hrj := Lib.hid hrj
          clear hvj hrj h0' h0 G0
          have hrk2 := Hrk.out
          rw [h2] at hrk2
          have Hrk2 := Lib.hid hrk2
          obtain ⟨c, hC⟩ : ∃ c, c = cmpL (rnth r j) (rnth r (j + 1)) := ⟨_, rfl⟩
          have HC := Lib.hid hC
          clear hrk2 Hrk
          by_cases hc0 : c < 0
          · have hI2 : Hid (relAll m r (j + 1 + 1) = true) := Lib.hid (relAll_next hI.out (by rw [relStep, hP.out, Nat.add_sub_cancel, ← hC, decide_eq_true hc0, Bool.or_true]; rfl))
            have hc1 : ¬ 0 ≤ c := by omega
            clear hC
            go_wp2_with (first | (go_at_call 64; refine (within_any _ _ _ _).mono ?_; rw [← Hm.out]; (first | rw [HA.out] | rw [HA'.out]); rintro e w' ⟨rfl, rfl⟩) | (go_at_call 65; refine (slicesCompareI_any _ _ (rnth r j) (rnth r (j + 1)) _ Hrj.out Hrk2.out).mono ?_; rw [← HC.out]; rintro e w1 ⟨rfl, hbc⟩))
            go_roundw
            case rel => exact ⟨j + 1 + 1, by omega, by go_num, hI2, below_trans' hbl hbc⟩
            case measure => simp [intOf]; omega
          · have hB : Hid (isRel n r = false) := Lib.hid (isRel_bad Hmm.out (relAll_bad (k := j + 1) (by rw [relStep, Nat.add_sub_cancel, ← hC, decide_eq_false hc0, decide_eq_false (by omega), Bool.or_false, Bool.and_false]) hlt))
            have hc1 : 0 ≤ c := by omega
            clear hC
            go_wp2_with (first | (go_at_call 64; refine (within_any _ _ _ _).mono ?_; rw [← Hm.out]; (first | rw [HA.out] | rw [HA'.out]); rintro e w' ⟨rfl, rfl⟩) | (go_at_call 65; refine (slicesCompareI_any _ _ (rnth r j) (rnth r (j + 1)) _ Hrj.out Hrk2.out).mono ?_; rw [← HC.out]; rintro e w1 ⟨rfl, hbc⟩))
            go_ret
            rw [hB.out]
            exact ⟨rfl, below_trans' hbl hbc⟩
      · have h2b : (((rnth r k).length : Int) != 2) = true := by simp; omega
        have hB : Hid (isRel n r = false) := Lib.hid (isRel_bad Hmm.out (relAll_bad (k := k) (by simp [relStep, pairOk, h2]) hlt))
        go_wp2_with fail
        go_ret
        rw [hB.out]
        exact ⟨rfl, hbl⟩
    · obtain rfl : k = r.length := by omega
      have hg := isRel_good Hmm.out hI.out
      have Hg := Lib.hid hg; clear hg
      go_wp2_with (go_at_call 66; refine (itemsOk_any _ _).mono ?_; rintro e w' ⟨rfl, rfl⟩)
      go_ret
      rw [Hg.out]
      exact ⟨rfl, hbl⟩
set_option maxHeartbeats 1600000 in
theorem l02Relation_any (vr : Value) (n : Int) (r : List (List Int)) (w : World) (rr : RdII w vr r) :
    Calls Try.prog 63 #[.int .i64 n, vr] w fun e w' => e = .returned (.bool (isRel n r)) ∧ Below w.heap.size w w' := by
  obtain ⟨vs, ⟨a, cap, rfl, hcap, hcm, hc⟩, hrows⟩ := rr
  have Hrows := Lib.hid hrows; clear hrows
  unfold maxLen at hcm
  cases hN : inR n 1 40 with
  | false =>
    have HN := Lib.hid hN
    have hB : Hid (isRel n r = false) := Lib.hid (by rw [isRel, hN]; rfl)
    clear hN
    go_enter Try.func63, Try.ntmps63
    go_wp2_with (go_at_call 94; refine (l00In_any _ _ _ _).mono ?_; (first | rw [HN.out]); rintro e w' ⟨rfl, rfl⟩)
    go_ret
    rw [hB.out]
    exact ⟨rfl, Below.refl _ _⟩
  | true =>
  have HN := Lib.hid hN
  obtain ⟨hn1, hn2⟩ := inR_true hN
  obtain ⟨m, hm⟩ : ∃ m, m = n - 1 := ⟨_, rfl⟩
  have hR : Hid (isRel n r = relAll m r r.length) := Lib.hid (by rw [isRel, hN, hm]; rfl)
  have Hm := Lib.hid hm; clear hm hN
  go_enter Try.func63, Try.ntmps63
  go_wp2_with (go_at_call 94; refine (l00In_any _ _ _ _).mono ?_; (first | rw [HN.out]); rintro e w' ⟨rfl, rfl⟩)
  go_loopw [5] (fun si wr => ∃ k : Nat, k ≤ r.length ∧ si = .int .i64 k ∧ Hid (relAll m r k = true) ∧ Below w.heap.size w wr) (fun si _ => r.length - (intOf si).toNat)
  case atStart => exact ⟨0, Nat.zero_le _, rfl, Lib.hid rfl, Below.refl _ _⟩
  case round =>
    obtain ⟨k, hk, rfl, hI, hbl⟩ := hrel
    by_cases hlt : k < r.length
    · obtain ⟨b1, o1, rfl, hb1, hc1⟩ := hc (by omega)
      obtain ⟨ak, ck, hvk⟩ := (Hrows.out k hlt).slice
      have g1 : wr.cell? ⟨b1, o1 + k, none⟩ = some (.slice ak (rnth r k).length ck) := (hbl.cell (by exact hb1)).trans (by rw [hc1 k (by omega), hvk])
      have g0 : 0 < k → ∃ aj cj, vs (k - 1) = .slice aj (rnth r (k - 1)).length cj ∧ wr.cell? ⟨b1, o1 + (k - 1), none⟩ = some (.slice aj (rnth r (k - 1)).length cj) := by
        intro h
        obtain ⟨aj, cj, hvj⟩ := (Hrows.out (k - 1) (by omega)).slice
        exact ⟨aj, cj, hvj, (hbl.cell (by exact hb1)).trans (by rw [hc1 (k - 1) (by omega), hvj])⟩
      have G0 := Lib.hid g0; clear g0
      have hrk := (Hrows.out k hlt).below hbl
      rw [hvk] at hrk
      have Hrk := Lib.hid hrk
      clear hrk hc1 hc hvk
      by_cases h2 : (rnth r k).length = 2
      · have hr2 := Hrk.out
        rw [h2] at g1
        have h2b : (((rnth r k).length : Int) != 2) = false := by simp; omega
        obtain ⟨_, _, e1, _, _, hr2⟩ := hr2
        cases e1
        rw [h2] at hr2
        obtain ⟨b2, o2, rfl, hb2, hc2⟩ := hr2 (by omega)
        have g2 : wr.cell? ⟨b2, o2, none⟩ = some (.int .i64 (nth (rnth r k) 0)) := hc2 0 (by omega)
        have g3 : wr.cell? ⟨b2, o2 + 1, none⟩ = some (.int .i64 (nth (rnth r k) 1)) := hc2 1 (by omega)
        clear hc2 h2b
        cases hA : inR (nth (rnth r k) 0) 0 m with
        | false =>
          have HA : Hid (inR (nth (rnth r k) 0) 0 (n - 1) = false) := Lib.hid (by rw [← Hm.out]; exact hA)
          have hB : Hid (isRel n r = false) := Lib.hid (by rw [hR.out]; exact relAll_bad (k := k) (by simp [relStep, pairOk, hA]) hlt)
          clear hA
          go_wp2_with (go_at_call 94; refine (l00In_any _ _ _ _).mono ?_; (first | rw [HA.out]); rintro e w' ⟨rfl, rfl⟩)
          go_ret
          rw [hB.out]
          exact ⟨rfl, hbl⟩
        | true =>
        have HA : Hid (inR (nth (rnth r k) 0) 0 (n - 1) = true) := Lib.hid (by rw [← Hm.out]; exact hA)
        cases hA' : inR (nth (rnth r k) 1) 0 m with
        | false =>
          have HA' : Hid (inR (nth (rnth r k) 1) 0 (n - 1) = false) := Lib.hid (by rw [← Hm.out]; exact hA')
          have hB : Hid (isRel n r = false) := Lib.hid (by rw [hR.out]; exact relAll_bad (k := k) (by simp [relStep, pairOk, hA']) hlt)
          clear hA' hA
          go_wp2_with (go_at_call 94; refine (l00In_any _ _ _ _).mono ?_; (first | rw [HA.out] | rw [HA'.out]); rintro e w' ⟨rfl, rfl⟩)
          go_ret
          rw [hB.out]
          exact ⟨rfl, hbl⟩
        | true =>
        have HA' : Hid (inR (nth (rnth r k) 1) 0 (n - 1) = true) := Lib.hid (by rw [← Hm.out]; exact hA')
        have hP : Hid (pairOk m (rnth r k) = true) := Lib.hid (by simp [pairOk, h2, hA, hA'])
        clear hA hA'
        obtain ⟨_, q1, q2, q3, q4⟩ := pairOk_parts hP.out
        have q0 : m ≤ 39 := by have := Hm.out; omega
        by_cases h0 : k = 0
        · have hI2 : Hid (relAll m r (k + 1) = true) := Lib.hid (relAll_next hI.out (by rw [relStep, hP.out, decide_eq_true h0]; rfl))
          have hk0 : decide (0 < k) = false := decide_eq_false (by omega)
          clear h0
          go_wp2_with (go_at_call 94; refine (l00In_any _ _ _ _).mono ?_; (first | rw [HA.out] | rw [HA'.out]); rintro e w' ⟨rfl, rfl⟩)
          go_quiet (fail)
          go_wp2
          go_roundw
          case rel => exact ⟨k + 1, by omega, by go_num, hI2, hbl.trans ⟨rfl, rfl, rfl, Nat.le_refl _, fun _ _ => rfl⟩⟩
          case measure => simp [intOf]; omega
        · have h0' : 0 < k := by omega
          obtain ⟨aj, cj, hvj, g4⟩ := G0.out h0'
          obtain ⟨j, rfl⟩ : ∃ j, k = j + 1 := ⟨k - 1, by omega⟩
          rw [Nat.add_sub_cancel] at g4 hvj
          have hPj := relAll_get hI.out (Nat.lt_succ_self j)
          rw [relStep, Bool.and_eq_true] at hPj
          obtain ⟨l1, p1, p2, p3, p4⟩ := pairOk_parts hPj.1
          have hrj := (Hrows.out j (by omega)).below hbl
          rw [hvj] at hrj
          have hcmp := cmpL_num (by omega) hPj.1 hP.out
          obtain ⟨_, _, e1, _, _, hr3⟩ := hrj
          cases e1
          rw [l1] at hr3 g4
          obtain ⟨b3, o3, rfl, hb3, hc3⟩ := hr3 (by omega)
          have g5 : wr.cell? ⟨b3, o3, none⟩ = some (.int .i64 (nth (rnth r j) 0)) := hc3 0 (by omega)
          have g6 : wr.cell? ⟨b3, o3 + 1, none⟩ = some (.int .i64 (nth (rnth r j) 1)) := hc3 1 (by omega)
          clear hvj h0' h0 G0 hc3 hPj
          by_cases hc0 : cmpL (rnth r j) (rnth r (j + 1)) < 0
          · have hI2 : Hid (relAll m r (j + 1 + 1) = true) := Lib.hid (relAll_next hI.out (by rw [relStep, hP.out, Nat.add_sub_cancel, decide_eq_true hc0, Bool.or_true]; rfl))
            have hlt3 := hcmp.1 hc0
            have hlt4 : ¬ nth (rnth r (j + 1)) 0 * 40 + nth (rnth r (j + 1)) 1 ≤ nth (rnth r j) 0 * 40 + nth (rnth r j) 1 := by omega
            clear hcmp hc0
            go_wp2_with (go_at_call 94; refine (l00In_any _ _ _ _).mono ?_; (first | rw [HA.out] | rw [HA'.out]); rintro e w' ⟨rfl, rfl⟩)
            go_quiet (fail)
            go_wp2
            go_roundw
            case rel => exact ⟨j + 1 + 1, by omega, by go_num, hI2, hbl.trans ⟨rfl, rfl, rfl, Nat.le_refl _, fun _ _ => rfl⟩⟩
            case measure => simp [intOf]; omega
          · have hB : Hid (isRel n r = false) := Lib.hid (by rw [hR.out]; exact relAll_bad (k := j + 1) (by rw [relStep, Nat.add_sub_cancel, decide_eq_false hc0, decide_eq_false (by omega), Bool.or_false, Bool.and_false]) hlt)
            have hlt3 : nth (rnth r (j + 1)) 0 * 40 + nth (rnth r (j + 1)) 1 ≤ nth (rnth r j) 0 * 40 + nth (rnth r j) 1 := by
              rw [hcmp] at hc0; omega
            clear hcmp hc0
            go_wp2_with (go_at_call 94; refine (l00In_any _ _ _ _).mono ?_; (first | rw [HA.out] | rw [HA'.out]); rintro e w' ⟨rfl, rfl⟩)
            go_quiet (fail)
            go_wp2
            go_ret
            rw [hB.out]
            exact ⟨rfl, hbl.trans ⟨rfl, rfl, rfl, Nat.le_refl _, fun _ _ => rfl⟩⟩
      · have h2b : (((rnth r k).length : Int) != 2) = true := by simp; omega
        have hB : Hid (isRel n r = false) := Lib.hid (by rw [hR.out]; exact relAll_bad (k := k) (by simp [relStep, pairOk, h2]) hlt)
        go_wp2_with fail
        go_ret
        rw [hB.out]
        exact ⟨rfl, hbl⟩
    · obtain rfl : k = r.length := by omega
      go_wp2
      go_ret
      rw [hR.out, hI.out]
      exact ⟨rfl, hbl⟩
theorem spec_IsRelation_any (vr : Value) (n : Int) (r : List (List Int)) (w : World) (rr : RdII w vr r) :
    Calls Try.prog 24 #[.int .i64 n, vr] w fun e w' => e = .returned (.bool (isRel n r)) ∧ Below w.heap.size w w' := by
  go_enter Try.func24, Try.ntmps24
  go_wp2_with (go_at_call 63; refine (l02Relation_any _ n r _ rr).mono ?_; rintro e w1 ⟨rfl, hb1⟩)
  go_ret
  exact ⟨rfl, hb1⟩
end Go.Proofs.Ythnlnnbhkpnkgaa
