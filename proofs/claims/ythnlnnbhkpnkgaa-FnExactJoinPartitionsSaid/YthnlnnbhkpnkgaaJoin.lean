/- The join of partitions, of the program and of the reference. -/
import Derived.Test.YthnlnnbhkpnkgaaProg
import Derived.Test.YthnlnnbhkpnkgaaMem
import Derived.Test.YthnlnnbhkpnkgaaMath
import Derived.Test.YthnlnnbhkpnkgaaBasics
import Derived.Test.YthnlnnbhkpnkgaaGrid
import Derived.Test.YthnlnnbhkpnkgaaPart
import Derived.Test.YthnlnnbhkpnkgaaPartW
import Derived.Test.YthnlnnbhkpnkgaaPartX
import Derived.Test.YthnlnnbhkpnkgaaHelpI
import Derived.Test.YthnlnnbhkpnkgaaPairs
import Derived.Test.YthnlnnbhkpnkgaaRel
import Derived.Test.YthnlnnbhkpnkgaaSpan
import Derived.Test.YthnlnnbhkpnkgaaConc
import Derived.WalkKit
import Derived.BigQuiet
import Derived.BigRegion
import Derived.Maps.AppendAt
import Derived.Deep.QuietTactic
import Derived.Lib.Hide
import Derived.Outline
set_option linter.unusedVariables false
set_option linter.unusedSimpArgs false
namespace Go.Proofs.Ythnlnnbhkpnkgaa
open Go.RowKit

theorem mem_prow (p : List Int) (i d : Nat) (row : List Int) : row ∈ prow p i d ↔ ∃ e, e < d ∧ nth p (i + 1 + e) = nth p i ∧ row = [(i : Int), ((i + 1 + e : Nat) : Int)] := by
  induction d with
  | zero => simp [prow]
  | succ d ih =>
    rw [prow, List.mem_append, ih]
    constructor
    · rintro (⟨e, h1, h2, h3⟩ | h)
      · exact ⟨e, by omega, h2, h3⟩
      · split at h
        · rename_i hc
          exact ⟨d, by omega, hc, by simpa using h⟩
        · cases h
    · rintro ⟨e, h1, h2, h3⟩
      by_cases he : e = d
      · subst he
        right
        rw [if_pos h2, h3]
        simp
      · exact Or.inl ⟨e, by omega, h2, h3⟩
theorem mem_pall (p : List Int) (k : Nat) (row : List Int) : row ∈ pall p k ↔ ∃ i, i < k ∧ row ∈ prow p i (p.length - (i + 1)) := by
  induction k with
  | zero => simp [pall]
  | succ k ih =>
    rw [pall, List.mem_append, ih]
    constructor
    · rintro (⟨i, h1, h2⟩ | h)
      · exact ⟨i, by omega, h2⟩
      · exact ⟨k, by omega, h⟩
    · rintro ⟨i, h1, h2⟩
      by_cases he : i = k
      · subst he; exact Or.inr h2
      · exact Or.inl ⟨i, by omega, h2⟩
theorem mem_pairsL (p : List Int) (row : List Int) : row ∈ pairsL p ↔ ∃ i j : Nat, i < j ∧ j < p.length ∧ nth p j = nth p i ∧ row = [(i : Int), (j : Int)] := by
  unfold pairsL
  rw [mem_pall]
  constructor
  · rintro ⟨i, hi, h⟩
    obtain ⟨e, h1, h2, h3⟩ := (mem_prow _ _ _ _).1 h
    exact ⟨i, i + 1 + e, by omega, by omega, h2, h3⟩
  · rintro ⟨i, j, h1, h2, h3, h4⟩
    refine ⟨i, by omega, (mem_prow _ _ _ _).2 ⟨j - (i + 1), by omega, ?_, ?_⟩⟩
    · rw [show i + 1 + (j - (i + 1)) = j by omega]; exact h3
    · rw [show i + 1 + (j - (i + 1)) = j by omega]; exact h4
theorem nth_two (a b : Int) : nth [a, b] 0 = a ∧ nth [a, b] 1 = b := by simp [nth]
theorem inPairs_mem (r : List (List Int)) (i j : Nat) : inPairs r r.length i j ↔ ∃ row ∈ r, i = (nth row 0).toNat ∧ j = (nth row 1).toNat := by
  constructor
  · rintro ⟨q, h, h1, h2⟩
    refine ⟨rnth r q, ?_, h1, h2⟩
    rw [rnth_eq r q h]; exact List.getElem_mem h
  · rintro ⟨row, h, h1, h2⟩
    obtain ⟨q, hq, rfl⟩ := List.mem_iff_getElem.1 h
    refine ⟨q, hq, ?_, ?_⟩
    · unfold pairA; rw [rnth_eq r q hq]; exact h1
    · unfold pairB; rw [rnth_eq r q hq]; exact h2
def joinR (p q : List Int) : List (List Int) := pairsL p ++ pairsL q
theorem joinR_ok {p q : List Int} (hl : p.length = q.length) : ∀ k, k < (joinR p q).length → pairOk ((p.length : Int) - 1) (rnth (joinR p q) k) = true := by
  intro k hk
  have hm : rnth (joinR p q) k ∈ joinR p q := by rw [rnth_eq _ _ hk]; exact List.getElem_mem hk
  have : ∃ i j : Nat, i < j ∧ j < p.length ∧ rnth (joinR p q) k = [(i : Int), (j : Int)] := by
    rcases List.mem_append.1 hm with h | h
    · obtain ⟨i, j, h1, h2, _, h4⟩ := (mem_pairsL _ _).1 h
      exact ⟨i, j, h1, h2, h4⟩
    · obtain ⟨i, j, h1, h2, _, h4⟩ := (mem_pairsL _ _).1 h
      exact ⟨i, j, h1, by omega, h4⟩
  obtain ⟨i, j, h1, h2, h3⟩ := this
  rw [h3]
  unfold pairOk
  rw [(nth_two _ _).1, (nth_two _ _).2, inR_mk (by omega) (by omega), inR_mk (by omega) (by omega)]
  simp
def joinOut (p q : List Int) : List Int := if isPart p = true ∧ isPart q = true ∧ p.length = q.length then nrm (spanF (ident p.length) (joinR p q) (joinR p q).length) else []
theorem joinOut_length (p q : List Int) : (joinOut p q).length ≤ 40 := by
  unfold joinOut
  split
  · rename_i h
    rw [nrm_length, spanF_length, ident_length]
    exact (isPart_iff.1 h.1).2.1
  · simp
/-- What the reference has joined before it meets item i, and before it meets k at i. -/
def joinP (p q : List Int) (i : Nat) (a b : Nat) : Prop := nth p a = nth p b ∨ (b < i ∧ a < b ∧ nth q a = nth q b)
def joinQ (p q : List Int) (i k : Nat) (a b : Nat) : Prop := joinP p q i a b ∨ (b = i ∧ a < k ∧ nth q a = nth q i)
theorem joinQ_zero (p q : List Int) (i a b : Nat) : joinP p q i a b ↔ joinQ p q i 0 a b := ⟨Or.inl, fun h => h.elim id fun h => absurd h.2.1 (by omega)⟩
theorem joinQ_full (p q : List Int) (i a b : Nat) : joinQ p q i i a b ↔ joinP p q (i + 1) a b := by
  unfold joinQ joinP
  constructor
  · rintro ((h | ⟨h1, h2, h3⟩) | ⟨rfl, h2, h3⟩)
    · exact Or.inl h
    · exact Or.inr ⟨by omega, h2, h3⟩
    · exact Or.inr ⟨by omega, h2, h3⟩
  · rintro (h | ⟨h1, h2, h3⟩)
    · exact Or.inl (Or.inl h)
    · by_cases e : b = i
      · exact Or.inr ⟨e, by omega, by rw [← e]; exact h3⟩
      · exact Or.inl (Or.inr ⟨by omega, h2, h3⟩)
theorem joinQ_yes {p q : List Int} {i k : Nat} (h : nth q i = nth q k) (a b : Nat) : (joinQ p q i k a b ∨ (a = k ∧ b = i)) ↔ joinQ p q i (k + 1) a b := by
  unfold joinQ
  constructor
  · rintro ((h1 | ⟨h1, h2, h3⟩) | ⟨rfl, rfl⟩)
    · exact Or.inl h1
    · exact Or.inr ⟨h1, by omega, h3⟩
    · exact Or.inr ⟨rfl, by omega, h.symm⟩
  · rintro (h1 | ⟨h1, h2, h3⟩)
    · exact Or.inl (Or.inl h1)
    · by_cases e : a = k
      · exact Or.inr ⟨e, h1⟩
      · exact Or.inl (Or.inr ⟨h1, by omega, h3⟩)
theorem joinQ_no {p q : List Int} {i k : Nat} (h : nth q i ≠ nth q k) (a b : Nat) : joinQ p q i k a b ↔ joinQ p q i (k + 1) a b := by
  unfold joinQ
  constructor
  · rintro (h1 | ⟨h1, h2, h3⟩)
    · exact Or.inl h1
    · exact Or.inr ⟨h1, by omega, h3⟩
  · rintro (h1 | ⟨h1, h2, h3⟩)
    · exact Or.inl h1
    · refine Or.inr ⟨h1, ?_, h3⟩
      have : a ≠ k := fun e => h (by rw [← e]; exact h3.symm)
      omega
theorem join_same {p q ys : List Int} (hl : p.length = q.length) (h : Merged p.length (joinP p q p.length) ys) : nrm ys = nrm (spanF (ident p.length) (joinR p q) (joinR p q).length) := by
  have hz := spanF_merged p.length (joinR p q) (joinR p q).length (Nat.le_refl _) (joinR_ok hl)
  have key : ∀ x : List Int, (∀ row, row ∈ pairsL x → row ∈ joinR p q) → x.length = p.length → ∀ i j, i < j → j < p.length → nth x j = nth x i →
      nth (spanF (ident p.length) (joinR p q) (joinR p q).length) i = nth (spanF (ident p.length) (joinR p q) (joinR p q).length) j := by
    intro x hx hxl i j h1 h2 h3
    refine hz.2.1 i j (by omega) h2 ((inPairs_mem _ _ _).2 ⟨[(i : Int), (j : Int)], hx _ ((mem_pairsL _ _).2 ⟨i, j, h1, by omega, h3, rfl⟩), ?_, ?_⟩)
    · rw [(nth_two _ _).1]; omega
    · rw [(nth_two _ _).2]; omega
  refine h.nrm_eq hz (fun i j hi hj hp => ?_) (fun i j hi hj hp => ?_)
  · rcases hp with hp | ⟨h1, h2, h3⟩
    · rcases Nat.lt_trichotomy i j with e | e | e
      · exact key p (fun row h => List.mem_append_left _ h) rfl i j e hj hp.symm
      · rw [e]
      · exact (key p (fun row h => List.mem_append_left _ h) rfl j i e hi hp).symm
    · exact key q (fun row h => List.mem_append_right _ h) hl.symm i j h2 hj h3.symm
  · obtain ⟨row, hm, e1, e2⟩ := (inPairs_mem _ _ _).1 hp
    rcases List.mem_append.1 hm with hm | hm
    · obtain ⟨a, b, h1, h2, h3, h4⟩ := (mem_pairsL _ _).1 hm
      rw [h4, (nth_two _ _).1] at e1
      rw [h4, (nth_two _ _).2] at e2
      obtain rfl : i = a := by omega
      obtain rfl : j = b := by omega
      exact h.2.1 i j hi hj (Or.inl h3.symm)
    · obtain ⟨a, b, h1, h2, h3, h4⟩ := (mem_pairsL _ _).1 hm
      rw [h4, (nth_two _ _).1] at e1
      rw [h4, (nth_two _ _).2] at e2
      obtain rfl : i = a := by omega
      obtain rfl : j = b := by omega
      exact h.2.1 i j hi hj (Or.inr ⟨hj, h1, h3.symm⟩)
theorem Rd_congr' {w : World} {v : Value} {n : Nat} {cs cs' : Nat → Value} (h : Rd w 1 v n cs) (hc : ∀ i, i < n → cs' i = cs i) : Rd w 1 v n cs' := by
  obtain ⟨a, cap, rfl, h1, h2, h3⟩ := h
  refine ⟨a, cap, rfl, h1, h2, fun hn => ?_⟩
  obtain ⟨b, o, rfl, hb, hcc⟩ := h3 hn
  exact ⟨b, o, rfl, hb, fun i hi => by rw [hc i (by omega)]; exact hcc i hi⟩
theorem RdII_cells {w : World} {v : Value} {xss : List (List Int)} (h : RdII w v xss) : ∃ l : List Value, l.length = xss.length ∧ Rd w 1 v xss.length (vnth l) ∧ (∀ u ∈ l, u.oneCell' = true) ∧ ∀ i, i < xss.length → RdI w (vnth l i) (rnth xss i) := by
  obtain ⟨vs, h1, h2⟩ := h
  have hv : ∀ i, i < xss.length → vnth ((List.range xss.length).map vs) i = vs i := fun i hi => by simp [vnth, hi]
  refine ⟨(List.range xss.length).map vs, by simp, Rd_congr' h1 hv, fun u hu => ?_, fun i hi => by rw [hv i hi]; exact h2 i hi⟩
  obtain ⟨i, hi, rfl⟩ := List.mem_map.1 hu
  obtain ⟨a, c, e⟩ := (h2 i (List.mem_range.1 hi)).slice
  rw [e]; rfl
theorem RdII_join {w : World} {B T : Nat} {u : Value} {xss yss : List (List Int)} {l m : List Value} (hl : l.length = xss.length) (hm : m.length = yss.length)
    (h1 : ∀ i, i < xss.length → RdI w (vnth l i) (rnth xss i)) (h2 : ∀ i, i < yss.length → RdI w (vnth m i) (rnth yss i)) (h : w.ownsRow B T 1 u (l ++ m).length (l ++ m)) : RdII w u (xss ++ yss) := by
  have hlen : (l ++ m).length = (xss ++ yss).length := by rw [List.length_append, List.length_append, hl, hm]
  have hget : ∀ i, i < (l ++ m).length * 1 → (l ++ m)[i]? = some (vnth (l ++ m) i) := fun i hi => by
    rw [vnth, List.getD_eq_getElem?_getD, List.getElem?_eq_getElem (by omega)]; rfl
  refine ⟨vnth (l ++ m), by rw [← hlen]; exact (ownsRow_ow h _ hget).rd, fun i hi => ?_⟩
  · rw [List.length_append] at hi
    by_cases e : i < xss.length
    · have e1 : vnth (l ++ m) i = vnth l i := by simp only [vnth, List.getD_eq_getElem?_getD]; rw [List.getElem?_append_left (by omega)]
      have e2 : rnth (xss ++ yss) i = rnth xss i := by simp only [rnth, List.getD_eq_getElem?_getD]; rw [List.getElem?_append_left e]
      rw [e1, e2]; exact h1 i e
    · have e1 : vnth (l ++ m) i = vnth m (i - xss.length) := by simp only [vnth, List.getD_eq_getElem?_getD]; rw [List.getElem?_append_right (by omega), hl]
      have e2 : rnth (xss ++ yss) i = rnth yss (i - xss.length) := by simp only [rnth, List.getD_eq_getElem?_getD]; rw [List.getElem?_append_right (by omega)]
      rw [e1, e2]; exact h2 _ (by omega)
set_option maxHeartbeats 1600000 in
theorem JoinPartitions_any (vp vq : Value) (p q : List Int) (w : World) (hp : p.length ≤ 1048576) (hq : q.length ≤ 1048576) (p64 : ∀ x ∈ p, -9223372036854775808 ≤ x ∧ x ≤ 9223372036854775807) (q64 : ∀ x ∈ q, -9223372036854775808 ≤ x ∧ x ≤ 9223372036854775807) (rp : RdI w vp p) (rq : RdI w vq q) :
    Calls Try.prog 49 #[vp, vq] w fun e w' => ∃ u, e = .returned (.tuple #[u, .int .i64 (partsCode p q)]) ∧ OwI w' w.heap.size u (joinOut p q) ∧ Below w.heap.size w w' := by
  have Rp := Lib.hid rp
  have Rq := Lib.hid rq
  by_cases hc : partsCode p q = 0
  · have hh : isPart p = true ∧ isPart q = true ∧ p.length = q.length := by
      unfold partsCode at hc
      cases h1 : isPart p <;> cases h2 : isPart q <;> simp [h1, h2] at hc
      exact ⟨rfl, rfl, hc⟩
    obtain ⟨h1, h2, hl⟩ := hh
    have H : Hid (joinOut p q = nrm (spanF (ident p.length) (joinR p q) (joinR p q).length)) := Lib.hid (by rw [joinOut, if_pos ⟨h1, h2, hl⟩])
    have hok := Lib.hid (joinR_ok hl)
    have hn40 := (isPart_iff.1 h1).2.1
    have hm40 := (isPart_iff.1 h2).2.1
    have hn0 : 0 < p.length := by
      have := (isPart_iff.1 h1).1
      omega
    have Hl := Lib.hid hl
    have Hc := Lib.hid hc
    have P64 := Lib.hid p64
    have Q64 := Lib.hid q64
    obtain ⟨ap, cp, rfl⟩ := rp.slice
    obtain ⟨aq, cq, rfl⟩ := rq.slice
    clear h1 h2 hl hc p64 q64 rp rq
    rw [Hc.out, H.out]
    go_enter Try.func49, Try.ntmps49
    go_wp2_with fail
    refine (partitionsCode_any _ _ p q _ hp hq P64.out Q64.out Rp.out Rq.out).mono ?_
    rw [Hc.out]
    rintro e w1 ⟨rfl, hb1⟩
    have Rp1 := Lib.hid (Rp.out.below hb1)
    have Rq1 := Lib.hid (Rq.out.below hb1)
    go_wp2_with fail
    refine (pairs_any _ p _ hn40 Rp1.out).mono ?_
    rintro e w2 ⟨u1, rfl, hu1, hb2⟩
    have Rq2 := Lib.hid (Rq1.out.below hb2)
    have z2 := hb2.size
    have hu1' := Lib.hid hu1
    clear hu1
    go_wp2_with fail
    refine (pairs_any _ q _ hm40 Rq2.out).mono ?_
    rintro e w3 ⟨u2, rfl, hu2, hb3⟩
    have z3 := hb3.size
    obtain ⟨l, hl1, hl2, hl3, hl4⟩ := RdII_cells (hu1'.out.below hb3 (Nat.le_refl _)).rd
    obtain ⟨m, hm1, hm2, hm3, hm4⟩ := RdII_cells hu2.rd
    have HL := Lib.hid (And.intro hl1 (And.intro hl2 (And.intro hl3 hl4)))
    have HM := Lib.hid (And.intro hm1 (And.intro hm2 (And.intro hm3 hm4)))
    have hb13 : Below w.heap.size w w3 := below_trans' hb1 (below_trans' hb2 hb3)
    have hlb := Lib.hid (pall_length p p.length)
    have hmb := Lib.hid (pall_length q q.length)
    obtain ⟨a1, c1, rfl⟩ := hu1'.out.rd.slice
    obtain ⟨a2, c2, rfl⟩ := hu2.rd.slice
    obtain ⟨N1, hN1⟩ : ∃ N, N = (pairsL p).length := ⟨_, rfl⟩
    obtain ⟨N2, hN2⟩ : ∃ N, N = (pairsL q).length := ⟨_, rfl⟩
    rw [← hN1, ← hN2]
    have HN1 := Lib.hid hN1
    have HN2 := Lib.hid hN2
    clear hl1 hl2 hl3 hl4 hm1 hm2 hm3 hm4 hu2 hu1' Rq2 Rp1 Rq1 hN1 hN2
    have hcell : ∀ u1 u2 : Value, ∀ i, i < 2 * 1 → (w3.alloc (.cells #[u1, u2] 32)).cell? ⟨w3.heap.size, 0 + i, none⟩ = some (vnth [u1, u2] i) := by
      intro x y i hi
      match i, hi with
      | 0, _ => simp [vnth]
      | 1, _ => simp [vnth]
    have Hcell := Lib.hid hcell
    clear hcell
    have hwa : Below w.heap.size w (w3.alloc (.cells #[.slice a1 N1 c1, .slice a2 N2 c2] 32)) := hb13.alloc hb13.size _
    have hwb : Below w3.heap.size w3 (w3.alloc (.cells #[.slice a1 N1 c1, .slice a2 N2 c2] 32)) := (Below.refl _ _).alloc (Nat.le_refl _) _
    go_wp2_with fail
    refine (concatII_any _ (vnth [.slice a1 N1 c1, .slice a2 N2 c2]) [l, m] _ ?f1 ?f2 ?f3 ?f4 ?f5).mono ?_
    case f1 =>
      have h1 := HL.out.1
      have h2 := HM.out.1
      have h3 := hlb.out
      have h4 := hmb.out
      have h5 : p.length * p.length ≤ 40 * 40 := Nat.mul_le_mul hn40 hn40
      have h6 : q.length * q.length ≤ 40 * 40 := Nat.mul_le_mul hm40 hm40
      unfold pairsL at h1 h2
      simp only [List.flatten_cons, List.flatten_nil, List.append_nil, List.length_append]
      omega
    case f2 => simp
    case f3 =>
      intro x hx u hu
      simp only [List.mem_cons, List.not_mem_nil, or_false] at hx
      rcases hx with rfl | rfl
      · exact HL.out.2.2.1 u hu
      · exact HM.out.2.2.1 u hu
    case f4 => exact ⟨_, 2, rfl, Nat.le_refl _, by unfold maxLen; decide, fun _ => ⟨_, _, rfl, by simp, Hcell.out _ _⟩⟩
    case f5 =>
      intro k hk
      match k, hk with
      | 0, _ =>
        have h1 := HL.out.2.1.below hwb
        rw [← HL.out.1, HL.out.1, ← HN1.out] at h1
        show Rd _ 1 (.slice a1 N1 c1) l.length (vnth l)
        rw [HL.out.1, ← HN1.out]; exact h1
      | 1, _ =>
        have h1 := HM.out.2.1.below hwb
        rw [← HN2.out] at h1
        show Rd _ 1 (.slice a2 N2 c2) m.length (vnth m)
        rw [HM.out.1, ← HN2.out]; exact h1
    rintro e w4 ⟨u, rfl, hu, hb4⟩
    have hb34 : Below w3.heap.size w3 w4 := below_trans' hwb hb4
    have hru : RdII w4 u (joinR p q) := by
      simp only [List.flatten_cons, List.flatten_nil, List.append_nil] at hu
      exact RdII_join HL.out.1 HM.out.1 (fun i hi => (HL.out.2.2.2 i hi).below hb34) (fun i hi => (HM.out.2.2.2 i hi).below hb34) hu
    have Hru := Lib.hid hru
    have hb04 : Below w.heap.size w w4 := below_trans' hwa hb4
    clear hru hu HL HM
    go_wp2_with fail
    refine (span_any _ p.length (joinR p q) _ hn0 hn40 hok.out Hru.out).mono ?_
    rintro e w5 ⟨u5, rfl, hu5, hb5⟩
    go_wp2_with fail
    go_ret2
    exact ⟨_, rfl, hu5.mono' hb04.size, below_trans' hb04 hb5⟩
  · have H : Hid (joinOut p q = []) := Lib.hid (by
      unfold partsCode at hc
      unfold joinOut
      cases h1 : isPart p <;> cases h2 : isPart q <;> simp [h1, h2] at hc ⊢
      exact fun e => absurd e hc)
    have hcb : (partsCode p q != 0) = true := by simpa using hc
    rw [H.out]
    clear hc rp rq
    obtain ⟨c, hcc⟩ : ∃ c, c = partsCode p q := ⟨_, rfl⟩
    rw [← hcc] at hcb ⊢
    have Hcc := Lib.hid hcc; clear hcc
    go_enter Try.func49, Try.ntmps49
    go_wp2_with fail
    refine (partitionsCode_any _ _ p q _ hp hq p64 q64 Rp.out Rq.out).mono ?_
    rw [← Hcc.out]
    rintro e w1 ⟨rfl, hb1⟩
    go_wp2_with fail
    go_ret2
    exact ⟨_, rfl, OwI_nil _ _, hb1⟩
set_option maxHeartbeats 800000 in
theorem l00Own_any (v : Value) (p : List Int) (w : World) (hn : p.length ≤ 1048576) (rp : RdI w v p) :
    Calls Try.prog 89 #[v] w fun e w' => ∃ u, e = .returned u ∧ OwI w' w.heap.size u p ∧ Below w.heap.size w w' := by
  obtain ⟨i0, hi, hz0, hz1, hz2⟩ := info_parts infoI64
  obtain ⟨a, cap, rfl, hcap, hcm, rp⟩ := rp
  unfold maxLen at hcm
  have Rp := Lib.hid rp
  have hown : (w.alloc (.cells #[] 2)).ownsRow w.heap.size 2 1 (.slice (some ⟨w.heap.size, 0, none⟩) 0 0) 0 [] :=
    ⟨rfl, Or.inr ⟨w.heap.size, 0, #[], rfl, Nat.le_refl _, by show (w.heap.push _)[w.heap.size]? = some _; simp, Nat.le_refl _, Nat.zero_le _, rfl, rfl⟩⟩
  have Hown := Lib.hid hown
  have hb0 : Below w.heap.size w (w.alloc (.cells #[] 2)) := (Below.refl _ _).alloc (Nat.le_refl _) _
  clear hown rp
  cases a with
  | none =>
    have h0 : p.length = 0 := by
      by_cases e : 0 < p.length
      · obtain ⟨_, _, e2, _⟩ := Rp.out e; cases e2
      · omega
    have hpn : p = [] := List.length_eq_zero_iff.1 h0
    subst hpn
    clear h0
    go_enter Try.func89, Try.ntmps89
    go_wp2_with (at_builtin; refine wpList_append_none' rfl _ _ 27 rfl w.heap.size 2 i0 1 Try.underlying27 hi _ 0 cap _ rfl Hown.out rfl ?_)
    go_wp2
    go_ret
    exact ⟨_, rfl, ownsRow_ow Hown.out _ fun i hi => absurd hi (by simp), hb0⟩
  | some ad =>
    obtain ⟨news, hne⟩ : ∃ news : List Value, news = p.map fun x => .int .i64 x := ⟨_, rfl⟩
    have hnl : news.length = p.length := by rw [hne, List.length_map]
    have hget : ∀ i, i < p.length → news[i]? = some (ic p i) := fun i hi => by
      rw [hne, List.getElem?_map, nth_get? p i hi]; rfl
    have hone : ∀ u ∈ news, u.oneCell' = true := by
      intro u hu; rw [hne] at hu
      obtain ⟨x, _, rfl⟩ := List.mem_map.1 hu; rfl
    have hnews : ∀ j u, news[j]? = some u → (w.alloc (.cells #[] 2)).cell? (ad.add j) = some u := fun j u hj => by
      have hjl : j < p.length := by rw [← hnl]; exact (List.getElem?_eq_some_iff.1 hj).1
      obtain ⟨b2, o2, e2, hb2, hc2⟩ := Rp.out (by omega)
      cases e2
      rw [hget j hjl] at hj
      cases hj
      rw [Addr.add_lit, hb0.cell (by exact hb2)]
      exact hc2 j (by omega)
    have Hnews := Lib.hid hnews
    have Hone := Lib.hid hone
    have Hget := Lib.hid hget
    have Hnl := Lib.hid hnl
    clear hne hnl hget hone hnews
    go_enter Try.func89, Try.ntmps89
    go_wp2_with (at_builtin; refine wpList_append_own_at _ rfl _ _ 27 rfl w.heap.size 2 i0 (.int .i64 0) 1 8 Try.underlying27 hi hz0 hz1 hz2 rfl (by decide) _ 0 _ rfl Hown.out ad p.length cap news rfl (by rw [Hnl.out, Nat.mul_one]) Hnews.out Hone.out ?c2 ?c3 ?c4 ?_)
    case c2 => unfold maxLen; omega
    case c3 => omega
    case c4 => simp
    intro v' w1 hown' hgrow hnil hloc
    have hres : OwI w1 w.heap.size v' p := by
      exact ownsRow_ow hown' _ fun i hi => Hget.out i (by omega)
    have Hres := Lib.hid hres
    have hb2 : Below w.heap.size w w1 := hb0.grown hgrow (by simp) (fun j hj => (Hown.out.lt j hj).1)
    clear hown' hgrow hnil hloc hres
    go_wp2
    go_ret
    exact ⟨_, rfl, Hres.out, hb2⟩
set_option maxHeartbeats 1600000 in
theorem spec_JoinPartitions_any (vp vq : Value) (p q : List Int) (w : World) (hp : p.length ≤ 1048576) (hq : q.length ≤ 1048576) (rp : RdI w vp p) (rq : RdI w vq q) :
    Calls Try.prog 48 #[vp, vq] w fun e w' => ∃ u, e = .returned (.tuple #[u, .int .i64 (partsCode p q)]) ∧ OwI w' w.heap.size u (joinOut p q) ∧ Below w.heap.size w w' := by
  have Rp := Lib.hid rp
  have Rq := Lib.hid rq
  obtain ⟨ap, cp, rfl⟩ := rp.slice
  obtain ⟨aq, cq, rfl⟩ := rq.slice
  clear rp
  cases h1 : isPart p with
  | false =>
    have H : Hid (joinOut p q = []) := Lib.hid (by simp [joinOut, h1])
    have Hc : Hid (partsCode p q = 1) := Lib.hid (by simp [partsCode, h1])
    have H1 := Lib.hid h1
    rw [H.out, Hc.out]
    clear h1 rq
    go_enter Try.func48, Try.ntmps48
    go_wp2_with fail
    refine (l02Is_any _ p _ Rp.out).mono ?_
    rw [H1.out]
    rintro e w1 ⟨rfl, hb1⟩
    go_wp2_with fail
    go_ret2
    exact ⟨_, rfl, OwI_nil _ _, hb1⟩
  | true =>
  have H1 := Lib.hid h1
  cases h2 : isPart q with
  | false =>
    have H : Hid (joinOut p q = []) := Lib.hid (by simp [joinOut, h2])
    have Hc : Hid (partsCode p q = 1) := Lib.hid (by simp [partsCode, h2])
    have H2 := Lib.hid h2
    rw [H.out, Hc.out]
    clear h1 h2 rq
    go_enter Try.func48, Try.ntmps48
    go_wp2_with fail
    refine (l02Is_any _ p _ Rp.out).mono ?_
    rw [H1.out]
    rintro e w1 ⟨rfl, hb1⟩
    go_wp2_with fail
    refine (l02Is_any _ q _ (Rq.out.below hb1)).mono ?_
    rw [H2.out]
    rintro e w2 ⟨rfl, hb2⟩
    go_wp2_with fail
    go_ret2
    exact ⟨_, rfl, OwI_nil _ _, below_trans' hb1 hb2⟩
  | true =>
  have H2 := Lib.hid h2
  have hn40 := (isPart_iff.1 h1).2.1
  have hn0 : 0 < p.length := by
    have := (isPart_iff.1 h1).1
    omega
  by_cases hl : p.length = q.length
  · have H : Hid (joinOut p q = nrm (spanF (ident p.length) (joinR p q) (joinR p q).length)) := Lib.hid (by rw [joinOut, if_pos ⟨h1, h2, hl⟩])
    have Hc : Hid (partsCode p q = 0) := Lib.hid (by simp [partsCode, h1, h2, hl])
    have Hsame : Hid (∀ ys, Merged p.length (joinP p q p.length) ys → nrm ys = nrm (spanF (ident p.length) (joinR p q) (joinR p q).length)) := Lib.hid fun ys h => join_same hl h
    obtain ⟨n, hn⟩ : ∃ n, n = p.length := ⟨_, rfl⟩
    have hqn : q.length = n := by omega
    have hd : ((n : Int) != (n : Int)) = false := by simp
    have Hbase := Lib.hid (Merged.base p)
    rw [← hn] at hn40 hn0 Hsame Hbase
    rw [H.out, Hc.out]
    rw [hqn]
    have Hn := Lib.hid hn
    have Hqn := Lib.hid hqn
    clear h1 h2 H Hc hl hn hqn rq
    go_enter Try.func48, Try.ntmps48
    rw [← Hn.out]
    go_wp2_with fail
    refine (l02Is_any _ p _ (by rw [Hn.out]; exact Rp.out)).mono ?_
    rw [H1.out]
    rintro e w1 ⟨rfl, hb1⟩
    go_wp2_with fail
    refine (l02Is_any _ q _ (by rw [← Hqn.out]; exact Rq.out.below hb1)).mono ?_
    rw [H2.out]
    rintro e w2 ⟨rfl, hb2⟩
    have hb12 := below_trans' hb1 hb2
    go_wp2_with fail
    refine (l00Own_any _ p _ (by omega) (by rw [Hn.out]; exact Rp.out.below hb12)).mono ?_
    rintro e w3 ⟨ul, rfl, hul, hb3⟩
    have hb123 := below_trans' hb12 hb3
    have Rq3 := Rq.out.below hb12
    obtain ⟨lo, hlo⟩ : ∃ lo, lo = w2.heap.size := ⟨_, rfl⟩
    obtain ⟨h3, hh3⟩ : ∃ h3, h3 = w3.heap.size := ⟨_, rfl⟩
    have hI0 := hul.inn
    rw [← hlo, ← hh3] at hI0
    have hlo1 : w.heap.size ≤ lo := by rw [hlo]; exact hb12.size
    have HI0 := Lib.hid hI0
    obtain ⟨_, _, e1, _, hmq, hcq0⟩ := Rq3
    cases e1
    rw [Hqn.out] at hcq0
    have hlo3 : lo ≤ w3.heap.size := by rw [hlo]; exact hb3.size
    have hcq : 0 < n → ∃ b o, aq = some ⟨b, o, none⟩ ∧ b < lo ∧ ∀ i, i < n * 1 → w3.cell? ⟨b, o + i, none⟩ = some (ic q i) := by
      intro h
      obtain ⟨b, o, e, h1, h2⟩ := hcq0 h
      exact ⟨b, o, e, by rw [hlo]; exact h1, fun i hi => (hb3.cell (by exact h1)).trans (h2 i hi)⟩
    unfold maxLen at hmq
    obtain ⟨al, cl, rfl⟩ := hul.rd.slice
    rw [← Hn.out] at HI0
    have hb123' : Below w.heap.size w w3 := hb123
    clear hul hI0 hlo hh3 hb1 hb2 hb3 hb12 hb123 hcq0
    rw [← Hn.out]
    go_wp2
    go_loopw [7] (fun si wr => ∃ i : Nat, i ≤ n ∧ si = .int .i64 i ∧ Hid (∃ ys, Merged n (joinP p q i) ys ∧ InI wr lo h3 (.slice al n cl) ys) ∧ Below lo w3 wr ∧ Below w.heap.size w wr) (fun si _ => n - (intOf si).toNat)
    case atStart => exact ⟨0, Nat.zero_le _, rfl, Lib.hid ⟨p, Hbase.out.congr fun i j _ _ => ⟨Or.inl, fun h => h.elim id fun h => absurd h.1 (by omega)⟩, HI0.out⟩, Below.refl _ _, hb123'⟩
    case round =>
      obtain ⟨i, hi, rfl, HI, hbl3, hbl⟩ := hrel
      by_cases hlt : i < n
      · obtain ⟨b1, o1, rfl, hb1, hc1⟩ := hcq (by omega)
        have hgi : w3.cell? ⟨b1, o1 + i, none⟩ = some (.int .i64 (nth q i)) := hc1 i (by omega)
        have Hc1 := Lib.hid hc1
        clear hc1 hcq
        have HJ : Hid (∃ ys, Merged n (joinQ p q i 0) ys ∧ InI wr lo h3 (.slice al n cl) ys) := by
          obtain ⟨ys, hM, hY⟩ := HI.out
          exact Lib.hid ⟨ys, hM.congr fun a b _ _ => joinQ_zero p q i a b, hY⟩
        obtain ⟨wo, hwo⟩ : ∃ wo : World, wo = wr := ⟨_, rfl⟩
        rw [← hwo] at hbl3 hbl HJ ⊢
        clear hwo HI
        go_wp2
        go_loopw [8] (fun sk wr => ∃ k : Nat, k ≤ i ∧ sk = .int .i64 k ∧ Hid (∃ ys, Merged n (joinQ p q i k) ys ∧ InI wr lo h3 (.slice al n cl) ys) ∧ Below lo w3 wr ∧ Below w.heap.size w wr) (fun sk _ => i - (intOf sk).toNat)
        case atStart => exact ⟨0, Nat.zero_le _, rfl, HJ, hbl3, hbl⟩
        case round =>
          clear hbl3 hbl HJ
          obtain ⟨k, hk, rfl, HJ, hbl3, hbl⟩ := hrel
          by_cases hlt2 : k < i
          · have g1 : wr.cell? ⟨b1, o1 + i, none⟩ = some (.int .i64 (nth q i)) := (hbl3.cell (by exact hb1)).trans hgi
            have g2 : wr.cell? ⟨b1, o1 + k, none⟩ = some (.int .i64 (nth q k)) := (hbl3.cell (by exact hb1)).trans (Hc1.out k (by omega))
            by_cases he : nth q i = nth q k
            · have heb : (nth q i == nth q k) = true := by simp [he]
              obtain ⟨ys, hM, hY⟩ := HJ.out
              have HM2 := Lib.hid ((hM.step' (a := k) (b := i) (by omega) (by omega)).congr fun a b _ _ => joinQ_yes he a b)
              have HY := Lib.hid hY
              have Hyl := Lib.hid hM.1
              clear hM hY HJ he
              go_wp2
              go_quiet (fail)
              obtain ⟨wx, hwx⟩ : ∃ wx : World, wx = wr.drewN nq := ⟨_, rfl⟩
              have HY2 : Hid (InI wx lo h3 (.slice al n cl) ys) := by
                rw [hwx]
                exact Lib.hid (HY.out.below (B := h3) ⟨rfl, rfl, rfl, Nat.le_refl _, fun _ _ => rfl⟩ (Nat.le_refl _))
              have hb3' : Below lo w3 wx := by rw [hwx]; exact hbl3.trans ⟨rfl, rfl, rfl, Nat.le_refl _, fun _ _ => rfl⟩
              have hb' : Below w.heap.size w wx := by rw [hwx]; exact hbl.trans ⟨rfl, rfl, rfl, Nat.le_refl _, fun _ _ => rfl⟩
              rw [← hwx]
              clear hwx HY hbl3 hbl g1 g2
              go_wp2_with fail
              refine (l02Merge_any lo h3 _ ys k i _ (by have := Hyl.out; omega) (by have := Hyl.out; omega) (by have := Hyl.out; omega) HY2.out).mono ?_
              rintro e w5 ⟨rfl, hu, hm5⟩
              have HJ2 : Hid (∃ ys, Merged n (joinQ p q i (k + 1)) ys ∧ InI w5 lo h3 (.slice al n cl) ys) := Lib.hid ⟨_, HM2.out, hu⟩
              have hb3'' : Below lo w3 w5 := hb3'.trans (hm5.below (Nat.le_refl _) (Nat.le_trans hlo3 hb3'.size))
              have hb'' : Below w.heap.size w w5 := hb'.trans (hm5.below hlo1 hb'.size)
              clear hu hm5
              go_wp2
              go_roundw
              case rel => exact ⟨k + 1, by omega, by go_num, HJ2, hb3'', hb''⟩
              case measure => simp [intOf]; omega
            · have heb : (nth q i == nth q k) = false := by simp [he]
              have HJ2 : Hid (∃ ys, Merged n (joinQ p q i (k + 1)) ys ∧ InI wr lo h3 (.slice al n cl) ys) := by
                obtain ⟨ys, hM, hY⟩ := HJ.out
                exact Lib.hid ⟨ys, hM.congr fun a b _ _ => joinQ_no he a b, hY⟩
              clear he HJ
              go_wp2
              go_quiet (fail)
              go_wp2
              go_roundw
              case rel =>
                obtain ⟨ys, hM, hY⟩ := HJ2.out
                exact ⟨k + 1, by omega, by go_num, Lib.hid ⟨ys, hM, hY.below (B := h3) ⟨rfl, rfl, rfl, Nat.le_refl _, fun _ _ => rfl⟩ (Nat.le_refl _)⟩, hbl3.trans ⟨rfl, rfl, rfl, Nat.le_refl _, fun _ _ => rfl⟩, hbl.trans ⟨rfl, rfl, rfl, Nat.le_refl _, fun _ _ => rfl⟩⟩
              case measure => simp [intOf]; omega
          · obtain rfl : k = i := by omega
            have HI2 : Hid (∃ ys, Merged n (joinP p q (k + 1)) ys ∧ InI wr lo h3 (.slice al n cl) ys) := by
              obtain ⟨ys, hM, hY⟩ := HJ.out
              exact Lib.hid ⟨ys, hM.congr fun a b _ _ => joinQ_full p q k a b, hY⟩
            clear HJ
            go_wp2
            go_roundw
            case rel => exact ⟨k + 1, by omega, by go_num, HI2, hbl3, hbl⟩
            case measure => simp [intOf]; omega
      · obtain rfl : n = i := by omega
        obtain ⟨ys, hM, hY⟩ := HI.out
        have hfin := Lib.hid (Hsame.out ys hM)
        have HY := Lib.hid hY
        have hyl : ys.length = n := hM.1
        clear hM hY HI
        go_wp2_with fail
        refine (l02Norm_any _ ys _ (by omega) HY.out.rd).mono ?_
        rw [hfin.out]
        rintro e w5 ⟨u, rfl, hu, hb5⟩
        go_wp2_with fail
        go_ret2
        exact ⟨_, rfl, hu.mono' hbl.size, below_trans' hbl hb5⟩
  · have H : Hid (joinOut p q = []) := Lib.hid (by simp [joinOut, hl])
    have Hc : Hid (partsCode p q = 2) := Lib.hid (by simp [partsCode, h1, h2, hl])
    have hcb : ((p.length : Int) != (q.length : Int)) = true := by simp; omega
    rw [H.out, Hc.out]
    clear h1 h2 rq
    go_enter Try.func48, Try.ntmps48
    go_wp2_with fail
    refine (l02Is_any _ p _ Rp.out).mono ?_
    rw [H1.out]
    rintro e w1 ⟨rfl, hb1⟩
    go_wp2_with fail
    refine (l02Is_any _ q _ (Rq.out.below hb1)).mono ?_
    rw [H2.out]
    rintro e w2 ⟨rfl, hb2⟩
    go_wp2_with fail
    go_ret2
    exact ⟨_, rfl, OwI_nil _ _, below_trans' hb1 hb2⟩
end Go.Proofs.Ythnlnnbhkpnkgaa
