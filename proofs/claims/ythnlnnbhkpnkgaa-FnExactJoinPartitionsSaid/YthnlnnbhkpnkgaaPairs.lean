/- Contracts: the pairs of a partition, of the program and of the reference. -/
import Derived.Test.YthnlnnbhkpnkgaaProg
import Derived.Test.YthnlnnbhkpnkgaaMem
import Derived.Test.YthnlnnbhkpnkgaaMath
import Derived.Test.YthnlnnbhkpnkgaaBasics
import Derived.Test.YthnlnnbhkpnkgaaHelpI
import Derived.Test.YthnlnnbhkpnkgaaHelpII
import Derived.Test.YthnlnnbhkpnkgaaGrid
import Derived.Test.YthnlnnbhkpnkgaaPart
import Derived.Test.YthnlnnbhkpnkgaaPartW
import Derived.WalkKit
import Derived.BigQuiet
import Derived.BigRegion
import Derived.Maps.AppendAt
import Derived.Deep.QuietTactic
import Derived.Lib.Hide
import Derived.Outline
set_option linter.unusedVariables false
set_option linter.unusedSimpArgs false
namespace Go.Proofs.Ythnlnnbhkpnkgaa
open Go.RowKit

/-- The pairs of item i with the d items behind it; the pairs of the first i items. -/
def prow (p : List Int) (i : Nat) : Nat → List (List Int)
  | 0 => []
  | d + 1 => prow p i d ++ (if nth p (i + 1 + d) = nth p i then [[(i : Int), ((i + 1 + d : Nat) : Int)]] else [])
def pall (p : List Int) : Nat → List (List Int)
  | 0 => []
  | i + 1 => pall p i ++ prow p i (p.length - (i + 1))
theorem prow_length (p : List Int) (i d : Nat) : (prow p i d).length ≤ d := by
  induction d with
  | zero => simp [prow]
  | succ d ih => rw [prow, List.length_append]; split <;> simp <;> omega
theorem pall_length (p : List Int) (i : Nat) : (pall p i).length ≤ i * p.length := by
  induction i with
  | zero => simp [pall]
  | succ i ih =>
    have := prow_length p i (p.length - (i + 1))
    rw [pall, List.length_append, Nat.succ_mul]; omega
def pairsL (p : List Int) : List (List Int) := pall p p.length
theorem prow_yes {p : List Int} {i d : Nat} (h : nth p (i + 1 + d) = nth p i) : prow p i (d + 1) = prow p i d ++ [[(i : Int), ((i + 1 + d : Nat) : Int)]] := by rw [prow, if_pos h]
theorem prow_no {p : List Int} {i d : Nat} (h : nth p (i + 1 + d) ≠ nth p i) : prow p i (d + 1) = prow p i d := by rw [prow, if_neg h, List.append_nil]
set_option maxHeartbeats 800000 in
theorem pairs_any (vp : Value) (p : List Int) (w : World) (hp : p.length ≤ 40) (rp : RdI w vp p) :
    Calls Try.prog 78 #[vp] w fun e w' => ∃ u, e = .returned u ∧ InII w' w.heap.size w'.heap.size u (pairsL p) ∧ Below w.heap.size w w' := by
  obtain ⟨a, cap, rfl, hcap, hm, rp⟩ := rp
  unfold maxLen at hm
  obtain ⟨i0, hi, hz0, hz1, hz2⟩ := info_parts infoIS'
  go_enter Try.func78, Try.ntmps78
  go_wp2
  go_loopw [3, 9] (fun so si wr => ∃ k : Nat, k ≤ p.length ∧ si = .int .i64 k ∧ OwG wr w.heap.size 27 so (pall p k) ∧ Below w.heap.size w wr) (fun _ si _ => p.length - (intOf si).toNat)
  case atStart => exact ⟨0, Nat.zero_le _, rfl, OwG_nil _ _ _, Below.refl _ _⟩
  case round =>
    obtain ⟨k, hk, rfl, hG, hbl⟩ := hrel
    obtain ⟨ao, co, rfl⟩ := hG.len
    by_cases hlt : k < p.length
    · obtain ⟨b1, o1, rfl, hb1, hc1⟩ := rp (by omega)
      have g1 : wr.cell? ⟨b1, o1 + k, none⟩ = some (.int .i64 (nth p k)) := (hbl.cell (by exact hb1)).trans (hc1 k (by omega))
      obtain ⟨q, hq⟩ : ∃ q, q = p.length - (k + 1) := ⟨_, rfl⟩
      obtain ⟨wo, hwo⟩ : ∃ wo : World, wo = wr := ⟨_, rfl⟩
      rw [← hwo] at hbl g1 hG ⊢
      have Hwo := Lib.hid hwo; clear hwo
      have Hq := Lib.hid hq; clear hq
      go_wp2
      go_loopw [3, 6] (fun so sj wi => ∃ d : Nat, d ≤ q ∧ sj = .int .i64 ((k + 1 + d : Nat) : Int) ∧ OwG wi w.heap.size 27 so (pall p k ++ prow p k d) ∧ Below w.heap.size w wi) (fun _ sj _ => p.length - (intOf sj).toNat)
      case atStart => exact ⟨0, Nat.zero_le _, by go_num, by simpa [prow] using hG, hbl⟩
      case round =>
        clear hbl hG g1
        obtain ⟨d, hd, rfl, hG, hbl⟩ := hrel
        obtain ⟨X, hX⟩ : ∃ X, X = pall p k ++ prow p k d := ⟨_, rfl⟩
        rw [← hX] at hG
        obtain ⟨ai, ci, rfl⟩ := hG.len
        obtain ⟨m, hm2⟩ : ∃ m, m = k + 1 + d := ⟨_, rfl⟩
        rw [← hm2]
        have Hm := Lib.hid hm2; clear hm2
        by_cases hlt2 : m < p.length
        · have hdq : d < q := by have := Hq.out; have := Hm.out; omega
          have g2 : wr.cell? ⟨b1, o1 + m, none⟩ = some (.int .i64 (nth p m)) := (hbl.cell (by exact hb1)).trans (hc1 _ (by omega))
          have hlen : X.length ≤ 3200 := by
            have h1 := pall_length p k
            have h2 := prow_length p k d
            have h3 : k * p.length ≤ 40 * 40 := Nat.mul_le_mul (by omega) (by omega)
            have := Hq.out
            rw [hX, List.length_append]; omega
          have HX := Lib.hid hX; clear hX
          obtain ⟨vs, hGv⟩ := hG
          have hown := hGv.own
          have HGv := Lib.hid hGv; clear hGv
          clear hc1
          by_cases he : nth p m = nth p k
          · have heb : (nth p m == nth p k) = true := by simp [he]
            have hpr := prow_yes (p := p) (i := k) (d := d) (by rw [← Hm.out]; exact he)
            rw [← Hm.out] at hpr
            have Hpr := Lib.hid hpr; clear hpr he
            go_wp2_with (at_builtin; refine wpList_append_own_at _ rfl _ _ 32 rfl w.heap.size 27 i0 (.slice none 0 0) 1 24 Try.underlying32 hi hz0 hz1 hz2 rfl (by decide) _ _ _ rfl ((hown.alloc _).alloc _) ⟨wr.heap.size + 1, 0, none⟩ 1 1 [.slice (some ⟨wr.heap.size, 0, none⟩) 2 2] rfl rfl ?c1 (oneCell_slice _ _ _) ?c2 ?c3 ?c4 ?_)
            case c1 => exact cell_one_new' _ _ _ _ (by simp)
            case c2 => unfold maxLen; omega
            case c3 => omega
            case c4 => simp; have := hbl.size; omega
            intro v' w1 hown' hgrow hnil hloc
            have hG2 := grid_pair HGv.out hbl.size hown' hgrow hloc
            have hb2 : Below w.heap.size w w1 := (((hbl.alloc hbl.size _).alloc (by simp; have := hbl.size; omega) _).grown hgrow (by simp; have := hbl.size; omega) (fun j hj => (hown.lt j hj).1))
            rw [HX.out, List.append_assoc, ← Hpr.out] at hG2
            clear hown hown' hgrow hnil hloc
            go_wp2
            go_roundw
            case rel => exact ⟨d + 1, by omega, by rw [show k + 1 + (d + 1) = m + 1 by have := Hm.out; omega]; go_num, hG2, hb2⟩
            case measure => simp [intOf]; omega
          · have heb : (nth p m == nth p k) = false := by simp [he]
            have hpr := prow_no (p := p) (i := k) (d := d) (by rw [← Hm.out]; exact he)
            have hG2 : OwG wr w.heap.size 27 (.slice ai X.length ci) (pall p k ++ prow p k (d + 1)) := by rw [hpr, ← HX.out]; exact ⟨vs, HGv.out⟩
            clear hpr he hown
            go_wp2
            go_roundw
            case rel => exact ⟨d + 1, by omega, by rw [show k + 1 + (d + 1) = m + 1 by have := Hm.out; omega]; go_num, hG2, hbl⟩
            case measure => simp [intOf]; omega
        · have hdq : d = q := by have := Hq.out; have := Hm.out; omega
          have hG2 : OwG wr w.heap.size 27 (.slice ai X.length ci) (pall p (k + 1)) := by rw [pall, ← Hq.out, ← hdq, ← hX]; exact hG
          have HX := Lib.hid hX
          clear hc1 hG hX hdq
          go_wp2
          go_roundw
          case rel => exact ⟨k + 1, by omega, by go_num, hG2, hbl⟩
          case measure => simp [intOf]; omega
    · go_wp2
      go_ret
      obtain rfl : k = p.length := by omega
      exact ⟨_, rfl, hG.inn hbl.size, hbl⟩
set_option maxHeartbeats 800000 in
theorem l02Pairs_any (vp : Value) (p : List Int) (w : World) (hp : p.length ≤ 40) (rp : RdI w vp p) :
    Calls Try.prog 76 #[vp] w fun e w' => ∃ u, e = .returned u ∧ InII w' w.heap.size w'.heap.size u (pairsL p) ∧ Below w.heap.size w w' := by
  obtain ⟨a, cap, rfl, hcap, hm, rp⟩ := rp
  unfold maxLen at hm
  obtain ⟨i0, hi, hz0, hz1, hz2⟩ := info_parts infoIS'
  go_enter Try.func76, Try.ntmps76
  go_wp2
  go_loopw [3, 4] (fun so si wr => ∃ k : Nat, k ≤ p.length ∧ si = .int .i64 k ∧ OwG wr w.heap.size 27 so (pall p k) ∧ Below w.heap.size w wr) (fun _ si _ => p.length - (intOf si).toNat)
  case atStart => exact ⟨0, Nat.zero_le _, rfl, OwG_made _ _ _ (Nat.le_refl _), (Below.refl _ _).alloc (Nat.le_refl _) _⟩
  case round =>
    obtain ⟨k, hk, rfl, hG, hbl⟩ := hrel
    obtain ⟨ao, co, rfl⟩ := hG.len
    by_cases hlt : k < p.length
    · obtain ⟨b1, o1, rfl, hb1, hc1⟩ := rp (by omega)
      have g1 : wr.cell? ⟨b1, o1 + k, none⟩ = some (.int .i64 (nth p k)) := (hbl.cell (by exact hb1)).trans (hc1 k (by omega))
      obtain ⟨q, hq⟩ : ∃ q, q = p.length - (k + 1) := ⟨_, rfl⟩
      obtain ⟨wo, hwo⟩ : ∃ wo : World, wo = wr := ⟨_, rfl⟩
      rw [← hwo] at hbl g1 hG ⊢
      have Hwo := Lib.hid hwo; clear hwo
      have Hq := Lib.hid hq; clear hq
      go_wp2
      go_loopw [3, 5] (fun so sj wi => ∃ d : Nat, d ≤ q ∧ sj = .int .i64 ((k + 1 + d : Nat) : Int) ∧ OwG wi w.heap.size 27 so (pall p k ++ prow p k d) ∧ Below w.heap.size w wi) (fun _ sj _ => p.length - (intOf sj).toNat)
      case atStart => exact ⟨0, Nat.zero_le _, by go_num, by simpa [prow] using hG, hbl⟩
      case round =>
        clear hbl hG g1
        obtain ⟨d, hd, rfl, hG, hbl⟩ := hrel
        obtain ⟨X, hX⟩ : ∃ X, X = pall p k ++ prow p k d := ⟨_, rfl⟩
        rw [← hX] at hG
        obtain ⟨ai, ci, rfl⟩ := hG.len
        obtain ⟨m, hm2⟩ : ∃ m, m = k + 1 + d := ⟨_, rfl⟩
        rw [← hm2]
        have Hm := Lib.hid hm2; clear hm2
        by_cases hlt2 : m < p.length
        · have hdq : d < q := by have := Hq.out; have := Hm.out; omega
          have g2 : wr.cell? ⟨b1, o1 + m, none⟩ = some (.int .i64 (nth p m)) := (hbl.cell (by exact hb1)).trans (hc1 _ (by omega))
          have g3 : wr.cell? ⟨b1, o1 + k, none⟩ = some (.int .i64 (nth p k)) := (hbl.cell (by exact hb1)).trans (hc1 _ (by omega))
          have hlen : X.length ≤ 3200 := by
            have h1 := pall_length p k
            have h2 := prow_length p k d
            have h3 : k * p.length ≤ 40 * 40 := Nat.mul_le_mul (by omega) (by omega)
            have := Hq.out
            rw [hX, List.length_append]; omega
          have HX := Lib.hid hX; clear hX
          obtain ⟨vs, hGv⟩ := hG
          have hown := hGv.own
          have HGv := Lib.hid hGv; clear hGv
          clear hc1
          by_cases he : nth p m = nth p k
          · have heb : (nth p k == nth p m) = true := by simp [he]
            have hpr := prow_yes (p := p) (i := k) (d := d) (by rw [← Hm.out]; exact he)
            rw [← Hm.out] at hpr
            have Hpr := Lib.hid hpr; clear hpr he
            go_wp2
            go_quiet (fail)
            obtain ⟨wn, hwn⟩ : ∃ wn : World, wn = wr.drewN nq := ⟨_, rfl⟩
            have hbn : Below w.heap.size w wn := by rw [hwn]; exact below_drewN hbl _
            have hGn : OwGv wn w.heap.size 27 (.slice ai X.length ci) X vs := by rw [hwn]; exact HGv.out
            have hownn := hGn.own
            have HGn := Lib.hid hGn; clear hGn
            rw [← hwn]
            clear hwn hown HGv hbl
            go_wp2_with (at_builtin; refine wpList_append_own_at _ rfl _ _ 32 rfl w.heap.size 27 i0 (.slice none 0 0) 1 24 Try.underlying32 hi hz0 hz1 hz2 rfl (by decide) _ _ _ rfl ((hownn.alloc _).alloc _) ⟨wn.heap.size + 1, 0, none⟩ 1 1 [.slice (some ⟨wn.heap.size, 0, none⟩) 2 2] rfl rfl ?c1 (oneCell_slice _ _ _) ?c2 ?c3 ?c4 ?_)
            case c1 => exact cell_one_new' _ _ _ _ (by simp)
            case c2 => unfold maxLen; omega
            case c3 => omega
            case c4 => simp; have := hbn.size; omega
            intro v' w1 hown' hgrow hnil hloc
            have hG2 := grid_pair HGn.out hbn.size hown' hgrow hloc
            have hb2 : Below w.heap.size w w1 := (((hbn.alloc hbn.size _).alloc (by simp; have := hbn.size; omega) _).grown hgrow (by simp; have := hbn.size; omega) (fun j hj => (hownn.lt j hj).1))
            rw [HX.out, List.append_assoc, ← Hpr.out] at hG2
            clear hownn hown' hgrow hnil hloc
            go_wp2
            go_roundw
            case rel => exact ⟨d + 1, by omega, by rw [show k + 1 + (d + 1) = m + 1 by have := Hm.out; omega]; go_num, hG2, hb2⟩
            case measure => simp [intOf]; omega
          · have heb : (nth p k == nth p m) = false := by simp; exact fun e => he e.symm
            have hpr := prow_no (p := p) (i := k) (d := d) (by rw [← Hm.out]; exact he)
            have hG2 : OwG wr w.heap.size 27 (.slice ai X.length ci) (pall p k ++ prow p k (d + 1)) := by rw [hpr, ← HX.out]; exact ⟨vs, HGv.out⟩
            clear hpr he hown
            go_wp2
            go_quiet (fail)
            go_wp2
            go_roundw
            case rel => exact ⟨d + 1, by omega, by rw [show k + 1 + (d + 1) = m + 1 by have := Hm.out; omega]; go_num, hG2.below ⟨rfl, rfl, rfl, Nat.le_refl _, fun _ _ => rfl⟩, below_drewN hbl _⟩
            case measure => simp [intOf]; omega
        · have hdq : d = q := by have := Hq.out; have := Hm.out; omega
          have hG2 : OwG wr w.heap.size 27 (.slice ai X.length ci) (pall p (k + 1)) := by rw [pall, ← Hq.out, ← hdq, ← hX]; exact hG
          have HX := Lib.hid hX
          clear hc1 hG hX hdq
          go_wp2
          go_roundw
          case rel => exact ⟨k + 1, by omega, by go_num, hG2, hbl⟩
          case measure => simp [intOf]; omega
    · go_wp2
      go_ret
      obtain rfl : k = p.length := by omega
      exact ⟨_, rfl, hG.inn hbl.size, hbl⟩
def pairsOut (p : List Int) : List (List Int) := if isPart p then pairsL p else []
def pairsCode (p : List Int) : Int := if isPart p then 0 else 1
theorem prow_row {p : List Int} {i d : Nat} : ∀ r ∈ prow p i d, r.length = 2 := by
  induction d with
  | zero => intro r hr; simp [prow] at hr
  | succ d ih =>
    intro r hr
    rw [prow, List.mem_append] at hr
    rcases hr with h | h
    · exact ih r h
    · split at h
      · simp at h; subst h; rfl
      · simp at h
theorem pall_row {p : List Int} {i : Nat} : ∀ r ∈ pall p i, r.length = 2 := by
  induction i with
  | zero => intro r hr; simp [pall] at hr
  | succ i ih =>
    intro r hr
    rw [pall, List.mem_append] at hr
    exact hr.elim (ih r) (prow_row r)
theorem total_two {xss : List (List Int)} (h : ∀ r ∈ xss, r.length ≤ 2) : total xss ≤ 2 * xss.length := by
  have : ∀ i, i ≤ xss.length → offs xss i ≤ 2 * i := by
    intro i
    induction i with
    | zero => intro _; exact Nat.le_refl _
    | succ i ih =>
      intro hi
      have h1 := ih (by omega)
      have h2 : (rnth xss i).length ≤ 2 := by rw [rnth_eq xss i (by omega)]; exact h _ (List.getElem_mem _)
      rw [offs]; omega
  exact this _ (Nat.le_refl _)
theorem pairsOut_size (p : List Int) : (pairsOut p).length ≤ 1600 ∧ total (pairsOut p) ≤ 3200 := by
  unfold pairsOut
  split
  · rename_i h
    have h1 := (isPart_iff.1 h).2.1
    have h2 := pall_length p p.length
    have h3 : p.length * p.length ≤ 40 * 40 := Nat.mul_le_mul h1 h1
    have h4 : total (pairsL p) ≤ 2 * (pairsL p).length := total_two fun r hr => Nat.le_of_eq (pall_row r hr)
    unfold pairsL at *
    omega
  · simp [total, offs]
theorem PairsOf_any (vp : Value) (p : List Int) (w : World) (hp : p.length ≤ 1048576) (p64 : ∀ x ∈ p, -9223372036854775808 ≤ x ∧ x ≤ 9223372036854775807) (rp : RdI w vp p) :
    Calls Try.prog 38 #[vp] w fun e w' => ∃ u, e = .returned (.tuple #[u, .int .i64 (pairsCode p)]) ∧ InII w' w.heap.size w'.heap.size u (pairsOut p) ∧ Below w.heap.size w w' := by
  have Rp := Lib.hid rp
  have P64 := Lib.hid p64
  clear rp p64
  cases h1 : isPart p with
  | false =>
    have H : Hid (pairsCode p = 1 ∧ pairsOut p = []) := Lib.hid (by simp [pairsCode, pairsOut, h1])
    rw [H.out.1, H.out.2]
    go_enter Try.func38, Try.ntmps38
    go_wp2_with fail
    refine (IsPartition_any _ p _ hp P64.out Rp.out).mono ?_
    rw [h1]
    rintro e w1 ⟨rfl, hb1⟩
    go_wp2_with fail
    go_ret2
    exact ⟨_, rfl, InII_nil _ _ _ hb1.size, hb1⟩
  | true =>
    have H : Hid (pairsCode p = 0 ∧ pairsOut p = pairsL p) := Lib.hid (by simp [pairsCode, pairsOut, h1])
    have h40 := (isPart_iff.1 h1).2.1
    rw [H.out.1, H.out.2]
    go_enter Try.func38, Try.ntmps38
    go_wp2_with fail
    refine (IsPartition_any _ p _ hp P64.out Rp.out).mono ?_
    rw [h1]
    rintro e w1 ⟨rfl, hb1⟩
    go_wp2_with fail
    refine (pairs_any _ p _ h40 (Rp.out.below hb1)).mono ?_
    rintro e w2 ⟨u, rfl, hu, hb2⟩
    go_wp2_with fail
    go_ret2
    exact ⟨_, rfl, hu.lower hb1.size, below_trans' hb1 hb2⟩
theorem spec_PairsOf_any (vp : Value) (p : List Int) (w : World) (rp : RdI w vp p) :
    Calls Try.prog 37 #[vp] w fun e w' => ∃ u, e = .returned (.tuple #[u, .int .i64 (pairsCode p)]) ∧ InII w' w.heap.size w'.heap.size u (pairsOut p) ∧ Below w.heap.size w w' := by
  have Rp := Lib.hid rp
  clear rp
  cases h1 : isPart p with
  | false =>
    have H : Hid (pairsCode p = 1 ∧ pairsOut p = []) := Lib.hid (by simp [pairsCode, pairsOut, h1])
    rw [H.out.1, H.out.2]
    go_enter Try.func37, Try.ntmps37
    go_wp2_with fail
    refine (l02Is_any _ p _ Rp.out).mono ?_
    rw [h1]
    rintro e w1 ⟨rfl, hb1⟩
    go_wp2_with fail
    go_ret2
    exact ⟨_, rfl, InII_nil _ _ _ hb1.size, hb1⟩
  | true =>
    have H : Hid (pairsCode p = 0 ∧ pairsOut p = pairsL p) := Lib.hid (by simp [pairsCode, pairsOut, h1])
    have h40 := (isPart_iff.1 h1).2.1
    rw [H.out.1, H.out.2]
    go_enter Try.func37, Try.ntmps37
    go_wp2_with fail
    refine (l02Is_any _ p _ Rp.out).mono ?_
    rw [h1]
    rintro e w1 ⟨rfl, hb1⟩
    go_wp2_with fail
    refine (l02Pairs_any _ p _ h40 (Rp.out.below hb1)).mono ?_
    rintro e w2 ⟨u, rfl, hu, hb2⟩
    go_wp2_with fail
    go_ret2
    exact ⟨_, rfl, hu.lower hb1.size, below_trans' hb1 hb2⟩
end Go.Proofs.Ythnlnnbhkpnkgaa
