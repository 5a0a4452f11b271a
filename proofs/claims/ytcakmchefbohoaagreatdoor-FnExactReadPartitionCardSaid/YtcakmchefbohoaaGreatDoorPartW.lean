/- Contracts: partitions: the normal form and the test, of the program and of the reference. -/
import Derived.Test.YtcakmchefbohoaaGreatDoorProg
import Derived.Test.YtcakmchefbohoaaGreatDoorMem
import Derived.Test.YtcakmchefbohoaaGreatDoorMath
import Derived.Test.YtcakmchefbohoaaGreatDoorBasics
import Derived.Test.YtcakmchefbohoaaGreatDoorHelpI
import Derived.Test.YtcakmchefbohoaaGreatDoorCmp
import Derived.Test.YtcakmchefbohoaaGreatDoorPart
import Derived.Test.YtcakmchefbohoaaGreatDoorMap
import Derived.WalkKit
import Derived.BigQuiet
import Derived.Deep.QuietTactic
import Derived.Lib.Hide
import Derived.Outline
set_option linter.unusedVariables false
set_option linter.unusedSimpArgs false
namespace Go.Proofs.YtcakmchefbohoaaGreatDoor
open Go.RowKit

/-- What a draw leaves. -/
theorem below_drewN {B : Nat} {w wr : World} (h : Below B w wr) (n : Nat) : Below B w (wr.drewN n) := h.trans ⟨rfl, rfl, rfl, Nat.le_refl _, fun _ _ => rfl⟩
set_option maxHeartbeats 800000 in
theorem l02Norm_any (v : Value) (xs : List Int) (w : World) (hn : xs.length ≤ 1048576) (hv : RdI w v xs) :
    Calls Tryz.prog 94 #[v] w fun e w' => ∃ u, e = .returned u ∧ OwI w' w.heap.size u (nrm xs) ∧ Below w.heap.size w w' := by
  obtain ⟨a, cap, rfl, hcap, hm, hv⟩ := hv
  unfold maxLen at hm
  obtain ⟨i0, hi, hz0, hz1, hz2⟩ := info_parts infoI64
  obtain ⟨n, hxn⟩ : ∃ n, n = xs.length := ⟨_, rfl⟩
  rw [← hxn] at hcap hv hn
  have Hxn := Lib.hid hxn
  rw [← hxn]; clear hxn
  go_enter Tryz.func94, Tryz.ntmps94
  go_wp2_with (at_make; refine wpList_make_full _ rfl _ _ 47 rfl w.heap.size 2 i0 (.int .i64 0) 1 Tryz.underlying47 hi hz0 hz1 _ _ _ _ n rfl rfl rfl rfl ?b2 ?b3 (Nat.le_refl _) ?_)
  case b2 => rw [hz2]; omega
  case b3 => unfold maxLen; omega
  intro w0 hown0 hgrow0
  rw [toList_madeCells_one] at hown0
  go_wp2
  rw [← fillRow_zero (ic (nrm xs))] at hown0
  go_loopw [4, 5] (fun sn si wr => ∃ k : Nat, k ≤ n ∧ si = .int .i64 k ∧ sn = .int .i64 (nx xs k) ∧ wr.ownsRow w.heap.size 2 1 (.slice (some ⟨w.heap.size, 0, none⟩) n n) n (fillRow (ic (nrm xs)) n k (.int .i64 0)) ∧ Below w.heap.size w wr)
    (fun _ si _ => n - (intOf si).toNat)
  case atStart => exact ⟨0, Nat.zero_le _, rfl, rfl, hown0, (Below.refl _ _).grown hgrow0 (Nat.le_refl _) (fun k h => by cases h)⟩
  case round =>
    obtain ⟨k, hk, rfl, rfl, hown, hbl⟩ := hrel
    have hnk := nx_le xs k
    by_cases hlt : k < n
    · obtain ⟨b, o, rfl, hb, hc⟩ := hv (by omega)
      have hg : wr.cell? ⟨b, o + k, none⟩ = some (.int .i64 (nth xs k)) := (hbl.cell (by exact hb)).trans (hc k (by omega))
      obtain ⟨q, hq⟩ : ∃ q : Nat, q = nx xs k := ⟨_, rfl⟩
      rw [← hq] at hnk ⊢
      have Hq := Lib.hid hq; clear hq
      obtain ⟨wo, hwo⟩ : ∃ wo : World, wo = wr := ⟨_, rfl⟩
      rw [← hwo] at hown hbl hg ⊢
      have Hwo := Lib.hid hwo; clear hwo
      have hold := (hown.cellAt k (by omega)).trans (fillRow_get (ic (nrm xs)) n k (.int .i64 0) hlt)
      have hfz := hown.frozenAt k
      go_wp2
      go_loopw [6, 7] (fun sa sj wi => ∃ j : Nat, j ≤ k ∧ sj = .int .i64 j ∧ sa = .int .i64 (-1) ∧ Hid (∀ i, i < j → nth xs i ≠ nth xs k) ∧ ∃ m, wi = wo.drewN m) (fun _ sj _ => k - (intOf sj).toNat)
      case atStart => exact ⟨0, Nat.zero_le _, rfl, rfl, Lib.hid fun i h => absurd h (by omega), 0, rfl⟩
      case round =>
        obtain ⟨j, hj, rfl, rfl, hne, m, rfl⟩ := hrel
        by_cases hjk : j < k
        · have hg2 : wo.cell? ⟨b, o + j, none⟩ = some (.int .i64 (nth xs j)) := (hbl.cell (by exact hb)).trans (hc j (by omega))
          by_cases he : nth xs j = nth xs k
          · have heb : (nth xs j == nth xs k) = true := by simp [he]
            have ho := nb_old hjk he
            have hoj : wo.cell? ⟨w.heap.size, j, none⟩ = some (ic (nrm xs) j) := by
              rw [hown.cellAt j (by omega)]
              unfold fillRow
              rw [List.getElem?_append_left (by simpa using hjk)]
              simp [hjk]
            have hj2 : ic (nrm xs) j = ic (nrm xs) k := by
              unfold ic
              rw [nth_nrm xs j (by have := Hxn.out; omega), nth_nrm xs k (by have := Hxn.out; omega), ho.1]
            rw [hj2] at hoj
            have H2 : Hid (nx xs (k + 1) = q) := Lib.hid (by rw [ho.2, Hq.out])
            have hs1 := (hown.stored k (ic (nrm xs) k)).1
            rw [fillRow_set _ _ _ _ hlt] at hs1
            have hs2 : Below w.heap.size w (wo.setCell ⟨w.heap.size, k, none⟩ (ic (nrm xs) k)) := hbl.setCell (Nat.le_refl _) _
            unfold ic at hoj hs1 hs2
            clear hc he ho hj2
            go_wp2
            go_quiet (fail)
            go_wp2
            go_roundw
            case rel => exact ⟨k + 1, by omega, by go_num, by rw [H2.out], hs1, hs2.trans ⟨rfl, rfl, rfl, Nat.le_refl _, fun _ _ => rfl⟩⟩
            case measure => simp [intOf]; omega
          · have heb : (nth xs j == nth xs k) = false := by simp [he]
            have H2 : Hid (∀ i, i < j + 1 → nth xs i ≠ nth xs k) := Lib.hid (next_all hne.out he)
            clear hc he
            go_wp2
            go_quiet (fail)
            go_wp2
            go_roundw
            case rel => exact ⟨j + 1, by omega, by go_num, rfl, H2, _, rfl⟩
            case measure => simp [intOf]; omega
        · obtain rfl : j = k := by omega
          have ho := nb_new hne.out
          have H2 : Hid (nx xs (j + 1) = q + 1) := Lib.hid (by rw [ho.2, Hq.out])
          have hs1 := (hown.stored j (ic (nrm xs) j)).1
          rw [fillRow_set _ _ _ _ hlt] at hs1
          have hs2 : Below w.heap.size w (wo.setCell ⟨w.heap.size, j, none⟩ (ic (nrm xs) j)) := hbl.setCell (Nat.le_refl _) _
          rw [show ic (nrm xs) j = .int .i64 (q : Int) by unfold ic; rw [nth_nrm xs j (by have := Hxn.out; omega), ho.1, Hq.out]] at hs1 hs2
          clear hc ho
          go_wp2
          go_roundw
          case rel => exact ⟨j + 1, by omega, by go_num, by rw [H2.out]; go_num, hs1, hs2.trans ⟨rfl, rfl, rfl, Nat.le_refl _, fun _ _ => rfl⟩⟩
          case measure => simp [intOf]; omega
    · go_wp2
      go_ret
      obtain rfl : k = n := by omega
      refine ⟨_, rfl, ?_, hbl⟩
      have e := Hxn.out
      subst e
      unfold OwI
      rw [nrm_length]
      exact ownsRow_ow hown _ fun i hi => fillRow_full _ _ _ _ (by omega)
theorem itemsOk_any (n : Int) (w : World) : Calls Tryz.prog 103 #[.int .i64 n] w fun e w' => e = .returned (.bool (inR n 1 40)) ∧ w = w' := by
  go_enter Tryz.func103, Tryz.ntmps103
  go_wp2_with (go_at_call 78; refine (within_any _ _ _ _).mono ?_; rintro e w' ⟨rfl, rfl⟩)
  go_ret
  exact ⟨rfl, rfl⟩
/-- What the map holds after i items. -/
def seen (xs : List Int) (i : Nat) (x : Int) : Option Int := ((List.range i).find? fun k => nth xs k == x).map fun k => (nb xs k : Int)
theorem seen_none {xs : List Int} {i : Nat} (h : (seen xs i (nth xs i)).isSome = false) : ∀ j, j < i → nth xs j ≠ nth xs i := by
  unfold seen at h
  rcases find_range (fun k => nth xs k == nth xs i) i with ⟨k, h1, _⟩ | ⟨_, h2⟩
  · rw [h1] at h; cases h
  · exact fun j hj => by simpa using h2 j hj
theorem seen_some {xs : List Int} {i : Nat} (h : (seen xs i (nth xs i)).isSome = true) : seen xs i (nth xs i) = some (nb xs i : Int) ∧ nx xs (i + 1) = nx xs i := by
  unfold seen at h ⊢
  rcases find_range (fun k => nth xs k == nth xs i) i with ⟨k, h1, h2, h3, _⟩ | ⟨h1, _⟩
  · rw [h1]
    have ho := nb_old h2 (by simpa using h3)
    exact ⟨by simp [ho.1], ho.2⟩
  · rw [h1] at h; cases h
theorem seen_next_new {xs : List Int} {i : Nat} (h : (seen xs i (nth xs i)).isSome = false) : (fun z => if z = nth xs i then some (nx xs i : Int) else seen xs i z) = seen xs (i + 1) := by
  have hn := seen_none h
  have hb := (nb_new hn).1
  funext z
  unfold seen
  rw [List.range_succ, List.find?_append]
  by_cases e : z = nth xs i
  · subst e
    rcases find_range (fun k => nth xs k == nth xs i) i with ⟨k, _, h2, h3, _⟩ | ⟨h1, _⟩
    · exact absurd (by simpa using h3) (hn k h2)
    · simp [h1, hb]
  · simp only [e, if_false]
    cases hf : (List.range i).find? (fun k => nth xs k == z) with
    | none => simp [show nth xs i ≠ z from fun q => e q.symm]
    | some k => simp
theorem seen_next_old {xs : List Int} {i : Nat} (h : (seen xs i (nth xs i)).isSome = true) : seen xs i = seen xs (i + 1) := by
  funext z
  unfold seen at h ⊢
  rw [List.range_succ, List.find?_append]
  by_cases e : z = nth xs i
  · subst e
    rcases find_range (fun k => nth xs k == nth xs i) i with ⟨k, h1, _⟩ | ⟨h1, _⟩
    · rw [h1]; rfl
    · rw [h1] at h; cases h
  · cases hf : (List.range i).find? (fun k => nth xs k == z) with
    | none => simp [show nth xs i ≠ z from fun q => e q.symm]
    | some k => simp
set_option maxHeartbeats 800000 in
theorem normal_any (v : Value) (xs : List Int) (w : World) (hn : xs.length ≤ 1048576) (h64 : ∀ x ∈ xs, -9223372036854775808 ≤ x ∧ x ≤ 9223372036854775807) (hv : RdI w v xs) :
    Calls Tryz.prog 107 #[v] w fun e w' => ∃ u, e = .returned u ∧ OwI w' w.heap.size u (nrm xs) ∧ Below w.heap.size w w' := by
  obtain ⟨a, cap, rfl, hcap, hm, hv⟩ := hv
  unfold maxLen at hm
  obtain ⟨i0, hi, hz0, hz1, hz2⟩ := info_parts infoI64
  obtain ⟨n, hxn⟩ : ∃ n, n = xs.length := ⟨_, rfl⟩
  rw [← hxn] at hcap hv hn
  have Hxn := Lib.hid hxn; clear hxn
  have H64 := Lib.hid h64; clear h64
  rw [← Hxn.out]
  have hmm := @run_makeMap Tryz.prog
  go_enter Tryz.func107, Tryz.ntmps107
  go_wp2_with (at_make; refine wpList_make_full _ rfl _ _ 47 rfl (w.heap.size + 1) 2 i0 (.int .i64 0) 1 Tryz.underlying47 hi hz0 hz1 _ _ _ _ n rfl rfl rfl rfl ?b2 ?b3 ?b4 ?_)
  case b2 => rw [hz2]; omega
  case b3 => unfold maxLen; omega
  case b4 => simp
  intro w0 hown0 hgrow0
  rw [toList_madeCells_one] at hown0
  have hm0 : MapI w0 w.heap.size 0 (seen xs 0) (nx xs 0) := (MapI_made w).kept fun k hk e => hgrow0.block k hk (by simp)
  have hb0 : Below w.heap.size w w0 := ((Below.refl _ _).alloc (Nat.le_refl _) _).grown hgrow0 (by simp) (fun k h => by cases h)
  rw [← fillRow_zero (ic (nrm xs))] at hown0
  go_wp2
  go_loopw [15] (fun si wr => ∃ k : Nat, k ≤ n ∧ si = .int .i64 k ∧ MapI wr w.heap.size k (seen xs k) (nx xs k) ∧ wr.ownsRow (w.heap.size + 1) 2 1 (.slice (some ⟨w.heap.size + 1, 0, none⟩) n n) n (fillRow (ic (nrm xs)) n k (.int .i64 0)) ∧ Below w.heap.size w wr)
    (fun si _ => n - (intOf si).toNat)
  case atStart => exact ⟨0, Nat.zero_le _, rfl, hm0, by simpa using hown0, hb0⟩
  case round =>
    obtain ⟨k, hk, rfl, hmap, hown, hbl⟩ := hrel
    have hnk := nx_le xs k
    clear hm0 hb0 hown0 hgrow0
    by_cases hlt : k < n
    · obtain ⟨b, o, rfl, hb, hc⟩ := hv (by omega)
      have hg : wr.cell? ⟨b, o + k, none⟩ = some (.int .i64 (nth xs k)) := (hbl.cell (by exact hb)).trans (hc k (by omega))
      have hk64 : -9223372036854775808 ≤ nth xs k ∧ nth xs k ≤ 9223372036854775807 := by
        have hkl : k < xs.length := by have := Hxn.out; omega
        rw [nth_eq xs k hkl]; exact H64.out _ (List.getElem_mem hkl)
      clear hc
      cases hs : (seen xs k (nth xs k)).isSome with
      | true =>
        have hss := seen_some hs
        have hq : ic (nrm xs) k = .int .i64 (nb xs k : Int) := by unfold ic; rw [nth_nrm xs k (by have := Hxn.out; omega)]
        have hold := (hown.cellAt k (by omega)).trans (fillRow_get (ic (nrm xs)) n k (.int .i64 0) hlt)
        have hfz := hown.frozenAt k
        have hs1 := (hown.stored k (ic (nrm xs) k)).1
        rw [fillRow_set _ _ _ _ hlt, hq] at hs1
        have hs2 : Below w.heap.size w (wr.setCell ⟨w.heap.size + 1, k, none⟩ (.int .i64 (nb xs k : Int))) := hbl.setCell (Nat.le_succ _) _
        have Hm : Hid (MapI wr w.heap.size (k + 1) (seen xs (k + 1)) (nx xs (k + 1))) := by
          obtain ⟨D, m1, m2, m3⟩ := hmap
          rw [← seen_next_old hs, hss.2]
          exact Lib.hid ⟨D, m1.mono (Nat.le_succ _), m2, m3⟩
        have Hs := Lib.hid hss.1
        clear hss hq
        go_wp2_with (at_lookup; refine wpList_mapI_look hmap rfl _ _ rfl rfl _ rfl hk64 ?_; intro c hc; obtain rfl := hc _ Hs.out)
        go_roundw
        case rel => exact ⟨k + 1, by omega, by go_num, Hm.out.kept fun j hj e => Below.heap_setCell _ _ _ _ (by simp; omega), hs1, hs2⟩
        case measure => simp [intOf]; omega
      | false =>
        have hnn := nb_new (seen_none hs)
        have hq : ic (nrm xs) k = .int .i64 (nx xs k : Int) := by unfold ic; rw [nth_nrm xs k (by have := Hxn.out; omega), hnn.1]
        have Hn := Lib.hid hnn.2
        have Hq := Lib.hid hq
        clear hnn hq
        go_wp2_with (first
          | (at_lookup; refine wpList_mapI_look hmap rfl _ _ rfl rfl _ rfl hk64 ?_; intro c hc; clear hc)
          | (at_len; refine wpList_mapI_len hmap rfl _ rfl rfl ?_)
          | (at_mapUpdate; refine wpList_mapI_put hmap rfl _ _ _ rfl rfl (by unfold maxLen; omega) _ rfl hk64 _ rfl (by constructor <;> omega) ?_; intro w1 hm1 hg1; have hown1 := hown.kept hg1 (Or.inr (by simp [Value.ownBlock])); have hold := (hown1.cellAt k (by omega)).trans (fillRow_get (ic (nrm xs)) n k (.int .i64 0) hlt); have hfz := hown1.frozenAt k))
        have hs1 := (hown1.stored k (ic (nrm xs) k)).1
        rw [fillRow_set _ _ _ _ hlt, Hq.out] at hs1
        have hb1 : Below w.heap.size w w1 := hbl.trans (hg1.below (Nat.le_refl _) hbl.size)
        have hs2 : Below w.heap.size w (w1.setCell ⟨w.heap.size + 1, k, none⟩ (.int .i64 (nx xs k : Int))) := hb1.setCell (Nat.le_succ _) _
        rw [hs, if_neg (by simp), seen_next_new hs, ← Hn.out] at hm1
        go_roundw
        case rel => exact ⟨k + 1, by omega, by go_num, hm1.kept fun j hj e => Below.heap_setCell _ _ _ _ (by simp; omega), hs1, hs2⟩
        case measure => simp [intOf]; omega
    · go_wp2
      go_ret
      obtain rfl : k = n := by omega
      refine ⟨_, rfl, ?_, hbl⟩
      have e := Hxn.out
      subst e
      unfold OwI
      rw [nrm_length]
      exact (ownsRow_ow hown _ fun i hi => fillRow_full _ _ _ _ (by omega)).mono (Nat.le_succ _)
/-- The program's test. -/
theorem IsPartition_any (v : Value) (xs : List Int) (w : World) (hn : xs.length ≤ 1048576) (h64 : ∀ x ∈ xs, -9223372036854775808 ≤ x ∧ x ≤ 9223372036854775807) (hv : RdI w v xs) :
    Calls Tryz.prog 108 #[v] w fun e w' => e = .returned (.bool (isPart xs)) ∧ Below w.heap.size w w' := by
  have hv0 := hv
  obtain ⟨a, cap, rfl, hcap, hm, _⟩ := hv
  unfold maxLen at hm
  have Hv := Lib.hid hv0; clear hv0
  have H64 := Lib.hid h64; clear h64
  cases hr : inR (xs.length : Int) 1 40 with
  | false =>
    have h := inR_false hr
    have H : Hid (isPart xs = false) := Lib.hid (isPart_size (by omega))
    clear h
    go_enter Tryz.func108, Tryz.ntmps108
    go_wp2_with (go_at_call 103; refine (itemsOk_any _ _).mono ?_; rintro e w' ⟨rfl, rfl⟩)
    go_ret
    exact ⟨by rw [H.out]; rfl, Below.refl _ _⟩
  | true =>
    have h := inR_true hr
    have H : Hid (isPart xs = decide (xs = nrm xs)) := Lib.hid (by unfold isPart; rw [decide_eq_true (by omega)]; rfl)
    clear h
    go_enter Tryz.func108, Tryz.ntmps108
    go_wp2_with (first | (go_at_call 103; refine (itemsOk_any _ _).mono ?_; rintro e w' ⟨rfl, rfl⟩) | (go_at_call 107; refine (normal_any _ xs _ hn H64.out Hv.out).mono ?_; rintro e w1 ⟨u, rfl, hu, hb1⟩) | (go_at_call 140; refine (slicesEqualI_any _ _ xs (nrm xs) _ (by omega) (Hv.out.below hb1) hu.rd).mono ?_; rintro e w2 ⟨rfl, hb2⟩))
    go_ret
    exact ⟨by rw [H.out]; rfl, below_trans' hb1 hb2⟩
end Go.Proofs.YtcakmchefbohoaaGreatDoor
