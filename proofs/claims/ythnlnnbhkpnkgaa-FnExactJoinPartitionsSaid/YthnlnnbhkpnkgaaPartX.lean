/- Contracts: two partitions: refinement, the meet. -/
import Derived.Test.YthnlnnbhkpnkgaaProg
import Derived.Test.YthnlnnbhkpnkgaaMem
import Derived.Test.YthnlnnbhkpnkgaaMath
import Derived.Test.YthnlnnbhkpnkgaaBasics
import Derived.Test.YthnlnnbhkpnkgaaHelpI
import Derived.Test.YthnlnnbhkpnkgaaCmp
import Derived.Test.YthnlnnbhkpnkgaaPart
import Derived.Test.YthnlnnbhkpnkgaaMap
import Derived.Test.YthnlnnbhkpnkgaaPartW
import Derived.WalkKit
import Derived.BigQuiet
import Derived.BigRegion
import Derived.StillTailTactics
import Derived.Deep.QuietTactic
import Derived.Lib.Hide
import Derived.Outline
set_option linter.unusedVariables false
set_option linter.unusedSimpArgs false
namespace Go.Proofs.Ythnlnnbhkpnkgaa
open Go.RowKit

def partsCode (p q : List Int) : Int := if isPart p && isPart q then (if p.length = q.length then 0 else 2) else 1
theorem partitionsCode_any (vp vq : Value) (p q : List Int) (w : World) (hp : p.length ≤ 1048576) (hq : q.length ≤ 1048576) (p64 : ∀ x ∈ p, -9223372036854775808 ≤ x ∧ x ≤ 9223372036854775807) (q64 : ∀ x ∈ q, -9223372036854775808 ≤ x ∧ x ≤ 9223372036854775807) (rp : RdI w vp p) (rq : RdI w vq q) :
    Calls Try.prog 60 #[vp, vq] w fun e w' => e = .returned (.int .i64 (partsCode p q)) ∧ Below w.heap.size w w' := by
  have Rp := Lib.hid rp
  have Rq := Lib.hid rq
  obtain ⟨ap, cp, rfl⟩ := rp.slice
  obtain ⟨aq, cq, rfl⟩ := rq.slice
  have P64 := Lib.hid p64
  have Q64 := Lib.hid q64
  clear rp rq p64 q64
  cases h1 : isPart p with
  | false =>
    have H : Hid (partsCode p q = 1) := Lib.hid (by simp [partsCode, h1])
    go_enter Try.func60, Try.ntmps60
    go_wp2_with fail
    refine (IsPartition_any _ p _ hp P64.out Rp.out).mono ?_
    rw [h1]
    rintro e w1 ⟨rfl, hb1⟩
    go_wp2_with fail
    go_ret
    exact ⟨by rw [H.out]; rfl, hb1⟩
  | true =>
    cases h2 : isPart q with
    | false =>
      have H : Hid (partsCode p q = 1) := Lib.hid (by simp [partsCode, h2])
      go_enter Try.func60, Try.ntmps60
      go_wp2_with fail
      refine (IsPartition_any _ p _ hp P64.out Rp.out).mono ?_
      rw [h1]
      rintro e w1 ⟨rfl, hb1⟩
      go_wp2_with fail
      refine (IsPartition_any _ q _ hq Q64.out (Rq.out.below hb1)).mono ?_
      rw [h2]
      rintro e w2 ⟨rfl, hb2⟩
      go_wp2_with fail
      go_ret
      exact ⟨by rw [H.out]; rfl, below_trans' hb1 hb2⟩
    | true =>
      by_cases hl : p.length = q.length
      · have H : Hid (partsCode p q = 0) := Lib.hid (by simp [partsCode, h1, h2, hl])
        have hlb : ((p.length : Int) != (q.length : Int)) = false := by simp; omega
        have Hl := Lib.hid hl; clear hl
        go_enter Try.func60, Try.ntmps60
        go_wp2_with fail
        refine (IsPartition_any _ p _ hp P64.out Rp.out).mono ?_
        rw [h1]
        rintro e w1 ⟨rfl, hb1⟩
        go_wp2_with fail
        refine (IsPartition_any _ q _ hq Q64.out (Rq.out.below hb1)).mono ?_
        rw [h2]
        rintro e w2 ⟨rfl, hb2⟩
        go_wp2_with fail
        go_ret
        exact ⟨by rw [H.out]; rfl, below_trans' hb1 hb2⟩
      · have H : Hid (partsCode p q = 2) := Lib.hid (by simp [partsCode, h1, h2, hl])
        have hlb : ((p.length : Int) != (q.length : Int)) = true := by simp; omega
        have Hl := Lib.hid hl; clear hl
        go_enter Try.func60, Try.ntmps60
        go_wp2_with fail
        refine (IsPartition_any _ p _ hp P64.out Rp.out).mono ?_
        rw [h1]
        rintro e w1 ⟨rfl, hb1⟩
        go_wp2_with fail
        refine (IsPartition_any _ q _ hq Q64.out (Rq.out.below hb1)).mono ?_
        rw [h2]
        rintro e w2 ⟨rfl, hb2⟩
        go_wp2_with fail
        go_ret
        exact ⟨by rw [H.out]; rfl, below_trans' hb1 hb2⟩
set_option maxHeartbeats 800000 in
theorem meet_any (vp vq : Value) (p q : List Int) (w : World) (hp : p.length ≤ 40) (hl : p.length = q.length) (p0 : ∀ i, i < p.length → 0 ≤ nth p i ∧ nth p i ≤ 40) (q0 : ∀ i, i < p.length → 0 ≤ nth q i ∧ nth q i ≤ 40) (rp : RdI w vp p) (rq : RdI w vq q) :
    Calls Try.prog 75 #[vp, vq] w fun e w' => ∃ u, e = .returned u ∧ OwI w' w.heap.size u (nrm (mixL p.length p q)) ∧ Below w.heap.size w w' := by
  obtain ⟨a, cap, rfl, hcap, hma, rp⟩ := rp
  obtain ⟨b, capb, rfl, hcapb, hmb, rq⟩ := rq
  unfold maxLen at hma hmb
  obtain ⟨i0, hi, hz0, hz1, hz2⟩ := info_parts infoI64
  obtain ⟨n, hxn⟩ : ∃ n, n = p.length := ⟨_, rfl⟩
  have hyn : n = q.length := by omega
  rw [← hxn] at hcap rp hp p0 q0 ⊢
  rw [← hyn] at hcapb rq ⊢
  have Hxn := Lib.hid hxn; clear hxn
  have Hyn := Lib.hid hyn; clear hyn hl
  have P0 := Lib.hid p0
  have Q0 := Lib.hid q0
  clear p0 q0
  go_enter Try.func75, Try.ntmps75
  go_wp2_with (at_make; refine wpList_make_full _ rfl _ _ 27 rfl w.heap.size 2 i0 (.int .i64 0) 1 Try.underlying27 hi hz0 hz1 _ _ _ _ n rfl rfl rfl rfl ?b2 ?b3 (Nat.le_refl _) ?_)
  case b2 => rw [hz2]; omega
  case b3 => unfold maxLen; omega
  intro w0 hown0 hgrow0
  rw [toList_madeCells_one] at hown0
  go_wp2
  rw [← fillRow_zero (ic (mixL n p q))] at hown0
  go_loopw [12] (fun si wr => ∃ k : Nat, k ≤ n ∧ si = .int .i64 k ∧ wr.ownsRow w.heap.size 2 1 (.slice (some ⟨w.heap.size, 0, none⟩) n n) n (fillRow (ic (mixL n p q)) n k (.int .i64 0)) ∧ Below w.heap.size w wr)
    (fun si _ => n - (intOf si).toNat)
  case atStart => exact ⟨0, Nat.zero_le _, rfl, hown0, (Below.refl _ _).grown hgrow0 (Nat.le_refl _) (fun k h => by cases h)⟩
  case round =>
    obtain ⟨k, hk, rfl, hown, hbl⟩ := hrel
    by_cases hlt : k < n
    · obtain ⟨b1, o1, rfl, hb1, hc1⟩ := rp (by omega)
      obtain ⟨b2, o2, rfl, hb2, hc2⟩ := rq (by omega)
      have g1 : wr.cell? ⟨b1, o1 + k, none⟩ = some (.int .i64 (nth p k)) := (hbl.cell (by exact hb1)).trans (hc1 k (by omega))
      have g2 : wr.cell? ⟨b2, o2 + k, none⟩ = some (.int .i64 (nth q k)) := (hbl.cell (by exact hb2)).trans (hc2 k (by omega))
      have hold := (hown.cellAt k (by omega)).trans (fillRow_get (ic (mixL n p q)) n k (.int .i64 0) hlt)
      have hfz := hown.frozenAt k
      have hp0 := (P0.out k hlt).1
      have hp1 := (P0.out k hlt).2
      have hq0 := (Q0.out k hlt).1
      have hq1 := (Q0.out k hlt).2
      have hm0 : 0 ≤ nth p k * (n : Int) := Int.mul_nonneg hp0 (by omega)
      have hm1 : nth p k * (n : Int) ≤ 1600 := Int.le_trans (Int.mul_le_mul hp1 (show (n : Int) ≤ 40 by omega) (by omega) (by omega)) (by omega)
      have e : ic (mixL n p q) k = .int .i64 (nth p k * n + nth q k) := by unfold ic; rw [nth_mixL _ _ _ _ (by have := Hxn.out; omega)]; rfl
      have hs1 := (hown.stored k (ic (mixL n p q) k)).1
      rw [fillRow_set _ _ _ _ hlt, e] at hs1
      have hs2 : Below w.heap.size w (wr.setCell ⟨w.heap.size, k, none⟩ (.int .i64 (nth p k * n + nth q k))) := hbl.setCell (Nat.le_refl _) _
      clear hc1 hc2 e
      go_wp2
      go_region
      all_goals go_wp2
      go_roundw
      case rel => exact ⟨k + 1, by omega, by go_num, hs1, hs2.trans ⟨rfl, rfl, rfl, Nat.le_refl _, fun _ _ => rfl⟩⟩
      case measure => simp [intOf]; omega
    · obtain rfl : k = n := by omega
      have hr : OwI wr w.heap.size (.slice (some ⟨w.heap.size, 0, none⟩) k k) (mixL k p q) := by
        unfold OwI
        rw [mixL_length, ← Hxn.out]
        exact ownsRow_ow hown _ fun i hi => fillRow_full _ _ _ _ (by omega)
      have H64 : Hid (∀ x ∈ mixL k p q, -9223372036854775808 ≤ x ∧ x ≤ 9223372036854775807) := by
        refine Lib.hid fun x hx => ?_
        obtain ⟨i, hi, rfl⟩ := List.mem_map.1 hx
        have hi' : i < k := by have := Hxn.out; simp at hi; omega
        have h1 := P0.out i hi'
        have h2 := Q0.out i hi'
        have h3 : 0 ≤ nth p i * (k : Int) := Int.mul_nonneg h1.1 (by omega)
        have h4 : nth p i * (k : Int) ≤ 1600 := Int.le_trans (Int.mul_le_mul h1.2 (show (k : Int) ≤ 40 by omega) (by omega) (by omega)) (by omega)
        unfold mix
        omega
      have Hr := Lib.hid hr
      clear hr
      go_wp2_with fail
      refine (normal_any _ (mixL k p q) _ (by rw [mixL_length, ← Hxn.out]; omega) H64.out Hr.out.rd).mono ?_
      rintro e w1 ⟨u, rfl, hu, hb1⟩
      go_wp2_with fail
      go_ret
      exact ⟨_, rfl, hu.mono' hbl.size, hbl.trans (hb1.mono hbl.size)⟩
set_option maxHeartbeats 800000 in
theorem l02Meet_any (vp vq : Value) (p q : List Int) (w : World) (hp : p.length ≤ 40) (hl : p.length = q.length) (p0 : ∀ i, i < p.length → 0 ≤ nth p i ∧ nth p i ≤ 40) (q0 : ∀ i, i < p.length → 0 ≤ nth q i ∧ nth q i ≤ 40) (rp : RdI w vp p) (rq : RdI w vq q) :
    Calls Try.prog 74 #[vp, vq] w fun e w' => ∃ u, e = .returned u ∧ OwI w' w.heap.size u (nrm (mixL 40 p q)) ∧ Below w.heap.size w w' := by
  obtain ⟨a, cap, rfl, hcap, hma, rp⟩ := rp
  obtain ⟨b, capb, rfl, hcapb, hmb, rq⟩ := rq
  unfold maxLen at hma hmb
  obtain ⟨i0, hi, hz0, hz1, hz2⟩ := info_parts infoI64
  obtain ⟨n, hxn⟩ : ∃ n, n = p.length := ⟨_, rfl⟩
  have hyn : n = q.length := by omega
  rw [← hxn] at hcap rp hp p0 q0
  rw [← hyn] at hcapb rq ⊢
  have Hxn := Lib.hid hxn
  rw [← hxn]; clear hxn
  have Hyn := Lib.hid hyn; clear hyn hl
  have P0 := Lib.hid p0
  have Q0 := Lib.hid q0
  clear p0 q0
  go_enter Try.func74, Try.ntmps74
  go_wp2_with (at_make; refine wpList_make_full _ rfl _ _ 27 rfl w.heap.size 2 i0 (.int .i64 0) 1 Try.underlying27 hi hz0 hz1 _ _ _ _ n rfl rfl rfl rfl ?b2 ?b3 (Nat.le_refl _) ?_)
  case b2 => rw [hz2]; omega
  case b3 => unfold maxLen; omega
  intro w0 hown0 hgrow0
  rw [toList_madeCells_one] at hown0
  go_wp2
  rw [← fillRow_zero (ic (mixL 40 p q))] at hown0
  go_loopw [6] (fun si wr => ∃ k : Nat, k ≤ n ∧ si = .int .i64 k ∧ wr.ownsRow w.heap.size 2 1 (.slice (some ⟨w.heap.size, 0, none⟩) n n) n (fillRow (ic (mixL 40 p q)) n k (.int .i64 0)) ∧ Below w.heap.size w wr)
    (fun si _ => n - (intOf si).toNat)
  case atStart => exact ⟨0, Nat.zero_le _, rfl, hown0, (Below.refl _ _).grown hgrow0 (Nat.le_refl _) (fun k h => by cases h)⟩
  case round =>
    obtain ⟨k, hk, rfl, hown, hbl⟩ := hrel
    by_cases hlt : k < n
    · obtain ⟨b1, o1, rfl, hb1, hc1⟩ := rp (by omega)
      obtain ⟨b2, o2, rfl, hb2, hc2⟩ := rq (by omega)
      have g1 : wr.cell? ⟨b1, o1 + k, none⟩ = some (.int .i64 (nth p k)) := (hbl.cell (by exact hb1)).trans (hc1 k (by omega))
      have g2 : wr.cell? ⟨b2, o2 + k, none⟩ = some (.int .i64 (nth q k)) := (hbl.cell (by exact hb2)).trans (hc2 k (by omega))
      have hold := (hown.cellAt k (by omega)).trans (fillRow_get (ic (mixL 40 p q)) n k (.int .i64 0) hlt)
      have hfz := hown.frozenAt k
      have hp0 := (P0.out k hlt).1
      have hp1 := (P0.out k hlt).2
      have hq0 := (Q0.out k hlt).1
      have hq1 := (Q0.out k hlt).2
      have e : ic (mixL 40 p q) k = .int .i64 (nth p k * 40 + nth q k) := by unfold ic; rw [nth_mixL _ _ _ _ (by have := Hxn.out; omega)]; rfl
      have hs1 := (hown.stored k (ic (mixL 40 p q) k)).1
      rw [fillRow_set _ _ _ _ hlt, e] at hs1
      have hs2 : Below w.heap.size w (wr.setCell ⟨w.heap.size, k, none⟩ (.int .i64 (nth p k * 40 + nth q k))) := hbl.setCell (Nat.le_refl _) _
      clear hc1 hc2 e
      go_wp2
      go_region
      all_goals go_wp2
      go_roundw
      case rel => exact ⟨k + 1, by omega, by go_num, hs1, hs2.trans ⟨rfl, rfl, rfl, Nat.le_refl _, fun _ _ => rfl⟩⟩
      case measure => simp [intOf]; omega
    · obtain rfl : k = n := by omega
      have hr : OwI wr w.heap.size (.slice (some ⟨w.heap.size, 0, none⟩) k k) (mixL 40 p q) := by
        unfold OwI
        rw [mixL_length, ← Hxn.out]
        exact ownsRow_ow hown _ fun i hi => fillRow_full _ _ _ _ (by omega)
      have Hr := Lib.hid hr
      clear hr
      go_wp2_with fail
      refine (l02Norm_any _ (mixL 40 p q) _ (by rw [mixL_length, ← Hxn.out]; omega) Hr.out.rd).mono ?_
      rintro e w1 ⟨u, rfl, hu, hb1⟩
      go_wp2_with fail
      go_ret
      exact ⟨_, rfl, hu.mono' hbl.size, hbl.trans (hb1.mono hbl.size)⟩
def meetOut (p q : List Int) : List Int := if isPart p && isPart q && decide (p.length = q.length) then nrm (mixL 40 p q) else []
theorem meetOut_length (p q : List Int) : (meetOut p q).length ≤ 1048576 := by
  unfold meetOut
  split
  · rename_i h
    simp only [Bool.and_eq_true] at h
    have := (isPart_iff.1 h.1.1).2.1
    rw [nrm_length, mixL_length]; omega
  · simp
theorem parts_bd {p q : List Int} (h1 : isPart p = true) (h2 : isPart q = true) (hl : p.length = q.length) : p.length ≤ 40 ∧ (∀ i, i < p.length → 0 ≤ nth p i ∧ nth p i ≤ 40) ∧ (∀ i, i < p.length → 0 ≤ nth q i ∧ nth q i ≤ 40) := by
  have := (isPart_iff.1 h1).2.1
  refine ⟨this, fun i hi => ?_, fun i hi => ?_⟩
  · have := part_bd h1 i hi; omega
  · have := part_bd h2 i (by omega); omega
set_option maxHeartbeats 800000 in
theorem MeetPartitions_any (vp vq : Value) (p q : List Int) (w : World) (hp : p.length ≤ 1048576) (hq : q.length ≤ 1048576) (p64 : ∀ x ∈ p, -9223372036854775808 ≤ x ∧ x ≤ 9223372036854775807) (q64 : ∀ x ∈ q, -9223372036854775808 ≤ x ∧ x ≤ 9223372036854775807) (rp : RdI w vp p) (rq : RdI w vq q) :
    Calls Try.prog 34 #[vp, vq] w fun e w' => ∃ u, e = .returned (.tuple #[u, .int .i64 (partsCode p q)]) ∧ OwI w' w.heap.size u (meetOut p q) ∧ Below w.heap.size w w' := by
  have Rp := Lib.hid rp
  have Rq := Lib.hid rq
  clear rp rq
  by_cases hc : partsCode p q = 0
  · have hh : isPart p = true ∧ isPart q = true ∧ p.length = q.length := by
      unfold partsCode at hc
      cases h1 : isPart p <;> cases h2 : isPart q <;> simp [h1, h2] at hc
      exact ⟨rfl, rfl, hc⟩
    obtain ⟨h1, h2, hl⟩ := hh
    have hm := mix_nrm (p := p) (q := q) (m := p.length) (m' := 40) fun i hi => by
      have := part_bd h2 i (by omega)
      have := (isPart_iff.1 h1).2.1
      omega
    have H : Hid (meetOut p q = nrm (mixL p.length p q)) := Lib.hid (by rw [hm]; simp [meetOut, h1, h2, hl])
    have hbd := Lib.hid (parts_bd h1 h2 hl)
    have Hl := Lib.hid hl
    have Hc := Lib.hid hc
    clear h1 h2 hl hm hc
    rw [Hc.out, H.out]
    go_enter Try.func34, Try.ntmps34
    go_wp2_with fail
    refine (partitionsCode_any _ _ p q _ hp hq p64 q64 Rp.out Rq.out).mono ?_
    rw [Hc.out]
    rintro e w1 ⟨rfl, hb1⟩
    go_wp2_with fail
    refine (meet_any _ _ p q _ hbd.out.1 Hl.out hbd.out.2.1 hbd.out.2.2 (Rp.out.below hb1) (Rq.out.below hb1)).mono ?_
    rintro e w2 ⟨u, rfl, hu, hb2⟩
    go_wp2_with fail
    go_ret2
    exact ⟨_, rfl, hu.mono' hb1.size, below_trans' hb1 hb2⟩
  · have H : Hid (meetOut p q = []) := Lib.hid (by
      unfold partsCode at hc
      unfold meetOut
      cases h1 : isPart p <;> cases h2 : isPart q <;> simp [h1, h2] at hc ⊢
      exact fun e => absurd e hc)
    have hcb : (partsCode p q != 0) = true := by simpa using hc
    rw [H.out]
    clear hc
    obtain ⟨c, hcc⟩ : ∃ c, c = partsCode p q := ⟨_, rfl⟩
    rw [← hcc] at hcb ⊢
    have Hcc := Lib.hid hcc; clear hcc
    go_enter Try.func34, Try.ntmps34
    go_wp2_with fail
    refine (partitionsCode_any _ _ p q _ hp hq p64 q64 Rp.out Rq.out).mono ?_
    rw [← Hcc.out]
    rintro e w1 ⟨rfl, hb1⟩
    go_wp2_with fail
    go_ret2
    exact ⟨_, rfl, OwI_nil _ _, hb1⟩
set_option maxHeartbeats 800000 in
theorem spec_MeetPartitions_any (vp vq : Value) (p q : List Int) (w : World) (hp : p.length ≤ 1048576) (hq : q.length ≤ 1048576) (rp : RdI w vp p) (rq : RdI w vq q) :
    Calls Try.prog 33 #[vp, vq] w fun e w' => ∃ u, e = .returned (.tuple #[u, .int .i64 (partsCode p q)]) ∧ OwI w' w.heap.size u (meetOut p q) ∧ Below w.heap.size w w' := by
  have Rp := Lib.hid rp
  have Rq := Lib.hid rq
  obtain ⟨ap, cp, rfl⟩ := rp.slice
  obtain ⟨aq, cq, rfl⟩ := rq.slice
  clear rp rq
  cases h1 : isPart p with
  | false =>
    have H : Hid (partsCode p q = 1 ∧ meetOut p q = []) := Lib.hid (by simp [partsCode, meetOut, h1])
    go_enter Try.func33, Try.ntmps33
    go_wp2_with fail
    refine (l02Is_any _ p _ Rp.out).mono ?_
    rw [h1]
    rintro e w1 ⟨rfl, hb1⟩
    go_wp2_with fail
    go_ret2
    rw [H.out.1, H.out.2]
    exact ⟨_, rfl, OwI_nil _ _, hb1⟩
  | true =>
    cases h2 : isPart q with
    | false =>
      have H : Hid (partsCode p q = 1 ∧ meetOut p q = []) := Lib.hid (by simp [partsCode, meetOut, h2])
      go_enter Try.func33, Try.ntmps33
      go_wp2_with fail
      refine (l02Is_any _ p _ Rp.out).mono ?_
      rw [h1]
      rintro e w1 ⟨rfl, hb1⟩
      go_wp2_with fail
      refine (l02Is_any _ q _ (Rq.out.below hb1)).mono ?_
      rw [h2]
      rintro e w2 ⟨rfl, hb2⟩
      go_wp2_with fail
      go_ret2
      rw [H.out.1, H.out.2]
      exact ⟨_, rfl, OwI_nil _ _, below_trans' hb1 hb2⟩
    | true =>
      by_cases hl : p.length = q.length
      · have H : Hid (partsCode p q = 0 ∧ meetOut p q = nrm (mixL 40 p q)) := Lib.hid (by simp [partsCode, meetOut, h1, h2, hl])
        have hlb : ((p.length : Int) != (q.length : Int)) = false := by simp; omega
        have Hl := Lib.hid hl; clear hl
        have hbd := Lib.hid (parts_bd h1 h2 Hl.out)
        go_enter Try.func33, Try.ntmps33
        go_wp2_with fail
        refine (l02Is_any _ p _ Rp.out).mono ?_
        rw [h1]
        rintro e w1 ⟨rfl, hb1⟩
        go_wp2_with fail
        refine (l02Is_any _ q _ (Rq.out.below hb1)).mono ?_
        rw [h2]
        rintro e w2 ⟨rfl, hb2⟩
        have B2 := below_trans' hb1 hb2
        go_wp2_with fail
        refine (l02Meet_any _ _ p q _ hbd.out.1 Hl.out hbd.out.2.1 hbd.out.2.2 (Rp.out.below B2) (Rq.out.below B2)).mono ?_
        rintro e w3 ⟨u, rfl, hu, hb3⟩
        go_wp2_with fail
        go_ret2
        rw [H.out.1, H.out.2]
        exact ⟨_, rfl, hu.mono' B2.size, below_trans' B2 hb3⟩
      · have H : Hid (partsCode p q = 2 ∧ meetOut p q = []) := Lib.hid (by simp [partsCode, meetOut, h1, h2, hl])
        have hlb : ((p.length : Int) != (q.length : Int)) = true := by simp; omega
        have Hl := Lib.hid hl; clear hl
        go_enter Try.func33, Try.ntmps33
        go_wp2_with fail
        refine (l02Is_any _ p _ Rp.out).mono ?_
        rw [h1]
        rintro e w1 ⟨rfl, hb1⟩
        go_wp2_with fail
        refine (l02Is_any _ q _ (Rq.out.below hb1)).mono ?_
        rw [h2]
        rintro e w2 ⟨rfl, hb2⟩
        go_wp2_with fail
        go_ret2
        rw [H.out.1, H.out.2]
        exact ⟨_, rfl, OwI_nil _ _, below_trans' hb1 hb2⟩
set_option maxHeartbeats 800000 in
theorem l02Refines_any (vp vq : Value) (p q : List Int) (w : World) (hp : p.length ≤ 1048576) (hl : p.length = q.length) (rp : RdI w vp p) (rq : RdI w vq q) :
    Calls Try.prog 59 #[vp, vq] w fun e w' => e = .returned (.bool (refM p q)) ∧ Below w.heap.size w w' := by
  obtain ⟨a, cap, rfl, hcap, hma, rp⟩ := rp
  obtain ⟨b, capb, rfl, hcapb, hmb, rq⟩ := rq
  unfold maxLen at hma hmb
  rw [← hl] at hcapb rq ⊢
  have Hl := Lib.hid hl; clear hl
  go_enter Try.func59, Try.ntmps59
  go_wp2
  go_loopw [5] (fun si wr => ∃ k : Nat, k ≤ p.length ∧ si = .int .i64 k ∧ Hid (∀ i, i < k → ∀ j, j < i → nth p i = nth p j → nth q i = nth q j) ∧ Below w.heap.size w wr) (fun si _ => p.length - (intOf si).toNat)
  case atStart => exact ⟨0, Nat.zero_le _, rfl, Lib.hid fun i h => absurd h (by omega), Below.refl _ _⟩
  case round =>
    obtain ⟨k, hk, rfl, hall, hbl⟩ := hrel
    by_cases hlt : k < p.length
    · obtain ⟨b1, o1, rfl, hb1, hc1⟩ := rp (by omega)
      obtain ⟨b2, o2, rfl, hb2, hc2⟩ := rq (by omega)
      obtain ⟨wo, hwo⟩ : ∃ wo : World, wo = wr := ⟨_, rfl⟩
      rw [← hwo] at hbl ⊢
      have Hwo := Lib.hid hwo; clear hwo
      go_wp2
      go_loopw [6] (fun sj wi => ∃ j : Nat, j ≤ k ∧ sj = .int .i64 j ∧ Hid (∀ i, i < j → nth p k = nth p i → nth q k = nth q i) ∧ Below w.heap.size w wi) (fun sj _ => k - (intOf sj).toNat)
      case atStart => exact ⟨0, Nat.zero_le _, rfl, Lib.hid fun i h => absurd h (by omega), hbl⟩
      case round =>
        clear hbl
        obtain ⟨j, hj, rfl, hin, hbl⟩ := hrel
        have g1 : wr.cell? ⟨b1, o1 + k, none⟩ = some (.int .i64 (nth p k)) := (hbl.cell (by exact hb1)).trans (hc1 k (by omega))
        have g2 : wr.cell? ⟨b2, o2 + k, none⟩ = some (.int .i64 (nth q k)) := (hbl.cell (by exact hb2)).trans (hc2 k (by omega))
        by_cases hjk : j < k
        · have g3 : wr.cell? ⟨b1, o1 + j, none⟩ = some (.int .i64 (nth p j)) := (hbl.cell (by exact hb1)).trans (hc1 j (by omega))
          have g4 : wr.cell? ⟨b2, o2 + j, none⟩ = some (.int .i64 (nth q j)) := (hbl.cell (by exact hb2)).trans (hc2 j (by omega))
          clear hc1 hc2
          by_cases h1 : nth p k = nth p j
          · have h1b : (nth p k == nth p j) = true := by simp [h1]
            by_cases h2 : nth q k = nth q j
            · have h2b : (nth q k != nth q j) = false := by simp [h2]
              have H : Hid (∀ i, i < j + 1 → nth p k = nth p i → nth q k = nth q i) := Lib.hid (next_all hin.out fun _ => h2)
              clear h1 h2
              go_wp2
              go_quiet (fail)
              go_wp2
              go_roundw
              case rel => exact ⟨j + 1, by omega, by go_num, H, below_drewN hbl _⟩
              case measure => simp [intOf]; omega
            · have h2b : (nth q k != nth q j) = true := by simp [h2]
              have H : Hid (refM p q = false) := Lib.hid (refM_bad hlt hjk h1 h2)
              clear h1 h2
              go_wp2
              go_quiet (fail)
              go_wp2
              go_ret
              exact ⟨by rw [H.out]; rfl, below_drewN hbl _⟩
          · have h1b : (nth p k == nth p j) = false := by simp [h1]
            have H : Hid (∀ i, i < j + 1 → nth p k = nth p i → nth q k = nth q i) := Lib.hid (next_all hin.out fun e => absurd e h1)
            clear h1
            go_wp2
            go_quiet (fail)
            go_wp2
            go_roundw
            case rel => exact ⟨j + 1, by omega, by go_num, H, below_drewN hbl _⟩
            case measure => simp [intOf]; omega
        · obtain rfl : j = k := by omega
          have H : Hid (∀ i, i < j + 1 → ∀ l, l < i → nth p i = nth p l → nth q i = nth q l) := Lib.hid (next_all hall.out hin.out)
          clear hc1 hc2
          go_wp2
          go_roundw
          case rel => exact ⟨j + 1, by omega, by go_num, H, hbl⟩
          case measure => simp [intOf]; omega
    · have H : Hid (refM p q = true) := Lib.hid (refM_good fun i hi => hall.out i (by omega))
      go_wp2
      go_ret
      exact ⟨by rw [H.out]; rfl, hbl⟩
set_option maxHeartbeats 800000 in
theorem refines_any (vp vq : Value) (p q : List Int) (w : World) (hp : p.length ≤ 1048576) (hl : p.length = q.length) (p64 : ∀ x ∈ p, -9223372036854775808 ≤ x ∧ x ≤ 9223372036854775807) (q64 : ∀ x ∈ q, -9223372036854775808 ≤ x ∧ x ≤ 9223372036854775807) (rp : RdI w vp p) (rq : RdI w vq q) :
    Calls Try.prog 61 #[vp, vq] w fun e w' => e = .returned (.bool (refM p q)) ∧ Below w.heap.size w w' := by
  obtain ⟨a, cap, rfl, hcap, hma, rp⟩ := rp
  obtain ⟨b, capb, rfl, hcapb, hmb, rq⟩ := rq
  unfold maxLen at hma hmb
  rw [← hl] at hcapb rq ⊢
  have Hl := Lib.hid hl; clear hl
  have P64 := Lib.hid p64
  have Q64 := Lib.hid q64
  clear p64 q64
  have hmm := @run_makeMap Try.prog
  go_enter Try.func61, Try.ntmps61
  go_wp2
  go_loopw [13] (fun si wr => ∃ k : Nat, k ≤ p.length ∧ si = .int .i64 k ∧ MapI wr w.heap.size k (fstv p (nth q) k) (nx p k) ∧ Hid (∀ i, i < k → ∀ j, j < i → nth p i = nth p j → nth q i = nth q j) ∧ Below w.heap.size w wr) (fun si _ => p.length - (intOf si).toNat)
  case atStart => exact ⟨0, Nat.zero_le _, rfl, MapI_made w, Lib.hid fun i h => absurd h (by omega), (Below.refl _ _).alloc (Nat.le_refl _) _⟩
  case round =>
    obtain ⟨k, hk, rfl, hmap, hall, hbl⟩ := hrel
    by_cases hlt : k < p.length
    · obtain ⟨b1, o1, rfl, hb1, hc1⟩ := rp (by omega)
      obtain ⟨b2, o2, rfl, hb2, hc2⟩ := rq (by omega)
      have g1 : wr.cell? ⟨b1, o1 + k, none⟩ = some (.int .i64 (nth p k)) := (hbl.cell (by exact hb1)).trans (hc1 k (by omega))
      have g2 : wr.cell? ⟨b2, o2 + k, none⟩ = some (.int .i64 (nth q k)) := (hbl.cell (by exact hb2)).trans (hc2 k (by omega))
      have hk64 : -9223372036854775808 ≤ nth p k ∧ nth p k ≤ 9223372036854775807 := by rw [nth_eq p k hlt]; exact P64.out _ (List.getElem_mem hlt)
      have hq64 : -9223372036854775808 ≤ nth q k ∧ nth q k ≤ 9223372036854775807 := by
        have hkl : k < q.length := by have := Hl.out; omega
        rw [nth_eq q k hkl]; exact Q64.out _ (List.getElem_mem hkl)
      clear hc1 hc2
      cases hs : (fstv p (nth q) k (nth p k)).isSome with
      | true =>
        obtain ⟨j, hj, hpj, hf⟩ := fstv_some hs
        by_cases h2 : nth q j = nth q k
        · have hput := fstv_put (p := p) (g := nth q) (i := k) fun v hv => by rw [hf] at hv; cases hv; exact h2
          have hnx := (nb_old hj hpj).2
          have Hall : Hid (∀ i, i < k + 1 → ∀ l, l < i → nth p i = nth p l → nth q i = nth q l) := Lib.hid (next_all hall.out fun l hl e => by
            have h3 : nth q l = nth q j := by
              rcases Nat.lt_trichotomy l j with h | h | h
              · exact ((hall.out j hj l h (by rw [hpj, e])).symm)
              · rw [h]
              · exact hall.out l hl j h (by rw [hpj, e])
            rw [h3, h2])
          have hbb : (nth q j != nth q k) = false := by simp [h2]
          have Hf := Lib.hid hf
          have Hput := Lib.hid hput
          have Hnx := Lib.hid hnx
          clear hf hput hnx hpj h2
          go_wp2_with (first
            | (at_lookup; refine wpList_mapI_look hmap rfl _ _ rfl rfl _ rfl hk64 ?_; intro c hc; obtain rfl := hc _ Hf.out; clear hc)
            | (at_mapUpdate; refine wpList_mapI_put hmap rfl _ _ _ rfl rfl (by unfold maxLen; omega) _ rfl hk64 _ rfl hq64 ?_; intro w1 hm1 hg1))
          rw [hs, if_pos rfl, Hput.out, ← Hnx.out] at hm1
          go_roundw
          case rel => exact ⟨k + 1, by omega, by go_num, hm1, Hall, hbl.trans (hg1.below (Nat.le_refl _) hbl.size)⟩
          case measure => simp [intOf]; omega
        · have hbb : (nth q j != nth q k) = true := by simp [h2]
          have H : Hid (refM p q = false) := Lib.hid (refM_bad hlt hj hpj.symm fun e => h2 e.symm)
          have Hf := Lib.hid hf
          clear hf hpj h2
          go_wp2_with (at_lookup; refine wpList_mapI_look hmap rfl _ _ rfl rfl _ rfl hk64 ?_; intro c hc; obtain rfl := hc _ Hf.out; clear hc)
          go_ret
          exact ⟨by rw [H.out]; rfl, hbl⟩
      | false =>
        have hn := fstv_none hs
        have hput := fstv_put (p := p) (g := nth q) (i := k) fun v hv => by rw [hv] at hs; cases hs
        have hnx := (nb_new hn).2
        have Hall : Hid (∀ i, i < k + 1 → ∀ l, l < i → nth p i = nth p l → nth q i = nth q l) := Lib.hid (next_all hall.out fun l hl e => absurd e.symm (hn l hl))
        have Hput := Lib.hid hput
        have Hnx := Lib.hid hnx
        clear hput hnx hn
        go_wp2_with (first
          | (at_lookup; refine wpList_mapI_look hmap rfl _ _ rfl rfl _ rfl hk64 ?_; intro c hc; clear hc)
          | (at_mapUpdate; refine wpList_mapI_put hmap rfl _ _ _ rfl rfl (by unfold maxLen; omega) _ rfl hk64 _ rfl hq64 ?_; intro w1 hm1 hg1))
        rw [hs, if_neg (by simp), Hput.out, ← Hnx.out] at hm1
        go_roundw
        case rel => exact ⟨k + 1, by omega, by go_num, hm1, Hall, hbl.trans (hg1.below (Nat.le_refl _) hbl.size)⟩
        case measure => simp [intOf]; omega
    · have H : Hid (refM p q = true) := Lib.hid (refM_good fun i hi => hall.out i (by omega))
      go_wp2
      go_ret
      exact ⟨by rw [H.out]; rfl, hbl⟩
def refOut (p q : List Int) : Bool := isPart p && isPart q && decide (p.length = q.length) && refM p q
set_option maxHeartbeats 800000 in
theorem RefinesPartition_any (vp vq : Value) (p q : List Int) (w : World) (hp : p.length ≤ 1048576) (hq : q.length ≤ 1048576) (p64 : ∀ x ∈ p, -9223372036854775808 ≤ x ∧ x ≤ 9223372036854775807) (q64 : ∀ x ∈ q, -9223372036854775808 ≤ x ∧ x ≤ 9223372036854775807) (rp : RdI w vp p) (rq : RdI w vq q) :
    Calls Try.prog 21 #[vp, vq] w fun e w' => e = .returned (.tuple #[.bool (refOut p q), .int .i64 (partsCode p q)]) ∧ Below w.heap.size w w' := by
  have Rp := Lib.hid rp
  have Rq := Lib.hid rq
  clear rp rq
  by_cases hc : partsCode p q = 0
  · have hh : isPart p = true ∧ isPart q = true ∧ p.length = q.length := by
      unfold partsCode at hc
      cases h1 : isPart p <;> cases h2 : isPart q <;> simp [h1, h2] at hc
      exact ⟨rfl, rfl, hc⟩
    obtain ⟨h1, h2, hl⟩ := hh
    have H : Hid (refOut p q = refM p q) := Lib.hid (by simp [refOut, h1, h2, hl])
    have Hl := Lib.hid hl
    have Hc := Lib.hid hc
    clear h1 h2 hl hc
    rw [Hc.out, H.out]
    go_enter Try.func21, Try.ntmps21
    go_wp2_with fail
    refine (partitionsCode_any _ _ p q _ hp hq p64 q64 Rp.out Rq.out).mono ?_
    rw [Hc.out]
    rintro e w1 ⟨rfl, hb1⟩
    go_wp2_with fail
    refine (refines_any _ _ p q _ hp Hl.out p64 q64 (Rp.out.below hb1) (Rq.out.below hb1)).mono ?_
    rintro e w2 ⟨rfl, hb2⟩
    go_wp2_with fail
    go_ret2
    exact ⟨rfl, below_trans' hb1 hb2⟩
  · have H : Hid (refOut p q = false) := Lib.hid (by
      unfold partsCode at hc
      unfold refOut
      cases h1 : isPart p <;> cases h2 : isPart q <;> simp [h1, h2] at hc ⊢
      exact fun e => absurd e hc)
    have hcb : (partsCode p q != 0) = true := by simpa using hc
    rw [H.out]
    clear hc
    obtain ⟨c, hcc⟩ : ∃ c, c = partsCode p q := ⟨_, rfl⟩
    rw [← hcc] at hcb ⊢
    have Hcc := Lib.hid hcc; clear hcc
    go_enter Try.func21, Try.ntmps21
    go_wp2_with fail
    refine (partitionsCode_any _ _ p q _ hp hq p64 q64 Rp.out Rq.out).mono ?_
    rw [← Hcc.out]
    rintro e w1 ⟨rfl, hb1⟩
    go_wp2_with fail
    go_ret2
    exact ⟨rfl, hb1⟩
set_option maxHeartbeats 800000 in
theorem spec_RefinesPartition_any (vp vq : Value) (p q : List Int) (w : World) (hp : p.length ≤ 1048576) (hq : q.length ≤ 1048576) (rp : RdI w vp p) (rq : RdI w vq q) :
    Calls Try.prog 19 #[vp, vq] w fun e w' => e = .returned (.tuple #[.bool (refOut p q), .int .i64 (partsCode p q)]) ∧ Below w.heap.size w w' := by
  have Rp := Lib.hid rp
  have Rq := Lib.hid rq
  obtain ⟨ap, cp, rfl⟩ := rp.slice
  obtain ⟨aq, cq, rfl⟩ := rq.slice
  clear rp rq
  cases h1 : isPart p with
  | false =>
    have H : Hid (partsCode p q = 1 ∧ refOut p q = false) := Lib.hid (by simp [partsCode, refOut, h1])
    go_enter Try.func19, Try.ntmps19
    go_wp2_with fail
    refine (l02Is_any _ p _ Rp.out).mono ?_
    rw [h1]
    rintro e w1 ⟨rfl, hb1⟩
    go_wp2_with fail
    go_ret2
    exact ⟨by rw [H.out.1, H.out.2]; rfl, hb1⟩
  | true =>
    cases h2 : isPart q with
    | false =>
      have H : Hid (partsCode p q = 1 ∧ refOut p q = false) := Lib.hid (by simp [partsCode, refOut, h2])
      go_enter Try.func19, Try.ntmps19
      go_wp2_with fail
      refine (l02Is_any _ p _ Rp.out).mono ?_
      rw [h1]
      rintro e w1 ⟨rfl, hb1⟩
      go_wp2_with fail
      refine (l02Is_any _ q _ (Rq.out.below hb1)).mono ?_
      rw [h2]
      rintro e w2 ⟨rfl, hb2⟩
      go_wp2_with fail
      go_ret2
      exact ⟨by rw [H.out.1, H.out.2]; rfl, below_trans' hb1 hb2⟩
    | true =>
      by_cases hl : p.length = q.length
      · have H : Hid (partsCode p q = 0 ∧ refOut p q = refM p q) := Lib.hid (by simp [partsCode, refOut, h1, h2, hl])
        have hlb : ((p.length : Int) != (q.length : Int)) = false := by simp; omega
        have Hl := Lib.hid hl; clear hl
        have hbd := Lib.hid (parts_bd h1 h2 Hl.out)
        go_enter Try.func19, Try.ntmps19
        go_wp2_with fail
        refine (l02Is_any _ p _ Rp.out).mono ?_
        rw [h1]
        rintro e w1 ⟨rfl, hb1⟩
        go_wp2_with fail
        refine (l02Is_any _ q _ (Rq.out.below hb1)).mono ?_
        rw [h2]
        rintro e w2 ⟨rfl, hb2⟩
        have B2 := below_trans' hb1 hb2
        go_wp2_with fail
        refine (l02Refines_any _ _ p q _ (by have := hbd.out.1; omega) Hl.out (Rp.out.below B2) (Rq.out.below B2)).mono ?_
        rintro e w3 ⟨rfl, hb3⟩
        go_wp2_with fail
        go_ret2
        exact ⟨by rw [H.out.1, H.out.2]; rfl, below_trans' B2 hb3⟩
      · have H : Hid (partsCode p q = 2 ∧ refOut p q = false) := Lib.hid (by simp [partsCode, refOut, h1, h2, hl])
        have hlb : ((p.length : Int) != (q.length : Int)) = true := by simp; omega
        have Hl := Lib.hid hl; clear hl
        go_enter Try.func19, Try.ntmps19
        go_wp2_with fail
        refine (l02Is_any _ p _ Rp.out).mono ?_
        rw [h1]
        rintro e w1 ⟨rfl, hb1⟩
        go_wp2_with fail
        refine (l02Is_any _ q _ (Rq.out.below hb1)).mono ?_
        rw [h2]
        rintro e w2 ⟨rfl, hb2⟩
        go_wp2_with fail
        go_ret2
        exact ⟨by rw [H.out.1, H.out.2]; rfl, below_trans' hb1 hb2⟩
end Go.Proofs.Ythnlnnbhkpnkgaa
