/- The laws' own helpers over slices of slices of int64: szInt64SS, toInt64SS, eqInt64SS, markInt64SS, heldInt64SS. -/
import Derived.Test.YtapmnfmobigdkaaProg
import Derived.Test.YtapmnfmobigdkaaMem
import Derived.Test.YtapmnfmobigdkaaMath
import Derived.Test.YtapmnfmobigdkaaBasics
import Derived.Test.YtapmnfmobigdkaaHelpI
import Derived.Test.YtapmnfmobigdkaaGrid
import Derived.WalkKit
import Derived.BigQuiet
import Derived.BigRegion
import Derived.Deep.QuietTactic
import Derived.Lib.Hide
import Derived.Outline
set_option linter.unusedVariables false
set_option linter.unusedSimpArgs false
namespace Go.Proofs.Ytapmnfmobigdkaa
open Go.RowKit

theorem infoIS' : (Try.prog.info? 46).map (fun i => (i.zero, i.size, i.bytes)) = some (some (.slice none 0 0), 1, 24) := by kernel_rfl
theorem oneCell_slice (a : Option Addr) (n c : Nat) : ∀ u ∈ [Value.slice a n c], u.oneCell' = true := by
  intro u hu
  simp at hu; subst hu; rfl
theorem infoIS : (Try.prog.info? 46).map (fun i => (i.zero, i.size, i.bytes)) = some (some (.slice none 0 0), 1, 24) := by kernel_rfl
set_option maxHeartbeats 400000 in
theorem toInt64SS_any (v : Value) (xss : List (List Int)) (w : World) (hn : xss.length ≤ 1048576) (hr : ∀ i, i < xss.length → (rnth xss i).length ≤ 1048576) (hv : RdII w v xss) :
    Calls Try.prog 24 #[v] w fun e w' => ∃ u, e = .returned u ∧ InII w' w.heap.size w'.heap.size u xss ∧ Below w.heap.size w w' := by
  obtain ⟨vs, ⟨a, cap, rfl, hcap, hm, hv⟩, hrow⟩ := hv
  have Hrow := Lib.hid hrow
  have Hr := Lib.hid hr
  clear hrow hr
  obtain ⟨i0, hi, hz0, hz1, hz2⟩ := info_parts infoIS
  obtain ⟨n, hxn⟩ : ∃ n, n = xss.length := ⟨_, rfl⟩
  rw [← hxn] at hcap hv hn
  have Hxn := Lib.hid hxn
  rw [← hxn]; clear hxn
  go_enter Try.func24, Try.ntmps24
  go_wp2_with (at_make; refine wpList_make_full _ rfl _ _ 44 rfl w.heap.size 46 i0 (.slice none 0 0) 1 Try.underlying44 hi hz0 hz1 _ _ _ _ n rfl rfl rfl rfl ?b2 ?b3 (Nat.le_refl _) ?_)
  case b2 => rw [hz2]; omega
  case b3 => unfold maxLen; omega
  intro w0 hown0 hgrow0
  rw [toList_madeCells_one] at hown0
  go_wp2
  go_loopw [4] (fun si wr => ∃ k : Nat, k ≤ n ∧ si = .int .i64 k ∧ Below w.heap.size w wr ∧ ∃ (us : Nat → Value) (L H : Nat → Nat), wr.ownsRow w.heap.size 46 1 (.slice (some ⟨w.heap.size, 0, none⟩) n n) n (fillRow us n k (.slice none 0 0)) ∧
      Hid (∀ i, i < k → w.heap.size + 1 ≤ L i ∧ H i ≤ wr.heap.size ∧ InI wr (L i) (H i) (us i) (rnth xss i) ∧ ∀ j, j < k → j ≠ i → (H i ≤ L j ∨ H j ≤ L i)))
    (fun si _ => n - (intOf si).toNat)
  case atStart => exact ⟨0, Nat.zero_le _, rfl, (Below.refl _ _).grown hgrow0 (Nat.le_refl _) (fun k h => by cases h), fun _ => .nilFunc, fun _ => 0, fun _ => 0, by rw [fillRow_zero]; exact hown0, Lib.hid fun i h => absurd h (by omega)⟩
  case round =>
    obtain ⟨k, hk, rfl, hbl, us, L, H, hown, HI⟩ := hrel
    have hsz : w.heap.size < wr.heap.size := (hown.lt w.heap.size rfl).2
    by_cases hlt : k < n
    · obtain ⟨b, o, rfl, hb, hc⟩ := hv (by omega)
      have hg : wr.cell? ⟨b, o + k, none⟩ = some (vs k) := (hbl.cell (by exact hb)).trans (hc k (by omega))
      have hrk : RdI w (vs k) (rnth xss k) := Hrow.out k (by have := Hxn.out; omega)
      obtain ⟨ak, ck, hvk⟩ := hrk.slice
      have Hrk := Lib.hid hrk; clear hrk
      rw [hvk] at hg
      have Hvk := Lib.hid hvk; clear hvk
      clear hc
      go_wp2_with fail
      refine (toInt64S_any _ (rnth xss k) _ (Hr.out k (by have := Hxn.out; omega)) (by rw [← Hvk.out]; exact Hrk.out.below hbl)).mono ?_
      rintro e w1 ⟨u, rfl, hu, hb1⟩
      have hown1 := ownsRow_below hown hb1
      have hs1 := hb1.size
      obtain ⟨au, cu, hue⟩ := hu.rd.slice
      subst hue
      have hold := (hown1.cellAt k (by omega)).trans (fillRow_get _ n k _ hlt)
      have hfz := hown1.frozenAt k
      obtain ⟨us', hus'⟩ : ∃ us' : Nat → Value, us' = fun i => if i = k then .slice au (rnth xss k).length cu else us i := ⟨_, rfl⟩
      have hst := (hown1.stored k (us' k)).1
      rw [fillRow_congr (f := us) (g := us') n k _ (fun i hi => by rw [hus']; exact (if_neg (by omega)).symm), fillRow_set _ _ _ _ hlt, show us' k = .slice au (rnth xss k).length cu by rw [hus']; exact if_pos rfl] at hst
      have Hst := Lib.hid hst; clear hst
      have HI2 : Hid (∀ i, i < k + 1 → w.heap.size + 1 ≤ (if i = k then wr.heap.size else L i) ∧ (if i = k then w1.heap.size else H i) ≤ (w1.setCell ⟨w.heap.size, k, none⟩ (.slice au (rnth xss k).length cu)).heap.size ∧ InI (w1.setCell ⟨w.heap.size, k, none⟩ (.slice au (rnth xss k).length cu)) (if i = k then wr.heap.size else L i) (if i = k then w1.heap.size else H i) (us' i) (rnth xss i) ∧ ∀ j, j < k + 1 → j ≠ i → ((if i = k then w1.heap.size else H i) ≤ (if j = k then wr.heap.size else L j) ∨ (if j = k then w1.heap.size else H j) ≤ (if i = k then wr.heap.size else L i))) := by
        have hmod : Mod w.heap.size (w.heap.size + 1) w1 (w1.setCell ⟨w.heap.size, k, none⟩ (.slice au (rnth xss k).length cu)) := (Mod.refl _ _ _).setCell (p := ⟨w.heap.size, k, none⟩) (Nat.le_refl _) (Nat.lt_succ_self _) _
        refine Lib.hid fun i hi => ?_
        by_cases e : i = k
        · subst e
          rw [if_pos rfl, if_pos rfl, hus']
          simp only [if_true]
          refine ⟨by omega, by rw [size_setCell]; exact Nat.le_refl _, hu.inn.mod hmod (by omega), fun j hj hji => ?_⟩
          rw [if_neg hji, if_neg hji]
          obtain ⟨_, q, _⟩ := HI.out j (by omega)
          omega
        · rw [if_neg e, if_neg e, hus']
          simp only [if_neg e]
          obtain ⟨q1, q2, q3, q4⟩ := HI.out i (by omega)
          refine ⟨q1, by rw [size_setCell]; omega, (q3.below hb1 q2).mod hmod (by omega), fun j hj hji => ?_⟩
          by_cases ej : j = k
          · rw [if_pos ej, if_pos ej]; omega
          · rw [if_neg ej, if_neg ej]; exact q4 j (by omega) hji
      have hb2 : Below w.heap.size w (w1.setCell ⟨w.heap.size, k, none⟩ (.slice au (rnth xss k).length cu)) := (hbl.trans (hb1.mono hbl.size)).setCell (Nat.le_refl _) _
      clear hown hown1 hu hus'
      go_wp2_with fail
      go_roundw
      case rel => exact ⟨k + 1, by omega, by go_num, hb2, us', (fun i => if i = k then wr.heap.size else L i), (fun i => if i = k then w1.heap.size else H i), Hst.out, HI2⟩
      case measure => simp [intOf]; omega
    · go_wp2_with fail
      go_ret
      obtain rfl : k = n := by omega
      have e := Hxn.out
      refine ⟨_, rfl, ⟨us, L, H, w.heap.size, w.heap.size + 1, Nat.le_refl _, by omega, ?_, fun i hi => ?_⟩, hbl⟩
      · obtain ⟨a', cap', q1, q2, q3, q4⟩ := ownsRow_ow hown us fun i hi => fillRow_full _ _ _ _ (by omega)
        rw [← e]
        refine ⟨a', cap', q1, q2, q3, fun hn => ?_⟩
        obtain ⟨b, o, rfl, p1, p2, p3⟩ := q4 hn
        cases q1
        exact ⟨_, _, rfl, Nat.le_refl _, by omega, p2, p3⟩
      · obtain ⟨q1, q2, q3, q4⟩ := HI.out i (by omega)
        exact ⟨by omega, q2, q3, by omega, fun j hj hji => q4 j (by omega) hji⟩
set_option maxHeartbeats 400000 in
theorem eqInt64SS_q (va vb : Value) (xss yss : List (List Int)) (w : World) (hr : ∀ i, i < xss.length → (rnth xss i).length ≤ 9223372036854775000) (ha : RdII w va xss) (hb : RdII w vb yss) :
    Calls Try.prog 27 #[va, vb] w fun e w' => e = .returned (.bool (decide (xss = yss))) ∧ ∃ m, w' = w.drewN m := by
  obtain ⟨vs, ⟨a, capa, rfl, hcapa, hma, ha⟩, ra⟩ := ha
  obtain ⟨us, ⟨b, capb, rfl, hcapb, hmb, hb⟩, rb⟩ := hb
  unfold maxLen at hma hmb
  have Ra := Lib.hid ra
  have Rb := Lib.hid rb
  have Hr := Lib.hid hr
  clear ra rb hr
  by_cases hl : xss.length = yss.length
  · obtain ⟨n, hxn⟩ : ∃ n, n = xss.length := ⟨_, rfl⟩
    rw [← hxn] at hl
    rw [← hl] at hb hcapb ⊢
    rw [← hxn] at hcapa ha ⊢
    have Hxn := Lib.hid hxn; clear hxn
    have Hyn := Lib.hid hl; clear hl
    go_enter Try.func27, Try.ntmps27
    go_wp2
    go_loopw [5] (fun si wr => ∃ k : Nat, k ≤ n ∧ si = .int .i64 k ∧ Hid (xss.take k = yss.take k) ∧ Hid (∃ m, wr = w.drewN m)) (fun si _ => n - (intOf si).toNat)
    case atStart => exact ⟨0, Nat.zero_le _, rfl, Lib.hid rfl, Lib.hid ⟨0, rfl⟩⟩
    case round =>
      obtain ⟨k, hk, rfl, heq, hm⟩ := hrel
      have hbl : Below w.heap.size w wr := by obtain ⟨m, e⟩ := hm.out; rw [e]; exact ⟨rfl, rfl, rfl, Nat.le_refl _, fun _ _ => rfl⟩
      by_cases hlt : k < n
      · obtain ⟨b1, o1, rfl, hb1, hc1⟩ := ha (by omega)
        obtain ⟨b2, o2, rfl, hb2, hc2⟩ := hb (by omega)
        have hka : k < xss.length := by have := Hxn.out; omega
        have hkb : k < yss.length := by have := Hyn.out; omega
        have r1 := Ra.out k hka
        have r2 := Rb.out k hkb
        have hrl := Hr.out k hka
        obtain ⟨a1, c1, e1⟩ := r1.slice
        obtain ⟨a2, c2, e2⟩ := r2.slice
        have g1 : wr.cell? ⟨b1, o1 + k, none⟩ = some (.slice a1 (rnth xss k).length c1) := (hbl.cell (by exact hb1)).trans (by rw [hc1 k (by omega), e1])
        have g2 : wr.cell? ⟨b2, o2 + k, none⟩ = some (.slice a2 (rnth yss k).length c2) := (hbl.cell (by exact hb2)).trans (by rw [hc2 k (by omega), e2])
        rw [e1] at r1
        rw [e2] at r2
        have R1 := Lib.hid r1
        have R2 := Lib.hid r2
        clear hc1 hc2 e1 e2 r1 r2
        by_cases he : rnth xss k = rnth yss k
        · have hc := fun q => eqInt64S_qb _ _ (rnth xss k) (rnth yss k) (wr.drewN q) true (decide_eq_true he) hrl (R1.out.below (hbl.trans ⟨rfl, rfl, rfl, Nat.le_refl _, fun _ _ => rfl⟩)) (R2.out.below (hbl.trans ⟨rfl, rfl, rfl, Nat.le_refl _, fun _ _ => rfl⟩))
          have Hc := Lib.hid hc; clear hc
          have Hh : Hid (xss.take (k + 1) = yss.take (k + 1)) := Lib.hid (by rw [take_rnth xss k hka, take_rnth yss k hkb, heq.out, he])
          clear he
          go_wp2
          go_quiet ((go_at_call 26; exact Calls.quiet_of (Hc.out _)))
          go_wp2
          go_roundw
          case rel => exact ⟨k + 1, by omega, by go_num, Hh, Lib.hid (by obtain ⟨m, e⟩ := hm.out; exact ⟨m + nq, by rw [e]; exact World.drewN_drewN _ _ _⟩)⟩
          case measure => simp [intOf]; omega
        · have hc := fun q => eqInt64S_qb _ _ (rnth xss k) (rnth yss k) (wr.drewN q) false (decide_eq_false he) hrl (R1.out.below (hbl.trans ⟨rfl, rfl, rfl, Nat.le_refl _, fun _ _ => rfl⟩)) (R2.out.below (hbl.trans ⟨rfl, rfl, rfl, Nat.le_refl _, fun _ _ => rfl⟩))
          have Hc := Lib.hid hc; clear hc
          have Hh : Hid (decide (xss = yss) = false) := Lib.hid (decide_eq_false fun e => he (by rw [e]))
          clear he
          go_wp2
          go_quiet ((go_at_call 26; exact Calls.quiet_of (Hc.out _)))
          go_wp2
          go_ret
          rw [Hh.out]
          exact ⟨rfl, by obtain ⟨m, e⟩ := hm.out; exact ⟨m + nq, by rw [e]; exact World.drewN_drewN _ _ _⟩⟩
      · go_wp2
        go_ret
        obtain rfl : k = n := by omega
        have h := heq.out
        rw [List.take_of_length_le (by have := Hxn.out; omega), List.take_of_length_le (by have := Hyn.out; omega)] at h
        refine ⟨?_, hm.out⟩
        rw [decide_eq_true h]; rfl
  · have hne : decide (xss = yss) = false := decide_eq_false fun e => hl (by rw [e])
    rw [hne]
    have h1 : ((xss.length : Int) != (yss.length : Int)) = true := by simp; omega
    go_enter Try.func27, Try.ntmps27
    go_wp2
    go_ret
    exact ⟨rfl, 0, rfl⟩
theorem eqInt64SS_any (va vb : Value) (xss yss : List (List Int)) (w : World) (hr : ∀ i, i < xss.length → (rnth xss i).length ≤ 9223372036854775000) (ha : RdII w va xss) (hb : RdII w vb yss) :
    Calls Try.prog 27 #[va, vb] w fun e w' => e = .returned (.bool (decide (xss = yss))) ∧ Below w.heap.size w w' :=
  (eqInt64SS_q va vb xss yss w hr ha hb).mono fun e w' ⟨h, m, hm⟩ => ⟨h, by rw [hm]; exact ⟨rfl, rfl, rfl, Nat.le_refl _, fun _ _ => rfl⟩⟩
/-- The rows, each number marked. -/
def marksII (m : Int) (xss : List (List Int)) : List (List Int) := (List.range xss.length).map fun i => marks (m + (offs xss i : Int)) (rnth xss i).length
theorem marksII_length (m : Int) (xss : List (List Int)) : (marksII m xss).length = xss.length := by simp [marksII]
theorem rnth_marksII (m : Int) (xss : List (List Int)) (i : Nat) (h : i < xss.length) : rnth (marksII m xss) i = marks (m + (offs xss i : Int)) (rnth xss i).length := by simp [rnth, marksII, h]
theorem offs_le_total (xss : List (List Int)) (i : Nat) (h : i ≤ xss.length) : offs xss i ≤ total xss := offs_mono xss h
set_option maxHeartbeats 800000 in
theorem markInt64SS_any (lo hi : Nat) (v : Value) (xss : List (List Int)) (m : Int) (w : World) (hn : xss.length ≤ 1048576) (ht : total xss ≤ 1048576) (h0 : 0 ≤ m) (hm : m ≤ 100000000) (hv : InII w lo hi v xss) :
    Calls Try.prog 28 #[v, .int .i64 m] w fun e w' => e = .returned (.int .i64 (m + (total xss : Int))) ∧ InII w' lo hi v (marksII m xss) ∧ Mod lo hi w w' := by
  obtain ⟨vs, L, H, l, h', q1, q2, hv, hrows⟩ := hv
  have Hrows := Lib.hid hrows; clear hrows
  have Hv := Lib.hid hv
  obtain ⟨a, cap, rfl, hcap, hcm, hv⟩ := hv
  unfold maxLen at hcm
  obtain ⟨n, hxn⟩ : ∃ n, n = xss.length := ⟨_, rfl⟩
  rw [← hxn] at hcap hv hn
  have Hxn := Lib.hid hxn
  rw [← hxn] at Hv ⊢
  clear hxn
  go_enter Try.func28, Try.ntmps28
  go_wp2
  go_loopw [1, 5] (fun sk si wr => ∃ k : Nat, k ≤ n ∧ si = .int .i64 k ∧ sk = .int .i64 (m + (offs xss k : Int)) ∧ Mod lo hi w wr ∧ Hid (In wr l h' 1 (.slice a n cap) n vs ∧ ∀ i, i < n → (i < k → InI wr (L i) (H i) (vs i) (marks (m + (offs xss i : Int)) (rnth xss i).length)) ∧ (k ≤ i → InI wr (L i) (H i) (vs i) (rnth xss i))))
    (fun _ si _ => n - (intOf si).toNat)
  case atStart => exact ⟨0, Nat.zero_le _, rfl, by simp [offs], Mod.refl _ _ _, Lib.hid ⟨Hv.out, fun i hi => ⟨fun h => absurd h (by omega), fun _ => (Hrows.out i (by have := Hxn.out; omega)).2.2.1⟩⟩⟩
  case round =>
    obtain ⟨k, hk, rfl, rfl, hmod, HI⟩ := hrel
    have hoff := offs_le_total xss k (by have := Hxn.out; omega)
    by_cases hlt : k < n
    · have hkx : k < xss.length := by have := Hxn.out; omega
      obtain ⟨p1, p2, p3, p4, p5⟩ := Hrows.out k hkx
      have hIn := HI.out.1
      obtain ⟨a', cap', e1, _, _, hc⟩ := hIn
      obtain ⟨b, o, rfl, _, _, _, hc⟩ := hc (by omega)
      cases e1
      have hrk := (HI.out.2 k hlt).2 (Nat.le_refl _)
      obtain ⟨ak, ck, hvk⟩ := hrk.rd.slice
      have hg : wr.cell? ⟨b, o + k, none⟩ = some (.slice ak (rnth xss k).length ck) := by rw [(hc k (by omega)).1, hvk]
      rw [hvk] at hrk
      have Hrk := Lib.hid hrk
      have Hvk := Lib.hid hvk
      have hrl := row_le xss k hkx
      have hoff2 := offs_le_total xss (k + 1) (by omega)
      rw [offs] at hoff2
      clear hrk hvk hc hv
      go_wp2_with fail
      refine (markInt64S_any (L k) (H k) _ (rnth xss k) _ _ (by omega) (by omega) (by omega) Hrk.out).mono ?_
      rintro e w1 ⟨rfl, hu, hm1⟩
      have HI2 : Hid (In w1 l h' 1 (.slice (some ⟨b, o, none⟩) n cap) n vs ∧ ∀ i, i < n → (i < k + 1 → InI w1 (L i) (H i) (vs i) (marks (m + (offs xss i : Int)) (rnth xss i).length)) ∧ (k + 1 ≤ i → InI w1 (L i) (H i) (vs i) (rnth xss i))) := by
        refine Lib.hid ⟨HI.out.1.mod hm1 (by omega), fun i hi => ?_⟩
        by_cases e : i = k
        · subst e
          exact ⟨fun _ => by rw [Hvk.out]; exact hu, fun h => absurd h (by omega)⟩
        · have hd := p5 i (by have := Hxn.out; omega) e
          obtain ⟨r1, r2⟩ := HI.out.2 i hi
          exact ⟨fun h => (r1 (by omega)).mod hm1 (by omega), fun h => (r2 (by omega)).mod hm1 (by omega)⟩
      have hmod2 : Mod lo hi w w1 := hmod.trans (hm1.widen p1 p2)
      have Ho : Hid (offs xss (k + 1) = offs xss k + (rnth xss k).length) := Lib.hid rfl
      clear hu hm1 HI p5
      go_wp2_with fail
      go_roundw
      case rel => exact ⟨k + 1, by omega, by go_num, by rw [Ho.out]; go_num, hmod2, HI2⟩
      case measure => simp [intOf]; omega
    · go_wp2_with fail
      go_ret
      obtain rfl : k = n := by omega
      have e := Hxn.out
      refine ⟨by unfold total; rw [← e]; rfl, ⟨vs, L, H, l, h', q1, q2, by rw [marksII_length, ← e]; exact HI.out.1, fun i hi => ?_⟩, hmod⟩
      rw [marksII_length] at hi ⊢
      obtain ⟨p1, p2, p3, p4, p5⟩ := Hrows.out i hi
      rw [rnth_marksII _ _ _ hi]
      exact ⟨p1, p2, (HI.out.2 i (by omega)).1 (by omega), p4, p5⟩
theorem marksII_offs (m : Int) (xss : List (List Int)) (i : Nat) (h : i ≤ xss.length) : offs (marksII m xss) i = offs xss i := by
  induction i with
  | zero => rfl
  | succ i ih => rw [offs, offs, ih (by omega), rnth_marksII _ _ _ (by omega), marks_length]
theorem marksII_total (m : Int) (xss : List (List Int)) : total (marksII m xss) = total xss := by unfold total; rw [marksII_length, marksII_offs _ _ _ (Nat.le_refl _)]
theorem szInt64S_any (v : Value) (n : Nat) (cs : Nat → Value) (l : Int) (w : World) (h0 : 0 ≤ l) (h1 : l ≤ 1048576) (hv : Rd w 1 v n cs) :
    Calls Try.prog 51 #[v, .int .i64 l] w fun e w' => e = .returned (.int .i64 (if (n : Int) ≤ l then l - n else -1)) ∧ w = w' := by
  obtain ⟨a, cap, rfl, hcap, hm, _⟩ := hv
  unfold maxLen at hm
  by_cases h : (n : Int) ≤ l
  · have hn : ¬ (l - (n : Int) < 0) := by omega
    rw [if_pos h]
    go_enter Try.func51, Try.ntmps51
    go_wp2
    go_ret
    exact ⟨rfl, rfl⟩
  · have hn : l - (n : Int) < 0 := by omega
    rw [if_neg h]
    go_enter Try.func51, Try.ntmps51
    go_wp2
    go_ret
    exact ⟨rfl, rfl⟩
/-- What is left of l behind a grid, or -1. -/
def szII (xss : List (List Int)) (l : Int) : Int := if (xss.length : Int) + (total xss : Int) ≤ l then l - xss.length - total xss else -1
set_option maxHeartbeats 400000 in
theorem szInt64SS_any (v : Value) (xss : List (List Int)) (l : Int) (w : World) (h0 : 0 ≤ l) (h1 : l ≤ 1048576) (hv : RdII w v xss) :
    Calls Try.prog 22 #[v, .int .i64 l] w fun e w' => e = .returned (.int .i64 (szII xss l)) ∧ w = w' := by
  obtain ⟨vs, ⟨a, cap, rfl, hcap, hm, hv⟩, hrows⟩ := hv
  have Hrows := Lib.hid hrows; clear hrows
  unfold maxLen at hm
  obtain ⟨n, hxn⟩ : ∃ n, n = xss.length := ⟨_, rfl⟩
  rw [← hxn] at hcap hv
  have Hxn := Lib.hid hxn
  rw [← hxn]; clear hxn
  by_cases hs : (n : Int) ≤ l
  · have hs0 : ¬ (l - (n : Int) < 0) := by omega
    go_enter Try.func22, Try.ntmps22
    go_wp2
    go_loop [1, 5] (fun sl si => ∃ k : Nat, k ≤ n ∧ si = .int .i64 k ∧ sl = .int .i64 (l - n - (offs xss k : Int)) ∧ 0 ≤ l - n - (offs xss k : Int)) (fun _ si => n - (intOf si).toNat)
    case atStart => exact ⟨0, Nat.zero_le _, rfl, by simp [offs], by simp [offs]; omega⟩
    case round =>
      obtain ⟨k, hk, rfl, rfl, hnn⟩ := hrel
      by_cases hlt : k < n
      · have hkx : k < xss.length := by have := Hxn.out; omega
        obtain ⟨b, o, rfl, _, hc⟩ := hv (by omega)
        have hrk := Hrows.out k hkx
        obtain ⟨ak, ck, hvk⟩ := hrk.slice
        have hg : w.cell? ⟨b, o + k, none⟩ = some (.slice ak (rnth xss k).length ck) := by rw [hc k (by omega), hvk]
        rw [hvk] at hrk
        have Hrk := Lib.hid hrk
        have hoff2 := offs_le_total xss (k + 1) (by omega)
        rw [offs] at hoff2
        have Ho : Hid (offs xss (k + 1) = offs xss k + (rnth xss k).length) := Lib.hid rfl
        clear hrk hvk hc hv
        by_cases hb : ((rnth xss k).length : Int) ≤ l - n - (offs xss k : Int)
        · have hb0 : ¬ (l - n - (offs xss k : Int) - ((rnth xss k).length : Int) < 0) := by omega
          go_wp2_with fail
          refine (szInt64S_any _ _ _ _ _ hnn (by omega) Hrk.out).mono ?_
          rw [if_pos hb]
          rintro e w1 ⟨rfl, rfl⟩
          go_wp2_with fail
          go_round
          case rel => exact ⟨k + 1, by omega, by go_num, by rw [Ho.out]; go_num, by rw [Ho.out]; omega⟩
          case measure => simp [intOf]; omega
        · have Hs : Hid (szII xss l = -1) := Lib.hid (by unfold szII; rw [if_neg (by have := Hxn.out; omega)])
          go_wp2_with fail
          refine (szInt64S_any _ _ _ _ _ hnn (by omega) Hrk.out).mono ?_
          rw [if_neg (by omega)]
          rintro e w1 ⟨rfl, rfl⟩
          go_wp2_with fail
          go_ret
          exact ⟨by rw [Hs.out]; rfl, rfl⟩
      · go_wp2_with fail
        go_ret
        obtain rfl : k = n := by omega
        refine ⟨?_, rfl⟩
        unfold szII total
        rw [← Hxn.out, if_pos (by omega)]
        rfl
  · have hs0 : l - (n : Int) < 0 := by omega
    have Hs : Hid (szII xss l = -1) := Lib.hid (by unfold szII; rw [if_neg (by have := Hxn.out; omega)])
    go_enter Try.func22, Try.ntmps22
    go_wp2
    go_ret
    exact ⟨by rw [Hs.out]; rfl, rfl⟩
end Go.Proofs.Ytapmnfmobigdkaa
