/- Contracts: a partition from its blocks, of the program. -/
import Derived.Test.YtcakmchefbohoaaGreatDoorProg
import Derived.Test.YtcakmchefbohoaaGreatDoorMem
import Derived.Test.YtcakmchefbohoaaGreatDoorMath
import Derived.Test.YtcakmchefbohoaaGreatDoorBasics
import Derived.Test.YtcakmchefbohoaaGreatDoorOpenI
import Derived.Test.YtcakmchefbohoaaGreatDoorHelpI
import Derived.Test.YtcakmchefbohoaaGreatDoorGrid
import Derived.Test.YtcakmchefbohoaaGreatDoorPart
import Derived.Test.YtcakmchefbohoaaGreatDoorCmp
import Derived.Test.YtcakmchefbohoaaGreatDoorPartW
import Derived.Test.YtcakmchefbohoaaGreatDoorConc
import Derived.Test.YtcakmchefbohoaaGreatDoorRel
import Derived.Test.YtcakmchefbohoaaGreatDoorSpan
import Derived.Test.YtcakmchefbohoaaGreatDoorRept
import Derived.Test.YtcakmchefbohoaaGreatDoorFrom
import Derived.WalkKit
import Derived.BigQuiet
import Derived.BigRegion
import Derived.Deep.QuietTactic
import Derived.Maps.AppendAt
import Derived.Laws.OwnMore
import Derived.Lib.SliceRun
import Derived.Lib.Hide
import Derived.Outline
set_option linter.unusedVariables false
set_option linter.unusedSimpArgs false
namespace Go.Proofs.YtcakmchefbohoaaGreatDoor
open Go.RowKit

theorem fbStep_bd {id x : Int} {L M : List Int} {P : Int → Prop} (h : fbStep id x L = some M) (hP : ∀ x ∈ L, P x) (hid : P id) : ∀ x ∈ M, P x := by
  unfold fbStep at h
  split at h
  · cases h
  · cases h
    intro y hy
    rcases List.mem_or_eq_of_mem_set hy with h | h
    · exact hP y h
    · rw [h]; exact hid
theorem fbRow_bd {id : Int} {b L : List Int} {P : Int → Prop} (hP : ∀ x ∈ L, P x) (hid : P id) : ∀ {k : Nat} {M : List Int}, fbRow id b L k = some M → ∀ x ∈ M, P x
  | 0, M, h => by cases h; exact hP
  | k + 1, M, h => by
    rw [fbRow] at h
    cases h2 : fbRow id b L k with
    | none => rw [h2] at h; cases h
    | some X =>
      rw [h2] at h
      exact fbStep_bd h (fbRow_bd hP hid h2) hid
theorem fbAll_bd {n : Nat} {B : List (List Int)} {P : Int → Prop} (h1 : P (-1)) {m : Nat} (hm : ∀ i, i < m → P (i : Int)) : ∀ {k : Nat} {M : List Int}, k ≤ m → fbAll n B k = some M → ∀ x ∈ M, P x
  | 0, M, _, h => by cases h; intro x hx; rw [(List.mem_replicate.1 hx).2]; exact h1
  | k + 1, M, hk, h => by
    rw [fbAll] at h
    cases h2 : fbAll n B k with
    | none => rw [h2] at h; cases h
    | some X =>
      rw [h2] at h
      exact fbRow_bd (fbAll_bd h1 hm (by omega) h2) (hm k (by omega)) h
theorem offs_take (B : List (List Int)) : ∀ i, i ≤ B.length → offs B i = (B.take i).flatten.length
  | 0, _ => by simp [offs]
  | i + 1, h => by
    rw [offs, offs_take B i (by omega), List.take_succ_eq_append_getElem (by omega), List.flatten_append, List.length_append, rnth_eq B i (by omega)]
    simp
theorem total_flat (B : List (List Int)) : B.flatten.length = total B := by
  unfold total
  rw [offs_take B B.length (Nat.le_refl _), List.take_length]
def partsV (B : List (List Int)) : List (List Value) := B.map fun b => b.map (Value.int .i64)
theorem partsV_len (B : List (List Int)) : (partsV B).length = B.length := by simp [partsV]
theorem partsV_flat (B : List (List Int)) : (partsV B).flatten = B.flatten.map (Value.int .i64) := by
  unfold partsV; rw [List.map_flatten]
theorem partsV_nth (B : List (List Int)) {k : Nat} (h : k < B.length) : pnth (partsV B) k = (rnth B k).map (Value.int .i64) := by
  unfold pnth partsV
  rw [List.getD_eq_getElem?_getD, List.getElem?_map, List.getElem?_eq_getElem h, rnth_eq B k h]
  rfl
theorem partsV_one (B : List (List Int)) : ∀ l ∈ partsV B, ∀ u ∈ l, u.oneCell' = true := by
  intro l hl u hu
  unfold partsV at hl
  obtain ⟨b, _, rfl⟩ := List.mem_map.1 hl
  obtain ⟨x, _, rfl⟩ := List.mem_map.1 hu
  rfl
theorem Rd_cs {w : World} {sz : Nat} {v : Value} {n : Nat} {cs cs' : Nat → Value} (h : Rd w sz v n cs) (e : ∀ i, i < n * sz → cs' i = cs i) : Rd w sz v n cs' := by
  obtain ⟨a, cap, rfl, h1, h2, h3⟩ := h
  refine ⟨a, cap, rfl, h1, h2, fun hn => ?_⟩
  obtain ⟨b, o, rfl, hb, hcc⟩ := h3 hn
  exact ⟨b, o, rfl, hb, fun i hi => by rw [e i hi]; exact hcc i hi⟩
theorem partsV_rd {w : World} {v : Value} {b : List Int} (h : RdI w v b) : Rd w 1 v (b.map (Value.int .i64)).length (vnth (b.map (Value.int .i64))) := by
  rw [List.length_map]
  refine Rd_cs h fun i hi => ?_
  unfold vnth ic
  rw [List.getD_eq_getElem?_getD, List.getElem?_map, nth_get? b i (by omega)]
  rfl
set_option maxRecDepth 100000 in
set_option maxHeartbeats 4000000 in
theorem FromBlocks_any (n : Int) (vb : Value) (B : List (List Int)) (w : World) (hn64 : -9223372036854775808 ≤ n ∧ n ≤ 9223372036854775807) (hT : B.length + total B ≤ 4194304) (rb : RdII w vb B) :
    Calls Tryz.prog 63 #[.int .i64 n, vb] w fun e w' => ∃ u, e = .returned (.tuple #[u, .int .i64 (fbCode n B)]) ∧ OwI w' w.heap.size u (fbOut n B) ∧ Below w.heap.size w w' := by
  have RB := Lib.hid rb
  obtain ⟨vs, hrd, hrows⟩ := rb
  have hpf : (partsV B).flatten.length = total B := by rw [partsV_flat, List.length_map, total_flat]
  have Hpf := Lib.hid hpf
  have hrd1 : Rd w 1 vb (partsV B).length vs := by rw [partsV_len]; exact hrd
  have hps : ∀ k, k < (partsV B).length → Rd w 1 (vs k) (pnth (partsV B) k).length (vnth (pnth (partsV B) k)) := by
    intro k hk
    rw [partsV_len] at hk
    rw [partsV_nth B hk]
    exact partsV_rd (hrows k hk)
  have Hrd1 := Lib.hid hrd1
  have Hps := Lib.hid hps
  obtain ⟨a, cap, rfl, hcap, hcm, hc⟩ := hrd
  have Hrows := Lib.hid hrows
  unfold maxLen at hcm
  obtain ⟨q, hq⟩ : ∃ q, q = B.length := ⟨_, rfl⟩
  rw [← hq] at hcap hc RB Hrd1 hT ⊢
  have Hq := Lib.hid hq
  have hTT : total B ≤ 4194304 := by omega
  have HTT := Lib.hid hTT
  have hbA : ∀ t, Below w.heap.size w (w.alloc (.cells #[.int .i64 n] t)) := fun t => (Below.refl _ _).alloc (Nat.le_refl _) _
  have HbA := Lib.hid hbA
  clear hq hrows hrd1 hps hpf hTT hbA
  go_enter Tryz.func63, Tryz.ntmps63
  go_wp2_with fail
  refine (concatI_any _ vs (partsV B) _ (by rw [Hpf.out]; exact HTT.out) (by rw [partsV_len, ← Hq.out]; omega) (partsV_one B) (Hrd1.out.below (HbA.out _)) (fun k hk => (Hps.out k hk).below (HbA.out _))).mono ?_
  rintro e w1 ⟨u, rfl, hu, hb1⟩
  rw [partsV_flat] at hu
  have hru : RdI w1 u B.flatten := (ownsRow_owI hu).rd
  have Hru := Lib.hid hru
  obtain ⟨au, cu, rfl⟩ := hru.slice
  obtain ⟨T, hTe⟩ : ∃ T, T = B.flatten.length := ⟨_, rfl⟩
  have hTm : T ≤ 4194304 := by rw [hTe, total_flat]; exact HTT.out
  have HTe := Lib.hid hTe
  rw [← hTe] at Hru ⊢
  have g0 : w1.cell? ⟨w.heap.size, 0, none⟩ = some (.int .i64 n) := (hb1.cell (by simp)).trans (by simp)
  have hbw : Below w.heap.size w w1 := (HbA.out _).trans (hb1.mono (by simp))
  have hs1 : w.heap.size < w1.heap.size := by have := hb1.size; simp at this; omega
  clear hu hb1 hTe hru
  cases hA : B.any noItems with
  | true =>
    have HA := Lib.hid hA
    have H : Hid (fbCode n B = 1) := Lib.hid (by unfold fbCode; rw [if_pos hA])
    have H2 : Hid (fbOut n B = []) := Lib.hid (by unfold fbOut; rw [H.out]; rfl)
    clear hA
    go_wp2_with fail
    refine (from1_contains _ B _ (RB.out.below hbw)).mono ?_
    rw [HA.out]
    rintro e w' ⟨rfl, rfl⟩
    go_wp2_with fail
    go_ret2
    rw [H.out, H2.out]
    exact ⟨_, rfl, OwI_nil _ _, hbw⟩
  | false =>
  have HA := Lib.hid hA
  clear hA
  go_wp2_with fail
  refine (from1_contains _ B _ (RB.out.below hbw)).mono ?_
  rw [HA.out]
  rintro e w' ⟨rfl, rfl⟩
  cases hN : inR n 1 40 with
  | false =>
    have HN := Lib.hid hN
    have H : Hid (fbCode n B = 2) := Lib.hid (by unfold fbCode; rw [HA.out, if_neg (by simp), hN]; rfl)
    have H2 : Hid (fbOut n B = []) := Lib.hid (by unfold fbOut; rw [H.out]; rfl)
    clear hN
    go_wp2_with fail
    refine (itemsOk_any _ _).mono ?_
    rw [HN.out]
    rintro e w' ⟨rfl, rfl⟩
    go_wp2_with fail
    go_ret2
    rw [H.out, H2.out]
    exact ⟨_, rfl, OwI_nil _ _, hbw⟩
  | true =>
  have HN := Lib.hid hN
  obtain ⟨hn1, hn2⟩ := inR_true hN
  have hw : wrap64 (n - 1) = n - 1 := by unfold wrap64; omega
  have Hw := Lib.hid hw
  clear hN hw
  go_wp2_with fail
  refine (itemsOk_any _ _).mono ?_
  rw [HN.out]
  rintro e w' ⟨rfl, rfl⟩
  have hrow : Hid (rowIn (n - 1) B.flatten = B.all (rowIn (n - 1))) := Lib.hid (flat_in (n - 1) B)
  cases hR : B.all (rowIn (n - 1)) with
  | false =>
    have H : Hid (fbCode n B = 2) := Lib.hid (by unfold fbCode; rw [HA.out, if_neg (by simp), hR]; simp)
    have H2 : Hid (fbOut n B = []) := Lib.hid (by unfold fbOut; rw [H.out]; rfl)
    have HR := Lib.hid hR
    clear hR
    go_wp2_with fail
    refine (from2_contains _ n w.heap.size B.flatten _ g0 (by rw [← HTe.out]; omega) Hru.out).mono ?_
    rw [Hw.out, hrow.out, HR.out]
    rintro e w' ⟨rfl, rfl⟩
    go_wp2_with fail
    go_ret2
    rw [H.out, H2.out]
    exact ⟨_, rfl, OwI_nil _ _, hbw⟩
  | true =>
  have hAll := Lib.hid hR
  clear hR
  go_wp2_with fail
  refine (from2_contains _ n w.heap.size B.flatten _ g0 (by rw [← HTe.out]; omega) Hru.out).mono ?_
  rw [Hw.out, hrow.out, hAll.out]
  rintro e w' ⟨rfl, rfl⟩
  obtain ⟨j, rfl⟩ : ∃ m : Nat, n = (m : Int) := ⟨n.toNat, by omega⟩
  have hFC := Lib.hid (fbCode_ok HA.out HN.out hAll.out)
  have hFO := Lib.hid (fbOut_ok (j := j) (B := B))
  clear HA HN Hw hrow Hru HTe hTm Hpf Hps HbA Hrd1
  have g1 : (w1.alloc (.cells #[.int .i64 (-1)] 2)).cell? ⟨w1.heap.size, 0, none⟩ = some (.int .i64 (-1)) := by simp
  have G1 := Lib.hid g1
  have hbA : Below w.heap.size w (w1.alloc (.cells #[.int .i64 (-1)] 2)) := hbw.alloc hbw.size _
  clear g1
  go_wp2_with fail
  refine (repeatOne_any (-1) j w1.heap.size 1 _ (by omega) (by omega) (by simp) G1.out).mono ?_
  rintro e w2 ⟨u, rfl, hu, hb2⟩
  have hbl0 : Below w.heap.size w w2 := hbA.trans (hb2.mono hbA.size)
  have hu1 : OwI w2 w.heap.size u (List.replicate j (-1)) := hu.mono' hbA.size
  have hin := hu1.inn
  unfold InI at hin
  rw [List.length_replicate] at hin
  obtain ⟨al, cl, rfl, hcl, hclm, hinn⟩ := hin
  unfold maxLen at hclm
  obtain ⟨g, o, rfl, hg1, hg2, hg3, hgc⟩ := hinn (by omega)
  have HIn0 : Hid (InI w2 w.heap.size w2.heap.size (.slice (some ⟨g, o, none⟩) j cl) (List.replicate j (-1))) := Lib.hid (by
    unfold InI; rw [List.length_replicate]; exact ⟨_, cl, rfl, hcl, hclm, fun _ => ⟨g, o, rfl, hg1, hg2, hg3, hgc⟩⟩)
  obtain ⟨h1, hh1⟩ : ∃ h1, h1 = w2.heap.size := ⟨_, rfl⟩
  rw [← hh1] at HIn0
  clear hu hu1 hinn hgc hg2 hg3 hh1 hb2 g0 hs1 G1 hbA hbw
  go_wp2_with fail
  go_loopw [31] (fun si wr => ∃ (t : Nat) (L : List Int), t ≤ q ∧ si = .int .i64 t ∧ Hid (fbAll j B t = some L ∧ InI wr w.heap.size h1 (.slice (some ⟨g, o, none⟩) j cl) L) ∧ Below w.heap.size w wr) (fun si _ => q - (intOf si).toNat)
  case atStart => exact ⟨0, _, Nat.zero_le _, rfl, Lib.hid ⟨rfl, HIn0.out⟩, hbl0⟩
  case round =>
  clear hbl0 HIn0
  obtain ⟨t, L, ht, rfl, HI, hbl⟩ := hrel
  by_cases hlt2 : t < q
  · obtain ⟨b1, o1, rfl, hb1, hc1⟩ := hc (by omega)
    have hrk := Hrows.out t (by rw [← Hq.out]; exact hlt2)
    obtain ⟨m, hm⟩ : ∃ m, m = (rnth B t).length := ⟨_, rfl⟩
    unfold RdI at hrk
    rw [← hm] at hrk
    obtain ⟨ak, ck, hvk, hmc, hmm, hck⟩ := hrk
    unfold maxLen at hmm
    have g1 : wr.cell? ⟨b1, o1 + t, none⟩ = some (.slice ak m ck) := (hbl.cell (by exact hb1)).trans (by rw [hc1 t (by omega), hvk])
    have Hm := Lib.hid hm
    have Hck := Lib.hid hck
    clear hc hc1 hvk hm hck
    go_wp2_with fail
    clear g1
    go_loopw [38] (fun si wr => ∃ (u : Nat) (L : List Int), u ≤ m ∧ si = .int .i64 u ∧ Hid (fbAt j B t u = some L ∧ InI wr w.heap.size h1 (.slice (some ⟨g, o, none⟩) j cl) L) ∧ Below w.heap.size w wr) (fun si _ => m - (intOf si).toNat)
    case atStart => exact ⟨0, L, Nat.zero_le _, rfl, Lib.hid ⟨fbAt_zero HI.out.1, HI.out.2⟩, hbl⟩
    case round =>
    clear hbl HI
    obtain ⟨u, L, hu, rfl, HI, hbl⟩ := hrel
    have hLl : L.length = j := fbAt_len HI.out.1
    by_cases hlt3 : u < m
    · obtain ⟨b2, o2, rfl, hb2, hc2⟩ := Hck.out (by omega)
      have g2 : wr.cell? ⟨b2, o2 + u, none⟩ = some (.int .i64 (nth (rnth B t) u)) := (hbl.cell (by exact hb2)).trans (hc2 u (by omega))
      obtain ⟨x1, x2⟩ := rows_in hAll.out (i := t) (by rw [← Hq.out]; exact hlt2) (k := u) (by rw [← Hm.out]; exact hlt3)
      obtain ⟨p, hp⟩ : ∃ p : Nat, nth (rnth B t) u = (p : Int) := ⟨(nth (rnth B t) u).toNat, by omega⟩
      rw [hp] at g2 x1 x2
      have hpj : p < j := by omega
      have hnx := fbAt_next HI.out.1
      rw [hp] at hnx
      have hI : In wr w.heap.size h1 1 (.slice (some ⟨g, o, none⟩) j cl) j (ic L) := by have := HI.out.2; unfold InI at this; rwa [hLl] at this
      have HIn := Lib.hid hI
      obtain ⟨_, _, e1, _, _, hcl⟩ := hI
      cases e1
      obtain ⟨_, _, e1, _, _, _, hcl⟩ := hcl (by omega)
      cases e1
      have g3 : wr.cell? ⟨g, o + p, none⟩ = some (.int .i64 (nth L p)) := (hcl p (by omega)).1
      have hfz : wr.frozen? ⟨g, o + p, none⟩ = false := (hcl p (by omega)).2
      clear hcl hc2 hp x1 x2
      by_cases hx : 0 ≤ nth L p
      · rw [fbStep_hit hx] at hnx
        have hR := fbAt_bad (by rw [← Hq.out]; exact hlt2) (by rw [← Hm.out]; exact hlt3) hnx
        have H : Hid (fbCode j B = 4) := Lib.hid (hFC.out.1 hR)
        have H2 : Hid (fbOut j B = []) := Lib.hid (hFO.out.1 (by rw [H.out]; decide))
        clear hnx hR
        go_wp2_with fail
        go_ret2
        rw [H.out, H2.out]
        exact ⟨_, rfl, OwI_nil _ _, hbl⟩
      · rw [fbStep_miss hx] at hnx
        have hst := In_store HIn.out hpj (x := .int .i64 t) (cs' := ic (L.set p t)) (by unfold ic; rw [nth_set_same (by omega)]) (fun i _ h => by unfold ic; rw [nth_set_other h])
        have hb' : Below w.heap.size w (wr.setCell ⟨g, o + p, none⟩ (.int .i64 t)) := hbl.setCell hg1 _
        have HI2 : Hid (fbAt j B t (u + 1) = some (L.set p t) ∧ InI (wr.setCell ⟨g, o + p, none⟩ (.int .i64 t)) w.heap.size h1 (.slice (some ⟨g, o, none⟩) j cl) (L.set p t)) := Lib.hid ⟨hnx, by unfold InI; rw [List.length_set, hLl]; exact hst.1⟩
        clear hnx hst HIn HI
        go_wp2_with fail
        go_roundw
        case rel => exact ⟨u + 1, _, by omega, by go_num, HI2, hb'⟩
        case measure => simp [intOf]; omega
    · obtain rfl : u = m := by omega
      have HI2 : Hid (fbAll j B (t + 1) = some L ∧ InI wr w.heap.size h1 (.slice (some ⟨g, o, none⟩) j cl) L) := Lib.hid ⟨fbAt_end (by rw [← Hm.out]; exact HI.out.1), HI.out.2⟩
      clear HI
      go_wp2_with fail
      go_roundw
      case rel => exact ⟨t + 1, L, by omega, by go_num, HI2, hbl⟩
      case measure => simp [intOf]; omega
  obtain rfl : t = q := by omega
  have hR : fbRes j B = some L := by unfold fbRes; rw [← Hq.out]; exact HI.out.1
  have hLl : L.length = j := fbAll_len HI.out.1
  have hbd : Hid (∀ x ∈ L, -9223372036854775808 ≤ x ∧ x ≤ 9223372036854775807) := Lib.hid (fbAll_bd (P := fun x => -9223372036854775808 ≤ x ∧ x ≤ 9223372036854775807) (by constructor <;> decide) (m := t) (fun i hi => by constructor <;> omega) (Nat.le_refl _) HI.out.1)
  have HIn := Lib.hid HI.out.2
  cases hC : hasI L (-1) with
  | true =>
    have H : Hid (fbCode j B = 3) := Lib.hid (by rw [hFC.out.2 _ hR, if_pos hC])
    have H2 : Hid (fbOut j B = []) := Lib.hid (hFO.out.1 (by rw [H.out]; decide))
    have HC := Lib.hid hC
    clear hC hR HI
    go_wp2_with fail
    refine (slicesContainsI_any _ L (-1) _ HIn.out.rd).mono ?_
    rw [HC.out]
    rintro e w' ⟨rfl, rfl⟩
    go_wp2_with fail
    go_ret2
    rw [H.out, H2.out]
    exact ⟨_, rfl, OwI_nil _ _, hbl⟩
  | false =>
    have H : Hid (fbCode j B = 0) := Lib.hid (by rw [hFC.out.2 _ hR, if_neg (by rw [hC]; simp)])
    have H2 : Hid (fbOut j B = nrm L) := Lib.hid (hFO.out.2 _ hR H.out)
    have HC := Lib.hid hC
    clear hC hR HI
    go_wp2_with fail
    refine (slicesContainsI_any _ L (-1) _ HIn.out.rd).mono ?_
    rw [HC.out]
    rintro e w' ⟨rfl, rfl⟩
    go_wp2_with fail
    refine (normal_any _ L _ (by omega) hbd.out HIn.out.rd).mono ?_
    rintro e w3 ⟨u, rfl, hu, hb3⟩
    go_wp2_with fail
    go_ret2
    rw [H.out, H2.out]
    exact ⟨_, rfl, hu.mono' hbl.size, hbl.trans (hb3.mono hbl.size)⟩
end Go.Proofs.YtcakmchefbohoaaGreatDoor
