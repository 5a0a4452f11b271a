/- Contracts: words of a regular expression, by the reference: a star. -/
import Derived.Test.YtcakmchefbohoaaGreatDoorProg
import Derived.Test.YtcakmchefbohoaaGreatDoorMem
import Derived.Test.YtcakmchefbohoaaGreatDoorMath
import Derived.Test.YtcakmchefbohoaaGreatDoorBasics
import Derived.Test.YtcakmchefbohoaaGreatDoorOpenI
import Derived.Test.YtcakmchefbohoaaGreatDoorHelpI
import Derived.Test.YtcakmchefbohoaaGreatDoorGrid
import Derived.Test.YtcakmchefbohoaaGreatDoorLab
import Derived.Test.YtcakmchefbohoaaGreatDoorEnv
import Derived.Test.YtcakmchefbohoaaGreatDoorRLab
import Derived.Test.YtcakmchefbohoaaGreatDoorDec
import Derived.Test.YtcakmchefbohoaaGreatDoorReg
import Derived.Test.YtcakmchefbohoaaGreatDoorVReg
import Derived.Test.YtcakmchefbohoaaGreatDoorTreeR
import Derived.Test.YtcakmchefbohoaaGreatDoorConc
import Derived.Test.YtcakmchefbohoaaGreatDoorEmp
import Derived.Test.YtcakmchefbohoaaGreatDoorPart
import Derived.Test.YtcakmchefbohoaaGreatDoorSel
import Derived.Test.YtcakmchefbohoaaGreatDoorMwP
import Derived.Test.YtcakmchefbohoaaGreatDoorMwS
import Derived.Test.YtcakmchefbohoaaGreatDoorRgs
import Derived.Test.YtcakmchefbohoaaGreatDoorMwQ
import Derived.Test.YtcakmchefbohoaaGreatDoorModE
import Derived.Test.YtcakmchefbohoaaGreatDoorMwV
import Derived.Test.YtcakmchefbohoaaGreatDoorMwW
import Derived.WalkKit
import Derived.BigQuiet
import Derived.BigRegion
import Derived.Deep.QuietTactic
import Derived.Deep.RegionHeld3
import Derived.Deep.RegionLaw
import Derived.Deep.AppendLies
import Derived.Maps.AppendAt
import Derived.Laws.OwnMore
import Derived.Lib.SliceRun
import Derived.Laws.CopyOwn
import Derived.Lib.Hide
import Derived.Outline
set_option linter.unusedVariables false
set_option linter.unusedSimpArgs false
namespace Go.Proofs.YtcakmchefbohoaaGreatDoor
open Go.RowKit

def isT : Value → Bool
  | .bool b => b
  | _ => false
def boolN : Value → Nat
  | .bool true => 1
  | _ => 0
/-- A block that holds truth values; how many of them are true. -/
def HB (w : World) (g : Nat) (T : List Bool) : Prop := w.heap[g]? = some (.cells (boolsV T).toArray 4 (0, 0))
def cntB (w : World) (g : Nat) : Nat := match w.heap[g]? with
  | some (.cells cs _ _) => cs.toList.countP isT
  | _ => 0
theorem cntB_of {w : World} {g : Nat} {T : List Bool} (h : HB w g T) : cntB w g = T.count true := by
  unfold cntB
  rw [h]
  show (boolsV T).countP isT = T.count true
  clear h
  induction T with
  | nil => rfl
  | cons a T ih =>
    show (Value.bool a :: boolsV T).countP isT = _
    rw [List.countP_cons, ih, List.count_cons]
    cases a <;> rfl
theorem HB.row {w : World} {g B N : Nat} {T : List Bool} (h : HB w g T) (hl : T.length = N) (hB : B ≤ g) (hN : N ≤ 1048576) : w.ownsRow B 4 1 (.slice (some ⟨g, 0, none⟩) N N) N (boolsV T) :=
  ⟨by rw [boolsV_len]; omega, Or.inr ⟨g, N, _, rfl, hB, h, Nat.le_refl _, by unfold maxLen; omega, by simp [boolsV_len, hl], by rw [Nat.mul_one, List.take_of_length_le (by simp [boolsV_len, hl])]⟩⟩
theorem HB.below {w w' : World} {g : Nat} {T : List Bool} (h : HB w g T) (hb : Below w.heap.size w w') : HB w' g T := by
  have hg : g < w.heap.size := by
    rcases Nat.lt_or_ge g w.heap.size with h1 | h1
    · exact h1
    · unfold HB at h; rw [Array.getElem?_eq_none h1] at h; cases h
  exact (hb.block g hg).trans h
theorem HB.store {w : World} {g : Nat} {T : List Bool} (h : HB w g T) (j : Nat) (b : Bool) : HB (w.setCell ⟨g, j, none⟩ (.bool b)) g (T.set j b) := by
  have h2 := heap_setCell_same w g j _ _ (.bool b) h
  unfold HB
  rw [h2, ← boolsV_set]
  simp
theorem HB.of_row {w : World} {g B N : Nat} {T : List Bool} (h : w.ownsRow B 4 1 (.slice (some ⟨g, 0, none⟩) N N) N (boolsV T)) : HB w g T := by
  rcases h.2 with ⟨h2, _⟩ | ⟨g', cap', cur, e', hg, hh, hn', hm, hs, ht⟩
  · cases h2
  · cases e'
    unfold HB
    rw [hh, ← ht, List.take_of_length_le (by rw [Array.length_toList, hs]; omega)]
set_option maxRecDepth 100000 in
set_option maxHeartbeats 1600000 in
theorem endsS_star (L : List ByteArray) (x y1 : Rg) (k1 : FRg) (hk0 : x.kind = 3) (HL : LabsOkS L) (hlen : (x :: (FRg.cons y1 k1 .nil).flat).length ≤ 1048576) (h1 : EndsS L y1 k1) : EndsS L x (.cons y1 k1 .nil) := by
  intro v vs bt S w hv hC hS hvs
  have HV := Lib.hid hv
  have HC := Lib.hid hC
  have HVS := Lib.hid hvs
  obtain ⟨i0, hi, hz0, hz1, hz2⟩ := info_parts infoBool
  obtain ⟨a, cap, rfl, hcap, hcm, hv'⟩ := id hv
  obtain ⟨b, o, rfl, hb, g0, g1, g2⟩ := RdRg.cells hv (i := 0) (by simp)
  have e0 : rgnth (x :: (FRg.cons y1 k1 .nil).flat) 0 = x := rfl
  rw [e0] at g0 g1 g2
  rw [Nat.zero_mul, Nat.add_zero] at g0 g1 g2
  rw [hk0] at g0
  obtain ⟨as', cs', rfl⟩ := hvs.slice
  obtain ⟨N, hN⟩ : ∃ N, N = S.length := ⟨_, rfl⟩
  obtain ⟨n, hn⟩ : ∃ n, n = L.length := ⟨_, rfl⟩
  have hN1 : n < N := by omega
  have hN2 : N ≤ n + 1 := by omega
  have hn64 : n ≤ 64 := by have := HL.len; omega
  rw [← hN] at HVS ⊢
  have HN := Lib.hid hN
  have Hn := Lib.hid hn
  have H1 := Lib.hid h1
  have HS1 : Hid (RdRg w (.slice (some ⟨b, o + 3, none⟩) ((x :: (FRg.cons y1 k1 .nil).flat).length - 1) (cap - 1)) (y1 :: k1.flat)) := Lib.hid (by
    have h := hv.tail
    have e : (FRg.cons y1 k1 .nil).flat = y1 :: k1.flat := by simp [FRg.flat]
    rwa [e] at h ⊢)
  obtain ⟨m, hm⟩ : ∃ m, m = (x :: (FRg.cons y1 k1 .nil).flat).length := ⟨_, rfl⟩
  have hm2 : 1 < m := by rw [hm]; simp [FRg.flat]
  rw [← hm] at hcap HS1 ⊢
  have hI1 : (1 : Int) ≤ (m : Int) := by omega
  have hm1 : 1 ≤ m := by omega
  have hI4 : (1 : Int) < (cap : Int) := by omega
  have hc1 : 1 < cap := by omega
  have hcne : ¬ cap = 1 := by omega
  obtain ⟨F, hFe⟩ : ∃ F : EV, F = opX L y1 (FRg.fold (opX L) k1) := ⟨_, rfl⟩
  have hFl : Hid (∀ T, (F T).length = T.length) := Lib.hid (fun T => by rw [hFe]; exact opX_len L (.cons y1 k1 .nil) 0 T)
  have HFe := Lib.hid hFe
  have HR : Hid (opX L x (FRg.fold (opX L) (.cons y1 k1 .nil)) S = iterB F N S) := Lib.hid (by rw [opX_star hk0, hFe, hN]; rfl)
  rw [HR.out]
  have hsz : (Tryz.prog.info? 4).map (·.size) = some 1 := by rw [hi]; simp [hz1]
  have HSl : Hid (S.length = L.length + 1) := Lib.hid hS
  have HcS : Hid (S.count true ≤ S.length) := Lib.hid List.count_le_length
  clear hv hv' hC hvs hN hn e0 hk0 hm h1 g1 g2 hlen hFe hS HV
  go_enter Tryz.func46, Tryz.ntmps46
  go_wp2_with (at_make; refine wpList_make_full _ rfl _ _ 77 rfl w.heap.size 4 i0 (.bool false) 1 Tryz.underlying77 hi hz0 hz1 _ _ _ _ N rfl rfl rfl rfl ?b2 ?b3 (Nat.le_refl _) ?_)
  case b2 => first | omega | (rw [hz2]; omega)
  case b3 => unfold maxLen; omega
  intro w0 hown0 hgrow0
  rw [toList_madeCells_one] at hown0
  have hb0 : Below w.heap.size w w0 := (Below.refl _ _).grown hgrow0 (Nat.le_refl _) (fun k h => by cases h)
  have HO0 := Lib.hid (made_bool hown0)
  have p0 := cell_upS g0 hb0
  clear hown0 hgrow0
  have hvx := HVS.out.below hb0
  unfold RdB at hvx
  rw [← HN.out] at hvx
  obtain ⟨a', c', e', _, _, hs3⟩ := hvx
  cases e'
  obtain ⟨bs, os, rfl, hbs, hcs⟩ := hs3 (by omega)
  have HH : Hid (w0.heap[w.heap.size]? = some (.cells (boolsV (List.replicate N false)).toArray 4 (0, 0))) := Lib.hid (HB.of_row HO0.out)
  have HC1 : Hid ((boolsV S).length = Nat.min N N) := Lib.hid (by rw [boolsV_len, show Nat.min N N = N from Nat.min_self N]; exact HN.out.symm)
  have HP1 : Hid (0 < (boolsV S).length → (some ⟨w.heap.size, 0, none⟩ : Option Addr) = some ⟨w.heap.size, 0, none⟩ ∧ ∃ ad, (some ⟨bs, os, none⟩ : Option Addr) = some ad ∧ ∀ j v, (boolsV S)[j]? = some v → w0.cell? (ad.add j) = some v) := Lib.hid (fun _ => ⟨rfl, _, rfl, fun j v hj => by
    have hjl : j < (boolsV S).length := (List.getElem?_eq_some_iff.1 hj).1
    rw [boolsV_len] at hjl
    rw [boolsV_get S hjl] at hj
    cases hj
    rw [Addr.add_lit]; exact hcs j (by have := HN.out; omega)⟩)
  have HF1 : Hid (0 + (boolsV S).length ≤ (boolsV (List.replicate N false)).length) := Lib.hid (by rw [boolsV_len, boolsV_len, List.length_replicate, HN.out]; omega)
  have HO1 : Hid (∀ v ∈ boolsV S, v.oneCell' = true) := Lib.hid (fun v hv => by obtain ⟨z, _, rfl⟩ := List.mem_map.1 hv; rfl)
  have HSp : Hid (splice (boolsV (List.replicate N false)) 0 (boolsV S) = boolsV S) := Lib.hid (by
    unfold splice
    rw [List.take_zero, List.nil_append, Nat.zero_add, List.drop_of_length_le (by rw [boolsV_len, boolsV_len, List.length_replicate, ← HN.out]; exact Nat.le_refl _), List.append_nil])
  clear hs3 hcs
  go_wp2_with ((with_reducible show wpList _ _ _ _ _ _); refine wpList_copy_splice (o := ⟨some 125, _, _, _, _, _⟩) rfl (.tmp 123) (.tmp 124) 77 77 rfl 4 Tryz.underlying77 hsz (some ⟨w.heap.size, 0, none⟩) (some ⟨bs, os, none⟩) N N N cs' rfl rfl w.heap.size 0 (boolsV (List.replicate N false)) 4 HH.out (boolsV S) HC1.out HP1.out HF1.out HO1.out w.heap.size w hb0 (Nat.le_refl _) ?_)
  intro w1 hg1 hb1
  have HB1 : Hid (HB w1 w.heap.size S) := Lib.hid (by have h := hg1.out; rw [HSp.out] at h; exact h)
  clear hg1 HH HC1 HP1 HF1 HO1 HSp p0 HO0
  go_wp2_with fail
  have HNl : Hid (S.length = N) := Lib.hid HN.out.symm
  go_loopw [15] (fun sm wr => ∃ (j : Nat) (T : List Bool) (more : Bool), sm = .bool more ∧ T.length = N ∧ Hid (T = iterB F j S) ∧ j ≤ T.count true ∧ Hid (more = false → stepB F T = T) ∧ Hid (HB wr w.heap.size T) ∧ Below w.heap.size w wr) (fun sm wr => 2 * (N - cntB wr w.heap.size) + boolN sm)
  case atStart => exact ⟨0, S, true, rfl, HNl.out, Lib.hid rfl, Nat.zero_le _, Lib.hid (fun h => by cases h), HB1, hb1⟩
  case round =>
    clear HB1 hb1
    obtain ⟨j, T, more, rfl, hTl, HTj, hjc, HSt, HT, hbr⟩ := hrel
    have hcl : T.count true ≤ T.length := List.count_le_length
    cases more with
    | false =>
      have HRow : Hid (OwB wr w.heap.size (.slice (some ⟨w.heap.size, 0, none⟩) N N) (iterB F N S)) := Lib.hid (by
        have e1 : stepB F (iterB F j S) = iterB F j S := by rw [← HTj.out]; exact HSt.out rfl
        rw [iterB_done F e1 (by omega), ← HTj.out]
        exact own_bool (HT.out.row hTl (Nat.le_refl _) (by omega)))
      go_wp2_with fail
      go_ret
      exact ⟨_, rfl, HRow.out, hbr⟩
    | true =>
      have HRow : Hid (RdB wr (.slice (some ⟨w.heap.size, 0, none⟩) N N) T) := Lib.hid (own_bool (HT.out.row hTl (Nat.le_refl _) (by omega))).rd
      have HcO : Hid (cntB wr w.heap.size = T.count true) := Lib.hid (cntB_of HT.out)
      obtain ⟨V, hV⟩ : ∃ V, V = F T := ⟨_, rfl⟩
      have hVl : V.length = N := by rw [hV, hFl.out, hTl]
      obtain ⟨W2, hW2⟩ : ∃ W2, W2 = stepB F T := ⟨_, rfl⟩
      have hWl : W2.length = N := by rw [hW2, stepB_len, hTl]
      have HWat : Hid (∀ k, k < N → bnth W2 k = (bnth T k || bnth V k)) := Lib.hid (fun k hk => by rw [hW2, hV]; exact bnth_orB _ _ (by omega))
      have HWc : Hid (W2 = T ∨ T.count true < W2.count true) := Lib.hid (by
        by_cases h : W2 = T
        · exact Or.inl h
        · exact Or.inr (by rw [hW2] at h ⊢; exact stepB_more F h))
      have HWle : Hid (W2.count true ≤ W2.length) := Lib.hid List.count_le_length
      have HV2 := Lib.hid hV
      have HW2 := Lib.hid hW2
      have HVl := Lib.hid hVl
      have HTl : Hid (T.length = L.length + 1) := Lib.hid (by have := Hn.out; have := HN.out; have := HSl.out; omega)
      clear hV hW2 hVl
      go_wp2_with fail
      refine (H1.out _ _ bt T _ (HS1.out.below hbr) (HC.out.below hbr) HTl.out HRow.out).mono ?_
      rw [← HFe.out, ← HV2.out]
      rintro e w2 ⟨u1, rfl, hO1, hb2⟩
      obtain ⟨a1, c1, rfl⟩ := hO1.rd.slice
      rw [HVl.out] at hO1 ⊢
      have hbr2 := below_trans' hbr hb2
      have hwr : w.heap.size < wr.heap.size := by
        rcases Nat.lt_or_ge w.heap.size wr.heap.size with h1 | h1
        · exact h1
        · have h := HT.out; unfold HB at h; rw [Array.getElem?_eq_none h1] at h; cases h
      have HO1 : Hid (OwB w2 (w.heap.size + 1) (.slice a1 N c1) V) := Lib.hid (hO1.mono' (by omega))
      have HT2 : Hid (HB w2 w.heap.size T) := Lib.hid (HT.out.below hb2)
      clear hO1 HT HRow
      go_wp2_with fail
      go_loopw [15, 17] (fun sm si wr => ∃ (i : Nat) (T' : List Bool) (mr : Bool), i ≤ N ∧ si = .int .i64 i ∧ sm = .bool mr ∧ T'.length = N ∧ Hid (∀ k, k < N → bnth T' k = if k < i then bnth W2 k else bnth T k) ∧ Hid (mr = true → ∃ k, k < N ∧ bnth W2 k ≠ bnth T k) ∧ Hid (mr = false → ∀ k, k < i → bnth W2 k = bnth T k) ∧ Hid (HB wr w.heap.size T') ∧ Hid (OwB wr (w.heap.size + 1) (.slice a1 N c1) V) ∧ Below w.heap.size w wr) (fun sm si _ => N - (intOf si).toNat)
      case atStart => exact ⟨0, T, false, Nat.zero_le _, rfl, rfl, hTl, Lib.hid (fun k hk => by rw [if_neg (by omega)]), Lib.hid (fun h => by cases h), Lib.hid (fun _ k hk => absurd hk (by omega)), HT2, HO1, hbr2⟩
      case round =>
        clear HT2 HO1
        obtain ⟨i, T', mr, hiN, rfl, rfl, hTl', HAt, HM1, HM2, HTq, HOq, hbq⟩ := hrel
        by_cases hlt : i < N
        · obtain ⟨b1, o1, rfl, y1⟩ := HOq.out.at HVl.out hlt
          have HRw := HTq.out.row (B := w.heap.size) hTl' (Nat.le_refl _) (by omega)
          have p1 := (HRw.cellAt i (by omega)).trans (boolsV_get T' (by omega))
          have p2 := HRw.frozenAt i
          have hTi : bnth T' i = bnth T i := by rw [HAt.out i hlt, if_neg (by omega)]
          rw [hTi] at p1
          have hWi := HWat.out i hlt
          have hiNI : (i : Int) < (N : Int) := by omega
          clear HRw
          by_cases hnew : bnth V i = true ∧ bnth T i = false
          · rw [hnew.1] at y1
            rw [hnew.2] at p1
            have hWt : bnth W2 i = true := by rw [hWi, hnew.1]; simp
            have HA2 : Hid (∀ k, k < N → bnth (T'.set i true) k = if k < i + 1 then bnth W2 k else bnth T k) := Lib.hid (fun k hk => by
              rw [bnth_set _ _ _ (by omega)]
              by_cases e : k = i
              · subst e; rw [if_pos rfl, if_pos (by omega), hWt]
              · rw [if_neg e, HAt.out k hk]
                by_cases e2 : k < i
                · rw [if_pos e2, if_pos (by omega)]
                · rw [if_neg e2, if_neg (by omega)])
            have HM : Hid (∃ k, k < N ∧ bnth W2 k ≠ bnth T k) := Lib.hid ⟨i, hlt, by rw [hWt, hnew.2]; decide⟩
            have HTn : Hid (HB (wr.setCell ⟨w.heap.size, i, none⟩ (.bool true)) w.heap.size (T'.set i true)) := Lib.hid (HTq.out.store i true)
            have HOn : Hid (OwB (wr.setCell ⟨w.heap.size, i, none⟩ (.bool true)) (w.heap.size + 1) (.slice (some ⟨b1, o1, none⟩) N c1) V) := Lib.hid (Ow.store_other HOq.out (Nat.lt_succ_self _) _)
            clear hnew hTi hWi hWt
            go_wp2_with fail
            go_roundw
            case rel => exact ⟨i + 1, T'.set i true, true, by omega, by go_num, rfl, by simp; exact hTl', HA2, Lib.hid (fun _ => HM.out), Lib.hid (fun h => by cases h), HTn, HOn, hbq.setCell (Nat.le_refl _) _⟩
            case measure => simp [intOf] <;> omega
          · have hWs : bnth W2 i = bnth T i := by
              rw [hWi]
              cases e1 : bnth V i with
              | false => simp
              | true =>
                cases e2 : bnth T i with
                | true => rfl
                | false => exact absurd ⟨e1, e2⟩ hnew
            have HA2 : Hid (∀ k, k < N → bnth T' k = if k < i + 1 then bnth W2 k else bnth T k) := Lib.hid (fun k hk => by
              rw [HAt.out k hk]
              by_cases e : k = i
              · subst e; rw [if_neg (by omega), if_pos (by omega), hWs]
              · by_cases e2 : k < i
                · rw [if_pos e2, if_pos (by omega)]
                · rw [if_neg e2, if_neg (by omega)])
            have HM2n : Hid (mr = false → ∀ k, k < i + 1 → bnth W2 k = bnth T k) := Lib.hid (fun h k hk => by
              by_cases e : k = i
              · subst e; exact hWs
              · exact HM2.out h k (by omega))
            cases e1 : bnth V i with
            | false =>
              rw [e1] at y1
              clear hnew hTi hWi hWs e1
              go_wp2_with fail
              go_roundw
              case rel => exact ⟨i + 1, T', mr, by omega, by go_num, rfl, hTl', HA2, HM1, HM2n, HTq, HOq, hbq⟩
              case measure => simp [intOf] <;> omega
            | true =>
              have e2 : bnth T i = true := by
                cases e2 : bnth T i with
                | true => rfl
                | false => exact absurd ⟨e1, e2⟩ hnew
              rw [e1] at y1
              rw [e2] at p1
              clear hnew hTi hWi hWs e1 e2
              go_wp2_with fail
              go_roundw
              case rel => exact ⟨i + 1, T', mr, by omega, by go_num, rfl, hTl', HA2, HM1, HM2n, HTq, HOq, hbq⟩
              case measure => simp [intOf] <;> omega
        · obtain rfl : i = N := by omega
          have hTW : T' = W2 := bl_ext (by omega) fun k hk => by rw [HAt.out k (by omega), if_pos (by omega)]
          subst hTW
          have HcN : Hid (cntB wr w.heap.size = T'.count true) := Lib.hid (cntB_of HTq.out)
          have HWcc : Hid (T'.count true ≤ i) := Lib.hid (by have := HWle.out; omega)
          cases mr with
          | true =>
            obtain ⟨k, hk, hne⟩ := HM1.out rfl
            have hcc : T.count true < T'.count true := by
              rcases HWc.out with e | e
              · exact absurd (by rw [e]) hne
              · exact e
            have HJ : Hid (T' = iterB F (j + 1) S) := Lib.hid (by rw [HW2.out, HTj.out]; rfl)
            have hjn : j + 1 ≤ T'.count true := by omega
            have HCC := Lib.hid hcc
            clear hne hcc
            go_wp2_with fail
            go_roundw
            case rel => exact ⟨j + 1, T', true, rfl, hTl', HJ, hjn, Lib.hid (fun h => by cases h), HTq, hbq⟩
            case measure =>
              have h1 := HcN.out
              have h2 := HcO.out
              have h3 := HCC.out
              have h4 := HWcc.out
              rw [h1, h2]
              simp only [boolN]
              omega
          | false =>
            have e : T' = T := bl_ext (by omega) fun k hk => HM2.out rfl k (by omega)
            have HStab : Hid (stepB F T = T) := Lib.hid (by rw [← HW2.out, e])
            have HTT : Hid (HB wr w.heap.size T) := Lib.hid (by rw [← e]; exact HTq.out)
            have HcT : Hid (cntB wr w.heap.size = T.count true) := Lib.hid (cntB_of HTT.out)
            clear e
            go_wp2_with fail
            go_roundw
            case rel => exact ⟨j, T, false, rfl, hTl, HTj, hjc, Lib.hid (fun _ => HStab.out), HTT, hbq⟩
            case measure =>
              have h1 := HcT.out
              have h2 := HcO.out
              rw [h1, h2]
              simp only [boolN]
              omega
end Go.Proofs.YtcakmchefbohoaaGreatDoor
