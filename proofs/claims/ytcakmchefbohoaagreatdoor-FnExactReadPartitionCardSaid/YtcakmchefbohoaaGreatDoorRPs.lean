/- Contracts: ReadPartition, of the reference. -/
import Derived.Test.YtcakmchefbohoaaGreatDoorProg
import Derived.Test.YtcakmchefbohoaaGreatDoorMem
import Derived.Test.YtcakmchefbohoaaGreatDoorMath
import Derived.Test.YtcakmchefbohoaaGreatDoorBasics
import Derived.Test.YtcakmchefbohoaaGreatDoorHelpI
import Derived.Test.YtcakmchefbohoaaGreatDoorHelpII
import Derived.Test.YtcakmchefbohoaaGreatDoorOpenI
import Derived.Test.YtcakmchefbohoaaGreatDoorGrid
import Derived.Test.YtcakmchefbohoaaGreatDoorPart
import Derived.Test.YtcakmchefbohoaaGreatDoorPartW
import Derived.Test.YtcakmchefbohoaaGreatDoorBlocks
import Derived.Test.YtcakmchefbohoaaGreatDoorShelf
import Derived.Test.YtcakmchefbohoaaGreatDoorDec
import Derived.Test.YtcakmchefbohoaaGreatDoorNum
import Derived.Test.YtcakmchefbohoaaGreatDoorText
import Derived.Test.YtcakmchefbohoaaGreatDoorLab
import Derived.Test.YtcakmchefbohoaaGreatDoorRead
import Derived.Test.YtcakmchefbohoaaGreatDoorSplit
import Derived.Test.YtcakmchefbohoaaGreatDoorFld
import Derived.Test.YtcakmchefbohoaaGreatDoorList
import Derived.Test.YtcakmchefbohoaaGreatDoorEnv
import Derived.Test.YtcakmchefbohoaaGreatDoorNumbers
import Derived.Test.YtcakmchefbohoaaGreatDoorPText
import Derived.Test.YtcakmchefbohoaaGreatDoorWords
import Derived.Test.YtcakmchefbohoaaGreatDoorFrom
import Derived.Test.YtcakmchefbohoaaGreatDoorFromI
import Derived.Test.YtcakmchefbohoaaGreatDoorRPt
import Derived.Test.YtcakmchefbohoaaGreatDoorRPi
import Derived.WalkKit
import Derived.BigQuiet
import Derived.Maps.AppendAt
import Derived.Lib.Hide
import Derived.Outline
set_option linter.unusedVariables false
set_option linter.unusedSimpArgs false
namespace Go.Proofs.YtcakmchefbohoaaGreatDoor
open Go.RowKit

theorem rpB_total (s : ByteArray) : total (rpB s) ≤ 2 * s.size + 2 := by
  unfold total
  rw [offs_sum _ _ (Nat.le_refl _), List.take_length]
  have h1 : ∀ L : List ByteArray, ((L.map fun p => numsV (wordsB 32 p)).map List.length).sum ≤ (L.map ByteArray.size).sum + L.length := by
    intro L
    induction L with
    | nil => simp
    | cons p q ih =>
      have := wordsB_length 32 p
      simp only [List.map_cons, List.sum_cons, List.length_cons, numsV_length]
      omega
  have h2 := h1 (rpP s)
  have h3 : ((rpP s).map ByteArray.size).sum = ((splitD 124 s.data.toList).map List.length).sum := by
    unfold rpP wordsB
    rw [List.map_map]
    rfl
  have h4 := pieces_len 124 s.data.toList
  have h5 := wordsB_length 124 s
  have h6 : s.data.toList.length = s.size := by rw [Array.length_toList]; rfl
  unfold rpB
  unfold rpP at h2 h3 ⊢
  omega
set_option maxRecDepth 100000 in
set_option maxHeartbeats 8000000 in
theorem spec_ReadPartition_any (s : ByteArray) (w : World) (hs : s.size ≤ 1048576) :
    Calls Tryz.prog 29 #[.string s] w fun e w' => ∃ u, e = .returned (.tuple #[u, .bool (rpGood s)]) ∧ OwI w' w.heap.size u (rpOut s) ∧ Below w.heap.size w w' := by
  obtain ⟨W, hW⟩ : ∃ W, W = rpP s := ⟨_, rfl⟩
  have HW := Lib.hid hW
  have hWl : W.length ≤ 1048577 := by rw [hW]; have := wordsB_length 124 s; unfold rpP; omega
  have HWs : Hid (∀ k, k < W.length → (snth W k).size ≤ 1048576) := Lib.hid (by rw [hW]; intro k hk; have := snth_word (c := 124) (s := s) hk; unfold rpP; omega)
  have HBI : Hid (rpB s = W.map fun p => numsV (wordsB 32 p)) := Lib.hid (by rw [hW]; rfl)
  have HTo : Hid (∀ k, k ≤ W.length → offs (rpB s) k ≤ 2097154) := Lib.hid (fun k hk => by
    have h1 := rpB_total s
    have h2 := offs_mono (rpB s) (show k ≤ (rpB s).length by rw [HBI.out, List.length_map]; exact hk)
    unfold total at h1
    omega)
  obtain ⟨i0, hi, hz0, hz1, hz2⟩ := info_parts infoISr
  obtain ⟨j0, gi, gz0, gz1, gz2⟩ := info_parts infoI64
  clear hW
  go_enter Tryz.func29, Tryz.ntmps29
  go_wp2_with fail
  refine (l01Split_any s 124 124 _ rfl hs).mono ?_
  rintro e w0 ⟨u0, rfl, hu0, hb0⟩
  have HR : Hid (RdS w0 u0 W) := Lib.hid (by rw [HW.out]; exact hu0.rd)
  obtain ⟨M, hM⟩ : ∃ M, M = W.length := ⟨_, rfl⟩
  have HM := Lib.hid hM
  obtain ⟨a0, c0, ea0⟩ := HR.out.slice
  rw [← hM] at ea0 HTo hWl
  subst ea0
  clear hM hu0
  have hbA := fun x => hb0.alloc hb0.size x
  go_wp2_with fail
  go_loopw [5, 6, 7] (fun so sn si wr => ∃ k : Nat, k ≤ M ∧ si = .int .i64 k ∧ sn = .int .i64 (offs (rpB s) k) ∧ OwG wr w0.heap.size 47 so ((rpB s).take k) ∧ Hid (∀ i, i < k → canons (wordsB 32 (snth W i)) = true) ∧ Below w0.heap.size w0 wr) (fun _ _ si _ => M - (intOf si).toNat)
  case atStart => exact ⟨0, Nat.zero_le _, rfl, rfl, by rw [List.take_zero]; exact OwG_made _ _ _ (Nat.le_refl _), Lib.hid (fun i h => absurd h (by omega)), (Below.refl _ _).alloc (Nat.le_refl _) _⟩
  case round =>
    obtain ⟨k, hk, rfl, rfl, hG, HCN, hbl⟩ := hrel
    have hto := HTo.out k hk
    by_cases hlt : k < M
    · have hkW : k < W.length := by rw [← HM.out]; exact hlt
      obtain ⟨_, _, ec, _, _, hc0⟩ := HR.out
      cases ec
      obtain ⟨bp, op, rfl, hbp, hcp⟩ := hc0 (by omega)
      have g0 : wr.cell? ⟨bp, op + k, none⟩ = some (.string (snth W k)) := (hbl.cell (p := ⟨bp, op + k, none⟩) hbp).trans (hcp k (by omega))
      have hps := HWs.out k hkW
      have hto2 := HTo.out (k + 1) hlt
      have hoff := offs_row W (fun p => numsV (wordsB 32 p)) hkW
      rw [← HBI.out] at hoff
      have htk := rows_take W (fun p => numsV (wordsB 32 p)) hkW
      rw [← HBI.out] at htk
      obtain ⟨P, hP⟩ : ∃ P, P = snth W k := ⟨_, rfl⟩
      have HP := Lib.hid hP
      rw [← hP] at g0 hps hoff htk
      simp only [numsV_length] at hoff
      have Hoff := Lib.hid hoff
      have Htk := Lib.hid htk
      have hwl := wordsB_length 32 P
      have Hws : Hid (∀ q, q < (wordsB 32 P).length → (snth (wordsB 32 P) q).size ≤ 281474976710656) := Lib.hid (fun q hq => by have := snth_word hq; omega)
      rw [hoff] at hto2
      have hXl : ((rpB s).take k).length = k := by rw [List.length_take, HBI.out, List.length_map]; omega
      obtain ⟨ao, co, hso⟩ := hG.len
      rw [hXl] at hso
      subst hso
      obtain ⟨vs, hGv⟩ := hG
      have HGv := Lib.hid hGv
      have HXl := Lib.hid hXl
      obtain ⟨O, hO⟩ : ∃ O, O = offs (rpB s) k := ⟨_, rfl⟩
      rw [← hO] at hto hto2 Hoff ⊢
      obtain ⟨wo, hwo⟩ : ∃ wo : World, wo = wr := ⟨_, rfl⟩
      rw [← hwo] at hbl g0 HGv ⊢
      clear hP hoff htk hGv hXl hO hwo hcp hc0
      go_wp2_with fail
      refine (l01Split_any P 32 32 _ rfl hps).mono ?_
      rintro e w2 ⟨u2, rfl, hu2, hb2⟩
      obtain ⟨X, hX⟩ : ∃ X, X = wordsB 32 P := ⟨_, rfl⟩
      have HX := Lib.hid hX
      rw [← hX] at hu2 hwl Hws hto2 Hoff Htk
      obtain ⟨N, hN⟩ : ∃ N, N = X.length := ⟨_, rfl⟩
      have HN := Lib.hid hN
      have hRX := hu2.rd
      obtain ⟨a2, c2, ea2⟩ := hRX.slice
      rw [← hN] at ea2 hwl hto2 Hoff
      subst ea2
      have HRX := Lib.hid hRX
      have hbl2 := below_trans' hbl hb2
      have hs2 := hb2.size
      clear hX hN hu2 hRX
      go_wp2_with fail
      go_loopw [6, 9, 10] (fun sn sk sj wi => ∃ j : Nat, j ≤ N ∧ sj = .int .i64 j ∧ sn = .int .i64 ((O + j : Nat) : Int) ∧ Hid (canons (X.take j) = true) ∧ Hid (wi.ownsRow w2.heap.size 2 1 sk j ((numsV (X.take j)).map (Value.int .i64))) ∧ Below w2.heap.size w2 wi) (fun _ _ sj _ => N - (intOf sj).toNat)
      case atStart => exact ⟨0, Nat.zero_le _, rfl, by simp, Lib.hid rfl, Lib.hid (World.ownsRow_made _ #[] 0 (Nat.le_refl _) (by unfold maxLen; omega) rfl), (Below.refl _ _).alloc (Nat.le_refl _) _⟩
      case round =>
        obtain ⟨j, hj, rfl, rfl, HL, HO, hbi⟩ := hrel
        obtain ⟨a5, c5, rfl⟩ := owned_slice HO.out
        by_cases hjl : j < N
        · have hjX : j < X.length := by rw [← HN.out]; exact hjl
          obtain ⟨_, _, ec, _, _, hcx⟩ := HRX.out
          cases ec
          obtain ⟨bx, ox, rfl, hbx, hcx⟩ := hcx (by omega)
          have g1 : wr.cell? ⟨bx, ox + j, none⟩ = some (.string (snth X j)) := (hbi.cell (p := ⟨bx, ox + j, none⟩) hbx).trans (hcx j (by omega))
          have hxs := Hws.out j hjX
          obtain ⟨x, hx⟩ : ∃ x, x = snth X j := ⟨_, rfl⟩
          have Hx := Lib.hid hx
          rw [← hx] at g1 hxs
          clear hx hcx
          cases hp : canon x.data.toList with
          | true =>
            have HL2 := Lib.hid (canons_next (k := j) hjX HL.out (by rw [← Hx.out]; exact hp))
            have HN2 : Hid (numsV (X.take (j + 1)) = numsV (X.take j) ++ [rdN x]) := Lib.hid (by rw [numsV_next hjX (by rw [← Hx.out]; exact hp), Hx.out])
            have hwn : (((O + j : Nat) : Int) + 1) = ((O + (j + 1) : Nat) : Int) := by omega
            go_wp2_with fail
            refine (l01Number_any x _ hxs).mono ?_
            rw [hp]
            rintro e w' ⟨rfl, rfl⟩
            clear HL hp
            go_wp2_with (at_builtin; refine wpList_append_own_at _ rfl _ _ 47 rfl w2.heap.size 2 j0 (.int .i64 0) 1 8 Tryz.underlying47 gi gz0 gz1 gz2 rfl (by decide) _ j _ rfl (HO.out.alloc _) ⟨wr.heap.size, 0, none⟩ 1 1 [.int .i64 (rdN x)] rfl rfl (new_cell _ _ _ _ rfl) (by simp [Value.oneCell']) ?c2 ?c3 ?c4 ?_)
            case c2 => unfold maxLen; omega
            case c3 => omega
            case c4 => have := hbi.size; first | omega | (simp; omega)
            intro v' w5 hown' hgrow hnil hloc
            have hbi2 : Below w2.heap.size w2 w5 := (hbi.alloc hbi.size _).grown hgrow (by have := hbi.size; first | omega | (simp; omega)) (fun q hq => (HO.out.lt q hq).1)
            have HO2 : Hid (w5.ownsRow w2.heap.size 2 1 v' (j + 1) ((numsV (X.take (j + 1))).map (Value.int .i64))) := by
              refine Lib.hid ?_
              rw [HN2.out, List.map_append]
              exact hown'
            clear hown' hgrow hnil hloc HO
            go_wp2_with fail
            go_roundw
            case rel => exact ⟨j + 1, by omega, by go_num, by rw [← hwn]; go_num, HL2, HO2, hbi2⟩
            case measure => simp [intOf]; omega
          | false =>
            have HF := Lib.hid (rp_parse_bad (ok_hit (s := s) (k := k) (by rw [← HW.out]; exact hkW) (by rw [← HW.out, ← HP.out, ← HX.out]; exact canons_hit hjX (by rw [← Hx.out]; exact hp))))
            have HE := Lib.hid (rp_bad HF.out)
            go_wp2_with fail
            refine (l01Number_any x _ hxs).mono ?_
            rw [hp]
            rintro e w' ⟨rfl, rfl⟩
            go_wp2_with fail
            go_ret2
            exact ⟨_, by rw [HF.out]; rfl, by rw [HE.out]; exact OwI_nil _ _, below_trans' hb0 (below_trans' hbl2 hbi)⟩
        · obtain rfl : j = N := by omega
          have HXT : Hid (X.take j = X) := Lib.hid (List.take_of_length_le (by rw [HN.out]; exact Nat.le_refl _))
          have HCN2 : Hid (∀ i, i < k + 1 → canons (wordsB 32 (snth W i)) = true) := Lib.hid (fun i hi' => by
            by_cases e : i = k
            · rw [e, ← HP.out, ← HX.out, ← HXT.out]; exact HL.out
            · exact HCN.out i (by omega))
          have hown := HO.out
          rw [HXT.out] at hown
          have hxi := ownsRow_inI hown
          have Hxi := Lib.hid hxi
          have hbo : Below wo.heap.size wo wr := below_trans' hb2 hbi
          have hbw := below_trans' hbl2 hbi
          have hown2 : wr.ownsRow w0.heap.size 47 1 (.slice ao k co) k vs := by
            have := ownsRow_below HGv.out.own hbo
            rwa [HXl.out] at this
          have hs3 := hbi.size
          have hsl := hbl.size
          have hjn : (numsV X).length = j := by rw [numsV_length, ← HN.out]
          have Hjn := Lib.hid hjn
          have hwn : ((O + j : Nat) : Int) = ((offs (rpB s) (k + 1) : Nat) : Int) := by rw [Hoff.out]
          clear HO HL hown hxi hjn
          go_wp2_with (at_builtin; refine wpList_append_own_at _ rfl _ _ 89 rfl w0.heap.size 47 i0 (.slice none 0 0) 1 24 Tryz.underlying89 hi hz0 hz1 hz2 rfl (by decide) _ _ _ rfl (hown2.alloc _) ⟨wr.heap.size, 0, none⟩ 1 1 [.slice a5 j c5] rfl rfl ?d1 (oneCell_slice _ _ _) ?d2 ?d3 ?d4 ?_)
          case d1 => exact cell_one_new' _ _ _ _ rfl
          case d2 => unfold maxLen; omega
          case d3 => omega
          case d4 => simp; omega
          intro v' w4 rown rgrow rnil rloc
          have hG2 : OwG w4 w0.heap.size 47 v' ((rpB s).take (k + 1)) := by
            rw [Htk.out]
            exact HGv.out.append (hbo.alloc hbo.size _) (((InI_lower (Hxi.out.below ((Below.refl _ _).alloc (Nat.le_refl _) _) (Nat.le_refl _)) hs2)).widen (by simp)) hbl.size (by rw [HXl.out]; exact rown) rgrow (rloc.imp id fun e => ⟨_, e, by simp⟩)
          have hb4 : Below w0.heap.size w0 w4 := (hbw.alloc hbw.size _).grown rgrow (by simp; omega) (fun q hq => (hown2.lt q hq).1)
          clear rown rgrow rnil rloc hown2
          go_wp2_with fail
          go_roundw
          case rel => exact ⟨k + 1, by omega, by go_num, by rw [← hwn], hG2, HCN2, hb4⟩
          case measure => simp [intOf]; omega
    · have hkM : k = M := by omega
      have hWL : (rpB s).length = M := by rw [HBI.out, List.length_map, HM.out]
      rw [List.take_of_length_le (by omega)] at hG
      have hbw := below_trans' hb0 hbl
      have hin := hG.inn hbl.size
      have HRD := Lib.hid hin.rd
      obtain ⟨ao, co, hso⟩ := hG.len
      subst hso
      have HOK : Hid (rpOk s = true) := Lib.hid (ok_all fun q hq => by rw [← HW.out]; exact HCN.out q (by rw [hkM, HM.out, HW.out]; exact hq))
      have hoT : Hid ((offs (rpB s) k : Int) = tot2 (rpB s)) := Lib.hid (by unfold tot2 total; rw [hkM, hWL])
      obtain ⟨B, hB⟩ : ∃ B, B = rpB s := ⟨_, rfl⟩
      have HBs := Lib.hid hB
      rw [← hB] at HRD hoT ⊢
      rw [hoT.out]
      obtain ⟨T, hTq⟩ : ∃ T, T = tot2 B := ⟨_, rfl⟩
      have HTq := Lib.hid hTq
      rw [← hTq]
      clear hG hin hkM hWL hB hTq hto
      cases k0 : decide (fbCode T B = 0) with
      | false =>
        have hne : fbCode T B ≠ 0 := of_decide_eq_false k0
        have HF := Lib.hid (rp_code_bad (s := s) (by rw [← HBs.out, ← HTq.out]; exact hne))
        have HE := Lib.hid (rp_bad HF.out)
        obtain ⟨C, hC⟩ : ∃ C, C = fbCode T B := ⟨_, rfl⟩
        have HC2 := Lib.hid hC
        have hCb : (C != 0) = true := by simpa [hC] using hne
        clear k0 hne hC
        go_wp2_with fail
        refine (spec_FromBlocks_any T _ B _ HRD.out).mono ?_
        rw [← HC2.out]
        rintro e w2 ⟨u, rfl, hu, hb2⟩
        go_wp2_with fail
        go_ret2
        exact ⟨_, by rw [HF.out]; rfl, by rw [HE.out]; exact OwI_nil _ _, below_trans' hbw hb2⟩
      | true =>
        have heq : fbCode T B = 0 := of_decide_eq_true k0
        have hpt := fb_part heq
        have HX := Lib.hid heq
        obtain ⟨Q, hQ⟩ : ∃ Q, Q = fbOut T B := ⟨_, rfl⟩
        have HQ := Lib.hid hQ
        rw [← hQ] at hpt
        have HS0 : Hid (ba (rowsT (blocksL Q)) = partText Q) := Lib.hid (by unfold partText; rw [if_pos hpt])
        have HPT := Lib.hid hpt
        clear k0 heq hQ hpt
        have hlt' := beq_text (partText Q) s
        by_cases ht : partText Q = s
        · have hG2 := rp_good (s := s) HOK.out (by rw [← HBs.out, ← HTq.out]; exact HX.out) (by rw [← HBs.out, ← HTq.out, ← HQ.out]; exact ht)
          have HF := Lib.hid hG2.1
          have HE : Hid (rpOut s = Q) := Lib.hid (by rw [hG2.2, ← HBs.out, ← HTq.out, ← HQ.out])
          rw [decide_eq_true ht] at hlt'
          obtain ⟨S, hS⟩ : ∃ S, S = partText Q := ⟨_, rfl⟩
          have HS := Lib.hid hS
          rw [← hS] at hlt'
          clear hG2 ht hS
          go_wp2_with fail
          refine (spec_FromBlocks_any T _ B _ HRD.out).mono ?_
          rw [HX.out, ← HQ.out]
          rintro e w2 ⟨u, rfl, hu, hb2⟩
          obtain ⟨a2, c2, rfl⟩ := hu.rd.slice
          have HU := Lib.hid hu
          have hbw2 := below_trans' hbw hb2
          clear hu
          go_wp2_with fail
          refine (l02Text_any _ Q _ HPT.out HU.out.rd).mono ?_
          rw [HS0.out, ← HS.out]
          rintro e w3 ⟨rfl, hb3⟩
          have hsz2 := hbw.size
          go_wp2_with fail
          go_ret2
          exact ⟨_, by rw [HF.out]; rfl, by rw [HE.out]; exact (OwI.mono' HU.out hsz2).below hb3, below_trans' hbw2 hb3⟩
        · have HF := Lib.hid (rp_text_bad (s := s) (by rw [← HBs.out, ← HTq.out, ← HQ.out]; exact ht))
          have HE := Lib.hid (rp_bad HF.out)
          rw [decide_eq_false ht] at hlt'
          obtain ⟨S, hS⟩ : ∃ S, S = partText Q := ⟨_, rfl⟩
          have HS := Lib.hid hS
          rw [← hS] at hlt'
          clear ht hS
          go_wp2_with fail
          refine (spec_FromBlocks_any T _ B _ HRD.out).mono ?_
          rw [HX.out, ← HQ.out]
          rintro e w2 ⟨u, rfl, hu, hb2⟩
          obtain ⟨a2, c2, rfl⟩ := hu.rd.slice
          have HU := Lib.hid hu
          have hbw2 := below_trans' hbw hb2
          clear hu
          go_wp2_with fail
          refine (l02Text_any _ Q _ HPT.out HU.out.rd).mono ?_
          rw [HS0.out, ← HS.out]
          rintro e w3 ⟨rfl, hb3⟩
          go_wp2_with fail
          go_ret2
          exact ⟨_, by rw [HF.out]; rfl, by rw [HE.out]; exact OwI_nil _ _, below_trans' hbw2 hb3⟩
end Go.Proofs.YtcakmchefbohoaaGreatDoor
