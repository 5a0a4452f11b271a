/- Contracts: ReadPartition, of the program and of the reference. -/
import Derived.Test.YtcakmchefbohoaaGreatDoorProg
import Derived.Test.YtcakmchefbohoaaGreatDoorMem
import Derived.Test.YtcakmchefbohoaaGreatDoorMath
import Derived.Test.YtcakmchefbohoaaGreatDoorBasics
import Derived.Test.YtcakmchefbohoaaGreatDoorHelpI
import Derived.Test.YtcakmchefbohoaaGreatDoorHelpII
import Derived.Test.YtcakmchefbohoaaGreatDoorOpenI
import Derived.Test.YtcakmchefbohoaaGreatDoorGrid
import Derived.Test.YtcakmchefbohoaaGreatDoorPart
import Derived.Test.YtcakmchefbohoaaGreatDoorPartW
import Derived.Test.YtcakmchefbohoaaGreatDoorBlocks
import Derived.Test.YtcakmchefbohoaaGreatDoorShelf
import Derived.Test.YtcakmchefbohoaaGreatDoorDec
import Derived.Test.YtcakmchefbohoaaGreatDoorNum
import Derived.Test.YtcakmchefbohoaaGreatDoorText
import Derived.Test.YtcakmchefbohoaaGreatDoorLab
import Derived.Test.YtcakmchefbohoaaGreatDoorRead
import Derived.Test.YtcakmchefbohoaaGreatDoorSplit
import Derived.Test.YtcakmchefbohoaaGreatDoorFld
import Derived.Test.YtcakmchefbohoaaGreatDoorList
import Derived.Test.YtcakmchefbohoaaGreatDoorEnv
import Derived.Test.YtcakmchefbohoaaGreatDoorNumbers
import Derived.Test.YtcakmchefbohoaaGreatDoorPText
import Derived.Test.YtcakmchefbohoaaGreatDoorWords
import Derived.Test.YtcakmchefbohoaaGreatDoorFrom
import Derived.Test.YtcakmchefbohoaaGreatDoorFromI
import Derived.Test.YtcakmchefbohoaaGreatDoorRPt
import Derived.WalkKit
import Derived.BigQuiet
import Derived.Maps.AppendAt
import Derived.Lib.Hide
import Derived.Outline
set_option linter.unusedVariables false
set_option linter.unusedSimpArgs false
namespace Go.Proofs.YtcakmchefbohoaaGreatDoor
open Go.RowKit

theorem rpB_i64 {B : List (List Int)} {n : Int} (h : fbCode n B = 0) : I64s (fbOut n B) ∧ (fbOut n B).length ≤ 1048576 := by
  have hp := fb_part h
  have hl := (isPart_iff.1 hp).2.1
  refine ⟨fun x hx => ?_, by omega⟩
  obtain ⟨i, hi, rfl⟩ := List.getElem_of_mem hx
  have := part_bd hp i hi
  rw [nth_eq _ _ hi] at this
  omega
theorem rows_take {α : Type} (W : List ByteArray) (F : ByteArray → α) {k : Nat} (h : k < W.length) : (W.map F).take (k + 1) = (W.map F).take k ++ [F (snth W k)] := by
  rw [← List.map_take, ← List.map_take, take_snth W k h, List.map_append]; rfl
theorem offs_of_take (B : List (List Int)) {k : Nat} (h : k ≤ B.length) : offs B k = total (B.take k) := by
  rw [offs_sum B k h]
  unfold total
  rw [offs_sum _ _ (Nat.le_refl _), List.take_length]
theorem offs_row (W : List ByteArray) (F : ByteArray → List Int) {k : Nat} (h : k < W.length) : offs (W.map F) (k + 1) = offs (W.map F) k + (F (snth W k)).length := by
  rw [offs]
  congr 2
  rw [rnth_eq _ _ (by rw [List.length_map]; exact h), List.getElem_map, snth_eq _ _ h]
theorem okI_hit {s : ByteArray} {k : Nat} (h : k < (rpP s).length) (hp : canons (wordsF (snth (rpP s) k)) = false) : rpOkI s = false := by
  cases hq : rpOkI s with
  | false => rfl
  | true =>
    have := List.all_eq_true.1 hq (snth (rpP s) k) (by rw [snth_eq _ _ h]; exact List.getElem_mem h)
    rw [hp] at this; cases this
theorem ok_hit {s : ByteArray} {k : Nat} (h : k < (rpP s).length) (hp : canons (wordsB 32 (snth (rpP s) k)) = false) : rpOk s = false := by
  cases hq : rpOk s with
  | false => rfl
  | true =>
    have := List.all_eq_true.1 hq (snth (rpP s) k) (by rw [snth_eq _ _ h]; exact List.getElem_mem h)
    rw [hp] at this; cases this
theorem ok_all {s : ByteArray} (h : ∀ k, k < (rpP s).length → canons (wordsB 32 (snth (rpP s) k)) = true) : rpOk s = true :=
  List.all_eq_true.2 fun x hx => by
    obtain ⟨k, hk, rfl⟩ := List.getElem_of_mem hx
    have := h k hk
    rwa [snth_eq _ _ hk] at this
theorem InI_lower {w : World} {lo lo' hi : Nat} {v : Value} {xs : List Int} (h : InI w lo hi v xs) (hl : lo' ≤ lo) : InI w lo' hi v xs := by
  obtain ⟨a, cap, rfl, h1, h2, h3⟩ := h
  refine ⟨a, cap, rfl, h1, h2, fun hn => ?_⟩
  obtain ⟨b, o, rfl, p1, p2, p3, p4⟩ := h3 hn
  exact ⟨b, o, rfl, Nat.le_trans hl p1, p2, p3, p4⟩
theorem infoISr : (Tryz.prog.info? 47).map (fun i => (i.zero, i.size, i.bytes)) = some (some (.slice none 0 0), 1, 24) := by kernel_rfl
set_option maxRecDepth 100000 in
set_option maxHeartbeats 4000000 in
theorem ReadPartition_any (s : ByteArray) (w : World) (hs : s.size ≤ 1048576) (hT : Env w) :
    Calls Tryz.prog 30 #[.string s] w fun e w' => ∃ u, e = .returned (.tuple #[u, .bool (rpGood s)]) ∧ OwI w' w.heap.size u (rpOut s) ∧ Below w.heap.size w w' := by
  obtain ⟨W, hW⟩ : ∃ W, W = rpP s := ⟨_, rfl⟩
  have HW := Lib.hid hW
  have HC : Hid (Lib.countB s ⟨#[124]⟩ + 1 = W.length) := Lib.hid (by rw [countB_one, hW]; rfl)
  have HB : Hid (Lib.splitB ⟨#[124]⟩ 0 (Lib.countB s ⟨#[124]⟩) s = W) := Lib.hid (by rw [splitB_one, hW]; rfl)
  have hWl : W.length ≤ 1048577 := by rw [hW]; have := wordsB_length 124 s; unfold rpP; omega
  have HWs : Hid (∀ k, k < W.length → (snth W k).size ≤ 1048576) := Lib.hid (by rw [hW]; intro k hk; have := snth_word (c := 124) (s := s) hk; unfold rpP; omega)
  have HBI : Hid (rpBI s = W.map fun p => numsV (wordsF p)) := Lib.hid (by rw [hW]; rfl)
  have HTo : Hid (∀ k, k ≤ W.length → offs (rpBI s) k ≤ 2097154) := Lib.hid (fun k hk => by
    have h1 := rp_total s
    have h2 := offs_mono (rpBI s) (show k ≤ (rpBI s).length by rw [HBI.out, List.length_map]; exact hk)
    unfold total at h1
    omega)
  have HT := Lib.hid hT
  obtain ⟨i0, hi, hz0, hz1, hz2⟩ := info_parts infoISr
  obtain ⟨m, hmx⟩ := hT.2
  clear hT hW
  go_enter Tryz.func30, Tryz.ntmps30
  go_wp2_with fail
  refine (Tryz_strings_Split s _ m _ (by omega) hmx (by decide)).mono ?_
  rw [HB.out, HC.out]
  rintro e w' ⟨rfl, rfl⟩
  have hbA : Below w.heap.size w (w.alloc (.cells ((W.map Value.string).toArray) 9)) := (Below.refl _ _).alloc (Nat.le_refl _) _
  have HR : Hid (RdS (w.alloc (.cells ((W.map Value.string).toArray) 9)) (.slice (some ⟨w.heap.size, 0, none⟩) W.length W.length) W) := Lib.hid (by rw [HW.out]; exact (rd_words (c := 124) hs).rd)
  have hgl : w.heap.size < (w.alloc (.cells ((W.map Value.string).toArray) 9)).heap.size := by simp
  have HT1 := Lib.hid (HT.out.below hbA)
  have hsz : w.heap.size ≤ (w.alloc (.cells ((W.map Value.string).toArray) 9)).heap.size := hbA.size
  obtain ⟨M, hM⟩ : ∃ M, M = W.length := ⟨_, rfl⟩
  rw [← hM] at HR HTo hWl ⊢
  have HM := Lib.hid hM
  clear hM
  obtain ⟨G0, hG0⟩ : ∃ g, g = w.heap.size := ⟨_, rfl⟩
  rw [← hG0] at HR hgl ⊢
  generalize w.alloc (.cells ((W.map Value.string).toArray) 9) = w1 at *
  have hc0 := HR.out
  rw [HM.out] at hc0
  obtain ⟨_, _, ec, _, _, hc0⟩ := hc0
  cases ec
  have HCL : Hid (∀ k, k < M → w1.cell? ⟨G0, k, none⟩ = some (.string (snth W k))) := Lib.hid (fun k hk => by
    obtain ⟨b, o, eb, _, h⟩ := hc0 (by rw [← HM.out]; omega)
    cases eb
    have := h k (by rw [← HM.out]; omega)
    rwa [Nat.zero_add] at this)
  clear hmx hc0 hG0 HT
  go_wp2_with fail
  go_loopw [4, 5, 15] (fun so sn si wr => ∃ k : Nat, k ≤ M ∧ si = .int .i64 k ∧ sn = .int .i64 (offs (rpBI s) k) ∧ OwG wr w1.heap.size 47 so ((rpBI s).take k) ∧ Below w1.heap.size w1 wr) (fun _ _ si _ => M - (intOf si).toNat)
  case atStart => exact ⟨0, Nat.zero_le _, rfl, rfl, by rw [List.take_zero]; exact OwG_nil _ _ _, Below.refl _ _⟩
  case round =>
    obtain ⟨k, hk, rfl, rfl, hG, hbl⟩ := hrel
    have hto := HTo.out k hk
    by_cases hlt : k < M
    · have hkW : k < W.length := by rw [← HM.out]; exact hlt
      have g0 := (hbl.cell (p := ⟨G0, k, none⟩) hgl).trans (HCL.out k hlt)
      have hps := HWs.out k hkW
      have hto2 := HTo.out (k + 1) hlt
      have hoff := offs_row W (fun p => numsV (wordsF p)) hkW
      rw [← HBI.out] at hoff
      have htk := rows_take W (fun p => numsV (wordsF p)) hkW
      rw [← HBI.out] at htk
      obtain ⟨P, hP⟩ : ∃ P, P = snth W k := ⟨_, rfl⟩
      have HP := Lib.hid hP
      rw [← hP] at g0 hps hoff htk
      simp only [numsV_length] at hoff
      have Hoff := Lib.hid hoff
      have Htk := Lib.hid htk
      have hbw : Below w.heap.size w wr := below_trans' hbA hbl
      have hwl := wordsF_len2 P
      have hws : ∀ q, q < (wordsF P).length → (snth (wordsF P) q).size ≤ 1048576 := fun q hq => by
        have hm : snth (wordsF P) q ∈ wordsF P := by rw [snth_eq _ _ hq]; exact List.getElem_mem hq
        have := wordsB_piece 32 P _ (List.mem_filter.1 hm).1
        omega
      have Hws := Lib.hid hws
      rw [hoff] at hto2
      have hXl : ((rpBI s).take k).length = k := by rw [List.length_take, HBI.out, List.length_map]; omega
      obtain ⟨ao, co, hso⟩ := hG.len
      rw [hXl] at hso
      subst hso
      obtain ⟨vs, hGv⟩ := hG
      have HGv := Lib.hid hGv
      have HXl := Lib.hid hXl
      obtain ⟨O, hO⟩ : ∃ O, O = offs (rpBI s) k := ⟨_, rfl⟩
      rw [← hO] at hto hto2 Hoff ⊢
      clear hP hws hoff htk hGv hXl hO
      go_wp2_with fail
      refine (SplitWords_any P _ hps).mono ?_
      rintro e w2 ⟨u, rfl, hu, hb2⟩
      have HU := Lib.hid hu
      obtain ⟨au, cu, rfl⟩ := hu.rd.slice
      have hbl2 := below_trans' hbl hb2
      clear hu
      cases hcn : canons (wordsF P) with
      | false =>
        have HF := Lib.hid (rpI_parse_bad (okI_hit (s := s) (k := k) (by rw [← HW.out]; exact hkW) (by rw [← HW.out, ← HP.out]; exact hcn)))
        have HE := Lib.hid (rp_bad HF.out)
        go_wp2_with fail
        refine (readNumbers_any _ (wordsF P) _ (by omega) Hws.out (HT1.out.below hbl2).1 HU.out.rd).mono ?_
        rw [hcn]
        rintro e w3 ⟨u3, rfl, hu3, hb3⟩
        go_wp2_with fail
        go_ret2
        exact ⟨_, by rw [HF.out]; rfl, by rw [HE.out]; exact OwI_nil _ _, below_trans' hbA (below_trans' hbl2 hb3)⟩
      | true =>
        have HE : Hid (numsOr (wordsF P) = numsV (wordsF P)) := Lib.hid (by unfold numsOr; rw [if_pos hcn])
        go_wp2_with fail
        refine (readNumbers_any _ (wordsF P) _ (by omega) Hws.out (HT1.out.below hbl2).1 HU.out.rd).mono ?_
        rw [hcn, HE.out]
        rintro e w3 ⟨u3, rfl, hu3, hb3⟩
        have hbl3 := below_trans' hbl2 hb3
        have hb23 : Below wr.heap.size wr w3 := below_trans' hb2 hb3
        obtain ⟨a3, c3, rfl⟩ := hu3.rd.slice
        have hx := InI.widen (hu3.inn.below (B := w3.heap.size) ((Below.refl _ _)) (Nat.le_refl _)) (Nat.le_refl _)
        have Hx : Hid (InI w3 w2.heap.size w3.heap.size (.slice a3 (numsV (wordsF P)).length c3) (numsV (wordsF P))) := Lib.hid hu3.inn
        have hown2 : w3.ownsRow w1.heap.size 47 1 (.slice ao k co) k vs := by
          have := ownsRow_below HGv.out.own hb23
          rwa [HXl.out] at this
        obtain ⟨L, hL⟩ : ∃ L, L = (numsV (wordsF P)).length := ⟨_, rfl⟩
        rw [← hL] at Hx ⊢
        have hLw : (wordsF P).length = L := by rw [hL, numsV_length]
        have hs2 := hb2.size
        have hs3 := hb3.size
        have hsl := hbl.size
        rw [hLw] at Hoff hto2
        clear hx hu3 hL hLw
        go_wp2_with (at_builtin; refine wpList_append_own_at _ rfl _ _ 89 rfl w1.heap.size 47 i0 (.slice none 0 0) 1 24 Tryz.underlying89 hi hz0 hz1 hz2 rfl (by decide) _ _ _ rfl (hown2.alloc _) ⟨w3.heap.size, 0, none⟩ 1 1 [.slice a3 L c3] rfl rfl ?d1 (oneCell_slice _ _ _) ?d2 ?d3 ?d4 ?_)
        case d1 => exact cell_one_new' _ _ _ _ rfl
        case d2 => unfold maxLen; omega
        case d3 => omega
        case d4 => simp; omega
        intro v' w4 rown rgrow rnil rloc
        have hG2 : OwG w4 w1.heap.size 47 v' ((rpBI s).take (k + 1)) := by
          rw [Htk.out]
          exact HGv.out.append (hb23.alloc hb23.size _) (((InI_lower (Hx.out.below ((Below.refl _ _).alloc (Nat.le_refl _) _) (Nat.le_refl _)) hs2)).widen (by simp)) hbl.size (by rw [HXl.out]; exact rown) rgrow (rloc.imp id fun e => ⟨_, e, by simp⟩)
        have hb4 : Below w1.heap.size w1 w4 := (hbl3.alloc hbl3.size _).grown rgrow (by simp; omega) (fun q hq => (hown2.lt q hq).1)
        have hwr : (O : Int) + (L : Int) = ((offs (rpBI s) (k + 1) : Nat) : Int) := by rw [Hoff.out]; omega
        clear rown rgrow rnil rloc hown2 hb23
        go_wp2_with fail
        go_roundw
        case rel => exact ⟨k + 1, by omega, by go_num, by rw [← hwr], hG2, hb4⟩
        case measure => simp [intOf]; omega
    · have hkM : k = M := by omega
      have hWL : (rpBI s).length = M := by rw [HBI.out, List.length_map, HM.out]
      rw [List.take_of_length_le (by omega)] at hG
      have hbw := below_trans' hbA hbl
      have hin := hG.inn hbl.size
      have HRD := Lib.hid hin.rd
      obtain ⟨ao, co, hso⟩ := hG.len
      subst hso
      have hoT : Hid ((offs (rpBI s) k : Int) = tot2 (rpBI s)) := Lib.hid (by unfold tot2 total; rw [hkM, hWL])
      have htb : (rpBI s).length + total (rpBI s) ≤ 4194304 := by
        have := rp_total s
        omega
      have htn : -9223372036854775808 ≤ tot2 (rpBI s) ∧ tot2 (rpBI s) ≤ 9223372036854775807 := by
        rw [← hoT.out]; omega
      have Htb := Lib.hid htb
      obtain ⟨B, hB⟩ : ∃ B, B = rpBI s := ⟨_, rfl⟩
      have HBs := Lib.hid hB
      rw [← hB] at HRD hoT Htb htn ⊢
      rw [hoT.out]
      obtain ⟨T, hTq⟩ : ∃ T, T = tot2 B := ⟨_, rfl⟩
      have HTq := Lib.hid hTq
      rw [← hTq] at htn ⊢
      clear hG hin hkM hWL htb hB hTq hto
      cases k0 : decide (fbCode T B = 0) with
      | false =>
        have hne : fbCode T B ≠ 0 := of_decide_eq_false k0
        have HF := Lib.hid (rpI_code_bad (s := s) (by rw [← HBs.out, ← HTq.out]; exact hne))
        have HE := Lib.hid (rp_bad HF.out)
        obtain ⟨C, hC⟩ : ∃ C, C = fbCode T B := ⟨_, rfl⟩
        have HC2 := Lib.hid hC
        have hCb : (C != 0) = true := by simpa [hC] using hne
        clear k0 hne hC
        go_wp2_with fail
        refine (FromBlocks_any T _ B _ htn Htb.out HRD.out).mono ?_
        rw [← HC2.out]
        rintro e w2 ⟨u, rfl, hu, hb2⟩
        go_wp2_with fail
        go_ret2
        exact ⟨_, by rw [HF.out]; rfl, by rw [HE.out]; exact OwI_nil _ _, below_trans' hbw hb2⟩
      | true =>
        have heq : fbCode T B = 0 := of_decide_eq_true k0
        have hP64 := rpB_i64 heq
        have H64 := Lib.hid hP64
        have HX := Lib.hid heq
        obtain ⟨Q, hQ⟩ : ∃ Q, Q = fbOut T B := ⟨_, rfl⟩
        have HQ := Lib.hid hQ
        rw [← hQ] at H64
        clear k0 hP64 heq hQ
        have hlt' := beq_text (partText Q) s
        by_cases ht : partText Q = s
        · have hG2 := rpI_good (s := s) (by rw [← HBs.out, ← HTq.out]; exact HX.out) (by rw [← HBs.out, ← HTq.out, ← HQ.out]; exact ht)
          have HF := Lib.hid hG2.1
          have HE : Hid (rpOut s = Q) := Lib.hid (by rw [hG2.2, ← HBs.out, ← HTq.out, ← HQ.out])
          rw [decide_eq_true ht] at hlt'
          have Ht := Lib.hid ht
          obtain ⟨S, hS⟩ : ∃ S, S = partText Q := ⟨_, rfl⟩
          have HS := Lib.hid hS
          rw [← hS] at hlt'
          clear hG2 ht hS
          go_wp2_with fail
          refine (FromBlocks_any T _ B _ htn Htb.out HRD.out).mono ?_
          rw [HX.out, ← HQ.out]
          rintro e w2 ⟨u, rfl, hu, hb2⟩
          obtain ⟨a2, c2, rfl⟩ := hu.rd.slice
          have HU := Lib.hid hu
          have hbw2 := below_trans' hbw hb2
          clear hu
          go_wp2_with fail
          refine (PartitionText_any _ Q _ H64.out.2 H64.out.1 ((HT1.out.below hbl).below hb2).1.1 HU.out.rd).mono ?_
          rw [← HS.out]
          rintro e w3 ⟨rfl, hb3⟩
          have hsz2 := hbw.size
          go_wp2_with fail
          go_ret2
          exact ⟨_, by rw [HF.out]; rfl, by rw [HE.out]; exact (OwI.mono' HU.out hsz2).below hb3, below_trans' hbw2 hb3⟩
        · have HF := Lib.hid (rpI_text_bad (s := s) (by rw [← HBs.out, ← HTq.out, ← HQ.out]; exact ht))
          have HE := Lib.hid (rp_bad HF.out)
          rw [decide_eq_false ht] at hlt'
          obtain ⟨S, hS⟩ : ∃ S, S = partText Q := ⟨_, rfl⟩
          have HS := Lib.hid hS
          rw [← hS] at hlt'
          clear ht hS
          go_wp2_with fail
          refine (FromBlocks_any T _ B _ htn Htb.out HRD.out).mono ?_
          rw [HX.out, ← HQ.out]
          rintro e w2 ⟨u, rfl, hu, hb2⟩
          obtain ⟨a2, c2, rfl⟩ := hu.rd.slice
          have HU := Lib.hid hu
          have hbw2 := below_trans' hbw hb2
          clear hu
          go_wp2_with fail
          refine (PartitionText_any _ Q _ H64.out.2 H64.out.1 ((HT1.out.below hbl).below hb2).1.1 HU.out.rd).mono ?_
          rw [← HS.out]
          rintro e w3 ⟨rfl, hb3⟩
          go_wp2_with fail
          go_ret2
          exact ⟨_, by rw [HF.out]; rfl, by rw [HE.out]; exact OwI_nil _ _, below_trans' hbw2 hb3⟩
end Go.Proofs.YtcakmchefbohoaaGreatDoor
