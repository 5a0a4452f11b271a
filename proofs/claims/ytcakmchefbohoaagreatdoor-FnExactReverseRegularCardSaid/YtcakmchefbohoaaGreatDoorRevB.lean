/- Contracts: the elements of a tree; ReverseRegular of the program. -/
import Derived.Test.YtcakmchefbohoaaGreatDoorProg
import Derived.Test.YtcakmchefbohoaaGreatDoorMem
import Derived.Test.YtcakmchefbohoaaGreatDoorMath
import Derived.Test.YtcakmchefbohoaaGreatDoorBasics
import Derived.Test.YtcakmchefbohoaaGreatDoorOpenI
import Derived.Test.YtcakmchefbohoaaGreatDoorHelpI
import Derived.Test.YtcakmchefbohoaaGreatDoorGrid
import Derived.Test.YtcakmchefbohoaaGreatDoorLab
import Derived.Test.YtcakmchefbohoaaGreatDoorDec
import Derived.Test.YtcakmchefbohoaaGreatDoorEnv
import Derived.Test.YtcakmchefbohoaaGreatDoorRLab
import Derived.Test.YtcakmchefbohoaaGreatDoorReg
import Derived.Test.YtcakmchefbohoaaGreatDoorRegW
import Derived.Test.YtcakmchefbohoaaGreatDoorVReg
import Derived.Test.YtcakmchefbohoaaGreatDoorTreeR
import Derived.Test.YtcakmchefbohoaaGreatDoorConc
import Derived.Test.YtcakmchefbohoaaGreatDoorEmp
import Derived.Test.YtcakmchefbohoaaGreatDoorRgs
import Derived.Test.YtcakmchefbohoaaGreatDoorRevA
import Derived.WalkKit
import Derived.BigQuiet
import Derived.BigRegion
import Derived.Deep.QuietTactic
import Derived.Maps.AppendAt
import Derived.Laws.OwnMore
import Derived.Lib.SliceRun
import Derived.Maps.Range
import Derived.Deep.AppendLies
import Derived.Deep.RegionLaw
import Derived.Lib.Hide
import Derived.Outline
set_option linter.unusedVariables false
set_option linter.unusedSimpArgs false
namespace Go.Proofs.YtcakmchefbohoaaGreatDoor
open Go.RowKit

set_option maxRecDepth 100000 in
set_option maxHeartbeats 4000000 in
theorem elements_aux : ∀ (N : Nat) (x : Rg) (kids : FRg), kids.flat.length < N → ∀ (b B : Nat) (w : World) (K : Nat → Prop) (out : Value) (l : List Rg), FAtRg w K (.cons x kids .nil) [.pointer (some ⟨b, 0, none⟩)] → w.ownsRow B 63 3 out l.length (rgCells l) → B ≤ w.heap.size → (∀ c, out.ownBlock = some c → ¬ K c) → (l ++ x :: kids.flat).length ≤ 1048576 →
    Calls Tryz.prog 55 #[.pointer (some ⟨b, 0, none⟩), out] w fun e w' => ∃ u, e = .returned u ∧ w'.ownsRow B 63 3 u (l ++ x :: kids.flat).length (rgCells (l ++ x :: kids.flat)) ∧ w.grownBy w' out.ownBlock ∧ (u.ownBlock = out.ownBlock ∨ ∃ c, u.ownBlock = some c ∧ w.heap.size ≤ c) := by
  intro N
  induction N with
  | zero => intro x kids h; exact absurd h (by omega)
  | succ N ihN => ?_
  intro x kids hNk b B w K out l hF hown hB hK hlen
  have IH := Lib.hid ihN
  clear ihN
  obtain ⟨b', qs, v, ps', e, h1, h2, h3, h4, ⟨a, cap, rfl, h5, h6, h7⟩, h8, h9⟩ := hF
  cases e
  have c0 := h3 0 (by decide)
  have c1 := h3 1 (by decide)
  have c2 := h3 2 (by decide)
  unfold rgv at c0 c1 c2
  rw [if_pos rfl] at c0
  rw [if_neg (by decide), if_pos rfl] at c1
  rw [if_neg (by decide), if_neg (by decide)] at c2
  have hql := h8.len
  have H7 := Lib.hid h7
  have H8 := Lib.hid h8
  have HK := Lib.hid hK
  have HO := Lib.hid hown
  have Hlen := Lib.hid hlen
  have hle := FRg.len_le_flat kids
  simp only [List.length_append, List.length_cons] at hlen
  obtain ⟨m, hm⟩ : ∃ m, m = qs.length := ⟨_, rfl⟩
  rw [← hm] at h4 h5 hql
  have Hm := Lib.hid hm
  have Hql := Lib.hid hql
  have hmb : m ≤ 1048576 := by omega
  obtain ⟨i0, hi, hz0, hz1, hz2⟩ := info_parts infoRg
  obtain ⟨ao, co, rfl⟩ := owned_slice hown
  have hKb : some b ≠ (Value.slice ao l.length co).ownBlock := fun e => hK b e.symm h1
  have HX1 : Hid (rgCells l ++ [.int .i64 x.kind, .string x.lab, .bool x.neg] = rgCells (l ++ [x])) := Lib.hid (by rw [← rgCells_append, rgCells_single])
  clear h3 h7 h8 h9 hm hle hql hown hK
  go_enter Tryz.func55, Tryz.ntmps55
  go_wp2_with (at_builtin; refine wpList_append_own_at _ rfl _ _ 29 rfl B 63 i0 (.agg #[.int .i64 0, .string ByteArray.empty, .bool false]) 3 32 Tryz.underlying29 hi hz0 hz1 hz2 rfl (by decide) _ l.length (rgCells l) rfl (HO.out.alloc _) ⟨w.heap.size, 0, none⟩ 1 1 [.int .i64 x.kind, .string x.lab, .bool x.neg] rfl rfl (rg_new _ _ _ _ _ _ rfl) (by simp [Value.oneCell']) ?c2 ?c3 ?c4 ?_)
  case c2 => unfold maxLen; omega
  case c3 => omega
  case c4 => simp; omega
  intro v' w3 hown' hgrow hnil hloc
  rw [HX1.out] at hown'
  have hg3 := (World.grownBy_alloc w (.cells #[.int .i64 x.kind, .string x.lab, .bool x.neg] 63) (Value.slice ao l.length co).ownBlock).trans hgrow
  have d3 := hg3.cell h4 hKb
  obtain ⟨a3, c3, rfl⟩ := owned_slice hown'
  have HG3 := Lib.hid hg3
  have HO3 : Hid (w3.ownsRow B 63 3 (.slice a3 (l.length + 1) c3) (l.length + 1) (rgCells (l ++ x :: FRg.nil.flat))) := Lib.hid hown'
  have HL3 : Hid ((Value.slice a3 (l.length + 1) c3).ownBlock = (Value.slice ao l.length co).ownBlock ∨ ∃ c, (Value.slice a3 (l.length + 1) c3).ownBlock = some c ∧ w.heap.size ≤ c) := Lib.hid (hloc.imp id fun e => ⟨_, e, by simp⟩)
  clear hown' hgrow hnil hloc hg3 HX1 HO c0 c1 c2
  go_wp2_with fail
  go_loopw [1, 19] (fun so si wr => ∃ (k : Nat) (D R : FRg) (L : Nat) (ar : Option Addr) (cr : Nat), k ≤ m ∧ si = .int .i64 k ∧ so = .slice ar L cr ∧ Hid (D.app R = kids ∧ D.len = k) ∧ Hid (L = (l ++ x :: D.flat).length) ∧ Hid (wr.ownsRow B 63 3 (.slice ar L cr) L (rgCells (l ++ x :: D.flat))) ∧ Hid (w.grownBy wr (Value.slice ao l.length co).ownBlock) ∧
      Hid ((Value.slice ar L cr).ownBlock = (Value.slice ao l.length co).ownBlock ∨ ∃ c, (Value.slice ar L cr).ownBlock = some c ∧ w.heap.size ≤ c))
    (fun _ si _ => m - (intOf si).toNat)
  case atStart => exact ⟨0, .nil, kids, _, _, _, Nat.zero_le _, rfl, rfl, Lib.hid ⟨rfl, rfl⟩, Lib.hid (by simp [FRg.flat]), HO3, HG3, HL3⟩
  case round =>
    clear d3 HO3 HG3 HL3
    obtain ⟨k, D, R, L, ar, cr, hk, rfl, rfl, HD, HL, HO, HG, HLo⟩ := hrel
    by_cases hlt : k < m
    · obtain ⟨y, kk, nx, rfl⟩ := FRg.behind HD.out Hql.out hlt
      have hfl : kids.flat = D.flat ++ (y :: (kk.flat ++ nx.flat)) := by rw [← HD.out.1, FRg.flat_app]; rfl
      have hsz := congrArg List.length hfl
      simp only [List.length_cons, List.length_append] at hsz
      have hsp := H8.out
      rw [← HD.out.1] at hsp
      obtain ⟨qa, qb, hq1, hq2, hq3⟩ := FAtRg.split hsp
      obtain ⟨p, qb', rfl⟩ := hq3.cons_ps
      obtain ⟨f1, _, b1, rfl⟩ := hq3.head
      have F1 : Hid (FAtRg wr (fun c => K c ∧ c < w.heap.size) (.cons y kk .nil) [.pointer (some ⟨b1, 0, none⟩)]) := Lib.hid (f1.mono HG.out.size fun c q1 q2 => ⟨HG.out.block c q2 fun e => HK.out c e.symm q1, q1, q2⟩)
      obtain ⟨b2, o2, rfl, r1, r2, r3⟩ := H7.out (by rw [← Hm.out]; omega)
      have rk := r3 k (by rw [← Hm.out]; exact hlt)
      rw [hq1, List.getD_eq_getElem?_getD, List.getElem?_append_right (by rw [hq2, HD.out.2]; exact Nat.le_refl _), hq2, HD.out.2, Nat.sub_self] at rk
      simp only [List.getElem?_cons_zero, Option.getD_some] at rk
      have rk2 := HG.out.cell rk fun e => HK.out b2 e.symm r1
      have hD4 : (D.app (.cons y kk .nil)).app nx = kids := by rw [FRg.app_assoc]; exact HD.out.1
      have HD2 : Hid ((D.app (.cons y kk .nil)).app nx = kids ∧ (D.app (.cons y kk .nil)).len = k + 1) := Lib.hid ⟨hD4, by rw [FRg.len_app, HD.out.2]; rfl⟩
      have hkN : kk.flat.length < N := by omega
      have HF2 : Hid ((l ++ x :: D.flat) ++ y :: kk.flat = l ++ x :: (D.app (.cons y kk .nil)).flat) := Lib.hid (by simp [FRg.flat_app, FRg.flat])
      have HL2 : Hid (((l ++ x :: D.flat) ++ y :: kk.flat).length ≤ 1048576) := Lib.hid (by simp only [List.length_append, List.length_cons]; omega)
      have HK2 : Hid (∀ c, (Value.slice ar L cr).ownBlock = some c → ¬ (K c ∧ c < w.heap.size)) := Lib.hid (fun c hc hkc => by
        rcases HLo.out with e | ⟨c', e, hge⟩
        · exact HK.out c (e ▸ hc) hkc.1
        · rw [e] at hc; cases hc; omega)
      have HB2 : Hid (B ≤ wr.heap.size) := Lib.hid (by have := HG.out.size; omega)
      have HOL : Hid (wr.ownsRow B 63 3 (.slice ar L cr) (l ++ x :: D.flat).length (rgCells (l ++ x :: D.flat))) := Lib.hid (by rw [← HL.out]; exact HO.out)
      clear hfl hsz hsp hq1 hq2 hq3 f1 r1 r2 r3 rk hD4 HD
      go_wp2_with fail
      refine (IH.out y kk hkN b1 B _ (fun c => K c ∧ c < w.heap.size) _ (l ++ x :: D.flat) F1.out HOL.out HB2.out HK2.out HL2.out).mono ?_
      rintro e w4 ⟨u, rfl, hu, hg4, hl4⟩
      rw [HF2.out] at hu
      obtain ⟨a4, c4, rfl⟩ := owned_slice hu
      have HO4 := Lib.hid hu
      have HG4 : Hid (w.grownBy w4 (Value.slice ao l.length co).ownBlock) := Lib.hid (HG.out.andThen hg4 fun j hj => by
        rcases HLo.out with e | ⟨c', e, hge⟩
        · exact Or.inr (e ▸ hj)
        · rw [e] at hj; cases hj; exact Or.inl hge)
      have HL4 : Hid ((Value.slice a4 (l ++ x :: (D.app (.cons y kk .nil)).flat).length c4).ownBlock = (Value.slice ao l.length co).ownBlock ∨ ∃ c, (Value.slice a4 (l ++ x :: (D.app (.cons y kk .nil)).flat).length c4).ownBlock = some c ∧ w.heap.size ≤ c) := Lib.hid (by
        rcases hl4 with e | ⟨c', e, hge⟩
        · rcases HLo.out with e2 | ⟨c2, e2, hge2⟩
          · exact Or.inl (e.trans e2)
          · exact Or.inr ⟨c2, e.trans e2, hge2⟩
        · exact Or.inr ⟨c', e, Nat.le_trans HG.out.size hge⟩)
      clear hu hg4 hl4 HOL HF2 HL2 HK2 F1 IH
      obtain ⟨L4, hL4⟩ : ∃ L4, L4 = (l ++ x :: (D.app (.cons y kk .nil)).flat).length := ⟨_, rfl⟩
      rw [← hL4] at HO4 HL4 ⊢
      have HLE := Lib.hid hL4
      clear hL4
      go_wp2_with fail
      go_roundw
      case rel => exact ⟨k + 1, D.app (.cons y kk .nil), nx, L4, a4, c4, by omega, by go_num, rfl, HD2, HLE, HO4, HG4, HL4⟩
      case measure => simp [intOf] <;> omega
    · have hkm2 : k = m := by omega
      have HE := FRg.done HD.out Hql.out hkm2
      subst HE
      have HOL : Hid (wr.ownsRow B 63 3 (.slice ar L cr) (l ++ x :: D.flat).length (rgCells (l ++ x :: D.flat))) := Lib.hid (by rw [← HL.out]; exact HO.out)
      go_wp2_with fail
      go_ret
      exact ⟨_, rfl, HOL.out, HG.out, HLo.out⟩
set_option maxRecDepth 100000 in
set_option maxHeartbeats 2000000 in
theorem ReverseRegular_any (v : Value) (f : List Rg) (w : World) (hn : f.length ≤ 1048576) (hls : ∀ i, i < f.length → (rgnth f i).lab.size ≤ 1048576) (hT : Env w) (hv : RdRg w v f) :
    Calls Tryz.prog 27 #[v] w fun e w' => ∃ u, e = .returned (.tuple #[u, .int .i64 (revC f)]) ∧ OwRg w' w.heap.size u (revL f) ∧ Below w.heap.size w w' := by
  have HV := Lib.hid hv
  obtain ⟨a, cap, rfl⟩ := hv.slice
  clear hv
  cases hvm : validR f with
  | false =>
    have hM : Hid (revL f = []) := Lib.hid (by unfold revL; rw [hvm]; rfl)
    have hC : Hid (revC f = 1) := Lib.hid (by unfold revC; rw [hvm]; rfl)
    rw [hM.out, hC.out]
    go_enter Tryz.func27, Tryz.ntmps27
    go_wp2_with fail
    refine (ValidRegular_any _ f _ hn hls hT HV.out).mono ?_
    rw [hvm]
    rintro e w1 ⟨rfl, hb1⟩
    go_wp2_with fail
    go_ret2
    exact ⟨_, rfl, OwRg_zero _ _, hb1⟩
  | true =>
    obtain ⟨hs1, hs2⟩ := validR_shape hvm
    obtain ⟨x, kids, hB, hok, hf⟩ := FRg.one hs1 hs2
    have hM := revL_eq hvm hB
    have hC : Hid (revC f = 0) := Lib.hid (by unfold revC; rw [hvm]; rfl)
    rw [hC.out]
    obtain ⟨K2, hK2⟩ : ∃ K2, K2 = (if x.kind = 1 then FRg.rvs (FRg.mir kids) else FRg.mir kids) := ⟨_, rfl⟩
    rw [← hK2] at hM
    have HM := Lib.hid hM
    have hl2 := revL_len f
    rw [hM] at hl2
    have HL2 : Hid (([] ++ x :: K2.flat : List Rg).length ≤ 1048576) := Lib.hid (by rw [List.nil_append]; omega)
    have Hmir : Hid (FRg.mir (.cons x kids .nil) = .cons x K2 .nil) := Lib.hid (by rw [hK2]; rfl)
    have Hok := Lib.hid hok
    have Hf := Lib.hid hf
    have hkl : kids.flat.length ≤ 1048576 := by have := congrArg List.length hf; simp only [List.length_cons] at this; omega
    obtain ⟨L, hL⟩ : ∃ L, L = f.length := ⟨_, rfl⟩
    rw [← hL] at HV ⊢
    have hL1 := Lib.hid hL
    clear hs1 hs2 hB hok hf hL hM hl2 hK2
    go_enter Tryz.func27, Tryz.ntmps27
    go_wp2_with fail
    refine (ValidRegular_any _ f _ hn hls hT HV.out).mono ?_
    rw [hvm]
    rintro e w1 ⟨rfl, hb1⟩
    go_wp2_with fail
    refine (regularOf_any x kids _ _ Hok.out (by rw [← Hf.out]; exact hn) (by rw [← Hf.out]; exact HV.out.below hb1)).mono ?_
    rintro e w2 ⟨b, rfl, hF, hb2⟩
    have HF := Lib.hid hF
    have hbl := below_trans' hb1 hb2
    clear hF
    go_wp2_with fail
    refine (reversed_aux (kids.flat.length + 1) x kids (Nat.lt_succ_self _) b _ _ Hok.out hkl HF.out).mono ?_
    rintro e w3 ⟨b3, rfl, hF3, hb3⟩
    rw [Hmir.out] at hF3
    have HF3 := Lib.hid hF3
    have hbl3 := below_trans' hbl hb3
    clear hF3
    go_wp2_with fail
    refine (elements_aux (K2.flat.length + 1) x K2 (Nat.lt_succ_self _) b3 w.heap.size _ _ _ [] HF3.out (World.ownsRow_nil _ _ _ _) hbl3.size (fun c h => by cases h) HL2.out).mono ?_
    rintro e w4 ⟨u, rfl, hu, hg4, _⟩
    rw [List.nil_append, ← HM.out] at hu
    have HU := Lib.hid (own_rg hu)
    have hbl4 := hbl3.grown hg4 hbl3.size (fun k h => by cases h)
    obtain ⟨a4, c4, rfl⟩ := owned_slice hu
    clear hu
    go_wp2_with fail
    go_ret2
    exact ⟨_, rfl, HU.out, hbl4⟩
end Go.Proofs.YtcakmchefbohoaaGreatDoor
